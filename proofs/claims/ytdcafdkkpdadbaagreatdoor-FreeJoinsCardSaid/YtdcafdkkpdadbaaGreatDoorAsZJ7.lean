import Derived.Test.YtdcafdkkpdadbaaGreatDoorAsZJ6
set_option linter.unusedSectionVars false
set_option linter.unusedVariables false
set_option linter.unusedSimpArgs false
section
namespace Go.As.Try
open Go hiding Stat Spec shape
open Go.As Go.Proofs
set_option maxRecDepth 100000
abbrev aI (n:Nat):AV:=.int .i64 (.aQ n)
abbrev aJ (n:Int):AV:=.int .i64 (.lit n)
abbrev aU (n:Nat):AV:=.int .u8 (.aQ n)
abbrev aD (n t:Nat):AV:=.dat (.aQ n) t
abbrev aS (n:Nat):AV:=.lX (.aQ n)
abbrev aB (n:Nat):AV:=.bool (.not (.eq (.aQ n) (.lit 0)))
abbrev aV (b n t:Nat):AV:=.uK b (.op .len (.aQ n) (.lit 0)) t
abbrev aE (n t:Nat):AV:=.G9 (.aQ n) t
def aAQ:FE:=⟨9000,85,[],[],some (⟨2,[(0,aD 1 7) ],[],[],.lit 0⟩,[],0),[⟨2,[(0,aV 0 1 7)],[.vec (.aQ 1) 7 114 []],[],.lit 0⟩,⟨1,[(0,.aA) ],[],[],.lit 0⟩,⟨1,[(0,.slice 0 0 0 (.exact 0))],[.cells [] 114 ],[],.lit 0⟩,⟨8,[(0,aV 0 1 7)],[.vec (.aQ 1) 7 114 [(.aQ 0,[aI 2,aI 3,aB 4,aI 5,aV 1 6 0,aV 2 7 0])],
 .vec (.aQ 6) 0 3 [],
 .vec (.aQ 7) 0 2 []],[],.aQ 0⟩,⟨8,[(0,aV 0 1 7)],[.vec (.aQ 1) 7 114 [(.aQ 0,[aI 2,aI 3,aB 4,aI 5,aV 1 6 0,aE 7 0])],
 .vec (.aQ 6) 0 3 []],[],.aQ 0⟩,⟨8,[(0,aV 0 1 7)],[.vec (.aQ 1) 7 114 [(.aQ 0,[aI 2,aI 3,aB 4,aI 5,aE 6 0,aV 1 7 0])],
 .vec (.aQ 7) 0 2 []],[],.aQ 0⟩,⟨8,[(0,aV 0 1 7)],[.vec (.aQ 1) 7 114 [(.aQ 0,[aI 2,aI 3,aB 4,aI 5,aE 6 0,aE 7 0])]],[],.aQ 0⟩],[(3,1)],[11],1,[(8,0)],[],
 [([0,1,0,1,1],⟨4,[(0,aV 0 1 7),(7,aI 2),(8,aI 3)],[.vec (.aQ 1) 7 114 []],[],.lit 0⟩),([0,1,0,1,1],⟨1,[(0,.aA),(7,aJ 0),(8,aJ 0) ],[],[],.lit 0⟩),([0,1,0,1,1],⟨1,[(0,.slice 0 0 0 (.exact 0)),(7,aJ 0),(8,aJ 0)],[.cells [] 114 ],[],.lit 0⟩),([0,1,0,1,1],⟨10,[(0,aV 0 1 7),(7,aI 2),(8,aI 3)],[.vec (.aQ 1) 7 114 [(.aQ 0,[aI 4,aI 5,aB 6,aI 7,aV 1 8 0,aV 2 9 0])],
  .vec (.aQ 8) 0 3 [],
  .vec (.aQ 9) 0 2 []],[],.lit 0⟩),([0,1,0,1,1],⟨10,[(0,aV 0 1 7),(7,aI 2),(8,aI 3)],[.vec (.aQ 1) 7 114 [(.aQ 0,[aI 4,aI 5,aB 6,aI 7,aV 1 8 0,aE 9 0])],
  .vec (.aQ 8) 0 3 []],[],.lit 0⟩),([0,1,0,1,1],⟨10,[(0,aV 0 1 7),(7,aI 2),(8,aI 3)],[.vec (.aQ 1) 7 114 [(.aQ 0,[aI 4,aI 5,aB 6,aI 7,aE 8 0,aV 1 9 0])],
  .vec (.aQ 9) 0 2 []],[],.lit 0⟩),([0,1,0,1,1],⟨10,[(0,aV 0 1 7),(7,aI 2),(8,aI 3)],[.vec (.aQ 1) 7 114 [(.aQ 0,[aI 4,aI 5,aB 6,aI 7,aE 8 0,aE 9 0])]],[],.lit 0⟩)]⟩
def aAP:FE:=⟨9050,24,[],[],some (⟨3,[(0,.agg [aD 1 7,aD 2 8]) ],[],[],.lit 0⟩,[],0),[⟨3,[(0,.agg [aD 1 7,aV 0 2 8])],[.vec (.aQ 2) 8 92 []],[],.lit 0⟩,⟨2,[(0,.agg [aD 1 7,.aA]) ],[],[],.lit 0⟩,⟨2,[(0,.agg [aD 1 7,.slice 0 0 0 (.exact 0)])],[.cells [] 92 ],[],.lit 0⟩,⟨9,[(0,.agg [aD 1 7,aV 0 2 8])],[.vec (.aQ 2) 8 92 [(.aQ 0,[aI 3,aV 1 4 0,aU 5,aI 6,aI 7,aI 8])],
 .vec (.aQ 4) 0 2 []],[],.aQ 0⟩,⟨9,[(0,.agg [aD 1 7,aV 0 2 8])],[.vec (.aQ 2) 8 92 [(.aQ 0,[aI 3,aE 4 0,aU 5,aI 6,aI 7,aI 8])]],[],.aQ 0⟩],[(2,0)],[10],1,[(44,0)],[(0,0,7)],
 [([0,1,0,1,1],⟨5,[(1,.ptr 0 0),(2,.ptr 1 0),(16,aI 1),(17,aI 2)],[.cells [aV 2 3 7,aV 3 4 8] 34,
  .cells [.aA,.aA] 34,
  .vec (.aQ 3) 7 114 [],
  .vec (.aQ 4) 8 92 []],[],.lit 0⟩),([0,1,0,1,1],⟨4,[(1,.ptr 0 0),(2,.ptr 1 0),(16,aI 1),(17,aI 2)],[.cells [aV 2 3 7,.aA] 34,
  .cells [.aA,.aA] 34,
  .vec (.aQ 3) 7 114 []],[],.lit 0⟩),([0,1,0,1,1],⟨4,[(1,.ptr 0 0),(2,.ptr 1 0),(16,aI 1),(17,aI 2)],[.cells [aV 2 3 7,.slice 3 0 0 (.exact 0)] 34,
  .cells [.aA,.aA] 34,
  .vec (.aQ 3) 7 114 [],
  .cells [] 92 ],[],.lit 0⟩),([0,1,0,1,1],⟨2,[(1,.ptr 0 0),(2,.ptr 1 0),(16,aJ 0),(17,aJ 0)],[.cells [.aA,aV 2 1 8] 34,
  .cells [.aA,.aA] 34,
  .vec (.aQ 1) 8 92 []],[],.lit 0⟩),([0,1,0,1,1],⟨1,[(1,.ptr 0 0),(2,.ptr 1 0),(16,aJ 0),(17,aJ 0)],[.cells [.aA,.aA] 34,
  .cells [.aA,.aA] 34 ],[],.lit 0⟩),([0,1,0,1,1],⟨1,[(1,.ptr 0 0),(2,.ptr 1 0),(16,aJ 0),(17,aJ 0)],[.cells [.aA,.slice 2 0 0 (.exact 0)] 34,
  .cells [.aA,.aA] 34,
  .cells [] 92 ],[],.lit 0⟩),([0,1,0,1,1],⟨2,[(1,.ptr 0 0),(2,.ptr 1 0),(16,aJ 0),(17,aJ 0)],[.cells [.slice 2 0 0 (.exact 0),aV 3 1 8] 34,
  .cells [.aA,.aA] 34,
  .cells [] 114,
  .vec (.aQ 1) 8 92 []],[],.lit 0⟩),([0,1,0,1,1],⟨1,[(1,.ptr 0 0),(2,.ptr 1 0),(16,aJ 0),(17,aJ 0)],[.cells [.slice 2 0 0 (.exact 0),.aA] 34,
  .cells [.aA,.aA] 34,
  .cells [] 114 ],[],.lit 0⟩),([0,1,0,1,1],⟨1,[(1,.ptr 0 0),(2,.ptr 1 0),(16,aJ 0),(17,aJ 0)],[.cells [.slice 2 0 0 (.exact 0),.slice 3 0 0 (.exact 0)] 34,
  .cells [.aA,.aA] 34,
  .cells [] 114,
  .cells [] 92 ],[],.lit 0⟩),([0,1,0,1,1,1],⟨5,[(1,.ptr 0 0),(2,.ptr 1 0),(43,aI 1),(44,aI 2)],[.cells [aV 2 3 7,aV 3 4 8] 34,
  .cells [.aA,.aA] 34,
  .vec (.aQ 3) 7 114 [],
  .vec (.aQ 4) 8 92 []],[],.lit 0⟩),([0,1,0,1,1,1],⟨2,[(1,.ptr 0 0),(2,.ptr 1 0),(43,aJ 0),(44,aJ 0)],[.cells [aV 2 1 7,.aA] 34,
  .cells [.aA,.aA] 34,
  .vec (.aQ 1) 7 114 []],[],.lit 0⟩),([0,1,0,1,1,1],⟨2,[(1,.ptr 0 0),(2,.ptr 1 0),(43,aJ 0),(44,aJ 0)],[.cells [aV 2 1 7,.slice 3 0 0 (.exact 0)] 34,
  .cells [.aA,.aA] 34,
  .vec (.aQ 1) 7 114 [],
  .cells [] 92 ],[],.lit 0⟩),([0,1,0,1,1,1],⟨4,[(1,.ptr 0 0),(2,.ptr 1 0),(43,aI 1),(44,aI 2)],[.cells [.aA,aV 2 3 8] 34,
  .cells [.aA,.aA] 34,
  .vec (.aQ 3) 8 92 []],[],.lit 0⟩),([0,1,0,1,1,1],⟨1,[(1,.ptr 0 0),(2,.ptr 1 0),(43,aJ 0),(44,aJ 0)],[.cells [.aA,.aA] 34,
  .cells [.aA,.aA] 34 ],[],.lit 0⟩),([0,1,0,1,1,1],⟨1,[(1,.ptr 0 0),(2,.ptr 1 0),(43,aJ 0),(44,aJ 0)],[.cells [.aA,.slice 2 0 0 (.exact 0)] 34,
  .cells [.aA,.aA] 34,
  .cells [] 92 ],[],.lit 0⟩),([0,1,0,1,1,1],⟨4,[(1,.ptr 0 0),(2,.ptr 1 0),(43,aI 1),(44,aI 2)],[.cells [.slice 2 0 0 (.exact 0),aV 3 3 8] 34,
  .cells [.aA,.aA] 34,
  .cells [] 114,
  .vec (.aQ 3) 8 92 []],[],.lit 0⟩),([0,1,0,1,1,1],⟨1,[(1,.ptr 0 0),(2,.ptr 1 0),(43,aJ 0),(44,aJ 0)],[.cells [.slice 2 0 0 (.exact 0),.aA] 34,
  .cells [.aA,.aA] 34,
  .cells [] 114 ],[],.lit 0⟩),([0,1,0,1,1,1],⟨1,[(1,.ptr 0 0),(2,.ptr 1 0),(43,aJ 0),(44,aJ 0)],[.cells [.slice 2 0 0 (.exact 0),.slice 3 0 0 (.exact 0)] 34,
  .cells [.aA,.aA] 34,
  .cells [] 114,
  .cells [] 92 ],[],.lit 0⟩),([0,1,0,1,1,1],⟨11,[(1,.ptr 0 0),(2,.ptr 1 0),(43,aI 1),(44,aI 2)],[.cells [aV 2 3 7,aV 3 4 8] 34,
  .cells [.aA,.aA] 34,
  .vec (.aQ 3) 7 114 [],
  .vec (.aQ 4) 8 92 [(.aQ 0,[aI 5,aV 4 6 0,aU 7,aI 8,aI 9,aI 10])],
  .vec (.aQ 6) 0 2 []],[],.lit 0⟩),([0,1,0,1,1,1],⟨11,[(1,.ptr 0 0),(2,.ptr 1 0),(43,aI 1),(44,aI 2)],[.cells [aV 2 3 7,aV 3 4 8] 34,
  .cells [.aA,.aA] 34,
  .vec (.aQ 3) 7 114 [],
  .vec (.aQ 4) 8 92 [(.aQ 0,[aI 5,aE 6 0,aU 7,aI 8,aI 9,aI 10])]],[],.lit 0⟩),([0,1,0,1,1,1],⟨10,[(1,.ptr 0 0),(2,.ptr 1 0),(43,aI 1),(44,aI 2)],[.cells [.aA,aV 2 3 8] 34,
  .cells [.aA,.aA] 34,
  .vec (.aQ 3) 8 92 [(.aQ 0,[aI 4,aV 3 5 0,aU 6,aI 7,aI 8,aI 9])],
  .vec (.aQ 5) 0 2 []],[],.lit 0⟩),([0,1,0,1,1,1],⟨10,[(1,.ptr 0 0),(2,.ptr 1 0),(43,aI 1),(44,aI 2)],[.cells [.aA,aV 2 3 8] 34,
  .cells [.aA,.aA] 34,
  .vec (.aQ 3) 8 92 [(.aQ 0,[aI 4,aE 5 0,aU 6,aI 7,aI 8,aI 9])]],[],.lit 0⟩),([0,1,0,1,1,1],⟨10,[(1,.ptr 0 0),(2,.ptr 1 0),(43,aI 1),(44,aI 2)],[.cells [.slice 2 0 0 (.exact 0),aV 3 3 8] 34,
  .cells [.aA,.aA] 34,
  .cells [] 114,
  .vec (.aQ 3) 8 92 [(.aQ 0,[aI 4,aV 4 5 0,aU 6,aI 7,aI 8,aI 9])],
  .vec (.aQ 5) 0 2 []],[],.lit 0⟩),([0,1,0,1,1,1],⟨10,[(1,.ptr 0 0),(2,.ptr 1 0),(43,aI 1),(44,aI 2)],[.cells [.slice 2 0 0 (.exact 0),aV 3 3 8] 34,
  .cells [.aA,.aA] 34,
  .cells [] 114,
  .vec (.aQ 3) 8 92 [(.aQ 0,[aI 4,aE 5 0,aU 6,aI 7,aI 8,aI 9])]],[],.lit 0⟩)]⟩
def aDP:FE:=⟨100,6,[.agg [(.sl 3),(.sl 4)]],[.one .bool],none,[],[],[],0,[],[],
 [([0,1,0,1,1],⟨5,[(1,.ptr 0 0),(3,aI 0),(17,aI 1),(18,aI 2)],[.cells [aD 3 3,aD 4 4] 25 ],[],.lit 0⟩),([0,1,1,1,0,0,1,1,0,0,1,0,1,1],⟨6,[(1,.ptr 0 0),(3,aI 0),(4,aI 1),(5,aI 2),(17,aI 3),(18,aI 1)],[.cells [aD 4 3,aD 5 4] 25 ],[],.lit 0⟩),([0,1,0,0,1,0,0,1,1,1,0,0,1,1,0,0,1,0,1,1],⟨9,[(1,.ptr 0 0),(3,aI 0),(4,aI 1),(5,aI 2),(17,aI 3),(18,aI 1),(62,aD 4 6),(63,aI 5),(64,aI 6)],[.cells [aD 7 3,aD 8 4] 25 ],[],.lit 0⟩)]⟩
def aDO:FE:=⟨150,17,[.agg [(.int .u8),.str,(.int .i64),(.sl 6)],.one (.int .i64)],[.one (.int .i64)],none,[],[],[],0,[],[],
 [([0,1,0,1,1,1],⟨7,[(1,aI 0),(2,.ptr 0 0),(5,aI 1),(6,aI 2)],[.cells [aU 3,aS 4,aI 5,aD 6 6] 69 ],[],.lit 0⟩)]⟩
def aDN:FE:=⟨200,30,[.one (.sl 7),.one (.sl 7)],[.one .bool],none,[],[],[],0,[],[],
 [([0,1,0,1,1],⟨4,[(0,aD 0 7),(1,aD 1 7),(15,aI 2),(16,aI 3) ],[],[],.lit 0⟩),([0,1,1,1,1,0,0,1,1,0,0,1,0,1,1],⟨18,[(0,aD 0 7),(1,aD 1 7),(6,.ptr 0 0),(7,.ptr 1 0),(15,aI 2),(16,aI 3),(72,aI 4),(73,aI 5)],[.cells [aI 6,aI 7,aB 8,aI 9,aD 10 0,aD 11 0] 114,
  .cells [aI 12,aI 13,aB 14,aI 15,aD 16 0,aD 17 0] 114 ],[],.lit 0⟩)]⟩
def aDM:FE:=⟨250,54,[.one (.sl 0),.one (.sl 0)],[.one .bool],none,[],[],[],0,[],[],
 [([0,1,0,1,1],⟨3,[(0,aD 0 0),(1,aD 1 0),(5,aI 2) ],[],[],.lit 0⟩)]⟩
def aDL:FE:=⟨300,42,[.agg [(.sl 3),(.sl 4)]],[.one (.sl 7)],none,[],[],[],0,[],[],
 [([0,1,0,1,0,1,1],⟨2,[(3,.aA),(11,aD 0 3),(12,aI 1),(13,aJ 0) ],[],[],.lit 0⟩),([0,1,0,1,0,1,1],⟨4,[(3,aV 0 0 7),(11,aD 1 3),(12,aI 2),(13,aI 3)],[.vec (.aQ 0) 7 114 []],[],.lit 0⟩)]⟩
def aDK:FE:=⟨350,77,[.agg [(.sl 3),(.sl 4)],.one (.sl 7)],[.one .bool],none,[],[],[],0,[],[],
 [([0,1,0,1,1],⟨5,[(2,.ptr 0 0),(18,aD 0 7),(19,aI 1),(20,aI 2)],[.cells [aD 3 3,aD 4 4] 25 ],[],.lit 0⟩)]⟩
def aDJ:FE:=⟨400,53,[.agg [(.sl 3),(.sl 4)],.one (.sl 7),.one (.int .i64),.agg [(.int .u8),(.int .i64),(.int .i64),(.int .i64)]],[.one (.sl 7),.agg [(.int .i64),(.int .u8),(.int .i64),(.int .i64),(.int .i64)],.one (.int .u8)],none,[],[],[],0,[],[],
 []⟩
def aDI:FE:=⟨450,41,[.agg [(.sl 3),(.sl 4)]],[.one (.int .i64)],none,[],[],[],0,[],[],
 [([0,1,0,1,1],⟨4,[(1,.ptr 0 0),(3,.bool (.lit true)),(20,aD 0 3),(21,aI 1),(22,aI 2)],[.cells [aD 0 3,aD 3 4] 25 ],[],.lit 0⟩),([0,1,0,1,1],⟨4,[(1,.ptr 0 0),(3,.bool (.lit false)),(20,aD 0 3),(21,aI 1),(22,aI 2)],[.cells [aD 0 3,aD 3 4] 25 ],[],.lit 0⟩),([0,1,0,1,1,1],⟨4,[(1,.ptr 0 0),(3,.bool (.lit true)),(35,aD 0 4),(36,aI 1),(37,aI 2)],[.cells [aD 3 3,aD 0 4] 25 ],[],.lit 0⟩),([0,1,0,1,1,1],⟨4,[(1,.ptr 0 0),(3,.bool (.lit false)),(35,aD 0 4),(36,aI 1),(37,aI 2)],[.cells [aD 3 3,aD 0 4] 25 ],[],.lit 0⟩),([0,1,1,1,0,0,1,1,0,0,1,0,1,1,1],⟨8,[(1,.ptr 0 0),(3,.bool (.lit true)),(7,.ptr 1 0),(8,aI 0),(35,aD 1 4),(36,aI 2),(37,aI 3)],[.cells [aD 4 3,aD 1 4] 25,
  .cells [aS 5,aD 6 2,aD 7 5] 62 ],[],.lit 0⟩),([0,1,1,1,0,0,1,1,0,0,1,0,1,1,1],⟨8,[(1,.ptr 0 0),(3,.bool (.lit false)),(7,.ptr 1 0),(8,aI 0),(35,aD 1 4),(36,aI 2),(37,aI 3)],[.cells [aD 4 3,aD 1 4] 25,
  .cells [aS 5,aD 6 2,aD 7 5] 62 ],[],.lit 0⟩)]⟩
def aDH:FE:=⟨500,142,[.agg [(.int .u8),.str,(.int .i64),.str,(.int .i64)],.agg [(.int .i64),(.int .i64),.bool,(.int .i64),(.sl 0),(.sl 0)],.one (.int .i64)],[.one .bool],none,[],[],[],0,[],[],
 [([0,1,0,1,1,1,1,1,1],⟨15,[(2,aI 0),(3,.ptr 0 0),(4,.ptr 1 0),(10,.map 2),(98,aD 1 0),(99,aI 2),(100,aI 3)],[.cells [aU 4,aS 5,aI 6,aS 7,aI 8] 137,
  .cells [aI 9,aI 10,aB 11,aI 12,aD 1 0,aD 13 0] 114,
  .iR (.aQ 14) 0 ],[],.lit 0⟩)]⟩
def aDG:FE:=⟨550,85,[.one (.sl 7)],[.one (.sl 7)],none,[],[],[],0,[],[],
 [([0,1,0,1,1],⟨3,[(0,aV 0 0 7),(7,aI 1),(8,aI 2)],[.vec (.aQ 0) 7 114 []],[],.lit 0⟩),([0,1,0,1,1],⟨0,[(0,.aA),(7,aJ 0),(8,aJ 0) ],[],[],.lit 0⟩),([0,1,0,1,1],⟨0,[(0,.slice 0 0 0 (.exact 0)),(7,aJ 0),(8,aJ 0)],[.cells [] 114 ],[],.lit 0⟩)]⟩
def aDF:FE:=⟨600,86,[.one (.int .u8)],[.one (.int .u8)],none,[],[],[],0,[],[],
 []⟩
def aDE:FE:=⟨650,205,[.agg [(.int .u8),.str,(.int .i64),.str,(.int .i64)]],[.one (.int .i64),.one .bool],none,[],[],[],0,[],[],
 []⟩
def aDD:FE:=⟨700,79,[.agg [(.sl 3),(.sl 4)],.agg [(.int .u8),.str,(.int .i64),.str,(.int .i64)]],[.one .bool],none,[],[],[],0,[],[],
 []⟩
def aDC:FE:=⟨750,80,[.agg [(.sl 3),(.sl 4)],.agg [.str,(.sl 2),(.sl 5)],.agg [(.int .u8),(.int .u8),(.int .i64),(.int .i64),(.int .i64),(.int .i64),(.sl 6)]],[.one .bool],none,[],[],[],0,[],[],
 []⟩
def aDB:FE:=⟨800,83,[.agg [(.int .u8),.str,(.int .i64),(.sl 6)],.one (.int .i64)],[.one .bool],none,[],[],[],0,[],[],
 []⟩
def aDA:FE:=⟨850,159,[.one (.sl 0),.one (.int .i64)],[.one (.int .i64)],none,[],[],[],0,[],[],
 [([0,1,0,1],⟨4,[(0,aD 0 0),(1,aI 1),(7,aI 2),(8,aI 3) ],[],[],.lit 0⟩)]⟩
def aDz:FE:=⟨900,92,[.one (.sl 0),.one (.int .i64)],[.one .bool],none,[],[],[],0,[],[],
 []⟩
def aDy:FE:=⟨950,144,[.one (.int .u8),.agg [(.int .u8),(.int .u8),(.int .i64),(.int .i64),(.int .i64),(.int .i64),(.sl 6)],.one .bool],[.one .bool],none,[],[],[],0,[],[],
 [([0,1,0,1,1],⟨9,[(0,aU 0),(2,.bool (.lit false)),(4,.ptr 0 0),(7,.ptr 1 0),(16,aI 1),(17,aJ 0)],[.cells [aU 2,aU 3,aI 4,aI 5,aI 6,aI 7,aD 8 6] 66,
  .cells [.int .u8 (.lit 1),aU 3,.str [97],.str [],aJ 0,.aA,.aA,.aA,aJ 0] 208 ],[],.lit 0⟩),([0,1,0,1,1],⟨9,[(0,aU 0),(2,.bool (.lit true)),(4,.ptr 0 0),(7,.ptr 1 0),(16,aI 1),(17,aJ 0)],[.cells [aU 2,aU 3,aI 4,aI 5,aI 6,aI 7,aD 8 6] 66,
  .cells [.int .u8 (.lit 1),aU 3,.str [97],.str [],aJ 0,.aA,.aA,.aA,aJ 0] 208 ],[],.lit 0⟩),([0,1,0,1,1],⟨11,[(0,aU 0),(2,.bool (.lit false)),(4,.ptr 0 0),(7,.ptr 1 0),(16,aI 1),(17,aI 2)],[.cells [aU 3,aU 4,aI 5,aI 6,aI 7,aI 8,aD 9 6] 66,
  .cells [.int .u8 (.lit 1),aU 4,.str [97],.str [],aJ 0,aV 2 10 6,.aA,.aA,aJ 0] 208,
  .vec (.aQ 10) 6 69 []],[],.lit 0⟩),([0,1,0,1,1],⟨11,[(0,aU 0),(2,.bool (.lit true)),(4,.ptr 0 0),(7,.ptr 1 0),(16,aI 1),(17,aI 2)],[.cells [aU 3,aU 4,aI 5,aI 6,aI 7,aI 8,aD 9 6] 66,
  .cells [.int .u8 (.lit 1),aU 4,.str [97],.str [],aJ 0,aV 2 10 6,.aA,.aA,aJ 0] 208,
  .vec (.aQ 10) 6 69 []],[],.lit 0⟩)]⟩
def aBo:FE:=⟨1000,131,[.one .str],[.one .bool],none,[],[],[],0,[],[],
 []⟩
def aBn:FE:=⟨1050,122,[.one .str,.one (.int .i64)],[.agg [(.int .u8),.str,(.int .i64),(.int .i64),(.int .i64),(.int .i64)],.agg [(.int .i64),(.int .i64)]],none,[],[],[],0,[],[],
 []⟩
def aBm:FE:=⟨1100,188,[.one .str],[.one (.int .i64),.one .bool],none,[],[],[],0,[],[],
 [([0,1,0,1,1],⟨0,[(4,aJ 0),(9,.slice 0 0 0 (.rest 1)),(10,aJ 0),(11,aJ 0)],[.cells [] 5 ],[],.lit 0⟩),([0,1,0,1,1],⟨4,[(4,aI 0),(9,aV 0 1 14),(10,aI 2),(11,aI 3)],[.vec (.aQ 1) 14 5 []],[],.lit 0⟩)]⟩
def aBl:FE:=⟨1150,216,[.agg [(.int .u8),.str,(.int .i64),(.sl 6)]],[.one .bool],none,[],[],[],0,[],[],
 []⟩
def aBk:FE:=⟨1200,217,[.one (.int .u8)],[.one (.int .u8)],none,[],[],[],0,[],[],
 []⟩
def aBj:FE:=⟨1250,211,[.one (.int .u8)],[.one (.int .i64)],none,[],[],[],0,[],[],
 []⟩
def aBi:FE:=⟨1300,212,[.one (.int .u8)],[.one .bool],none,[],[],[],0,[],[],
 []⟩
def aBh:FE:=⟨1350,125,[.one (.int .u8)],[.one .bool],none,[],[],[],0,[],[],
 []⟩
def aBg:FE:=⟨1400,130,[.agg [(.int .u8),.str,(.int .i64),.str,(.int .i64)]],[.one .bool],none,[],[],[],0,[],[],
 []⟩
def aBf:FE:=⟨1450,21,[.agg [(.sl 3),(.sl 4)]],[.agg [(.sl 7),(.sl 8)],.one (.int .i64)],none,[],[],[],0,[],[],
 [([0,1,0,1,1,1],⟨3,[(2,.ptr 0 0),(5,.ptr 1 0),(18,aD 0 4),(19,aI 1),(20,aJ 0)],[.cells [.aA,.aA] 34,
  .cells [aD 2 7,.aA] 34 ],[],.lit 0⟩),([0,1,0,1,1,1],⟨5,[(2,.ptr 0 0),(5,.ptr 1 0),(18,aD 0 4),(19,aI 1),(20,aI 2)],[.cells [.aA,.aA] 34,
  .cells [aD 3 7,aV 2 4 8] 34,
  .vec (.aQ 4) 8 92 []],[],.lit 0⟩)]⟩
def aBe:FE:=⟨1500,39,[.agg [(.sl 3),(.sl 4)],.agg [(.sl 7),(.sl 8)]],[.one .bool],none,[],[],[],0,[],[],
 [([0,1,0,1,1],⟨5,[(2,.ptr 0 0),(22,aD 0 8),(23,aI 1),(24,aI 2)],[.cells [aD 3 3,aD 4 4] 25 ],[],.lit 0⟩)]⟩
def aBd:FE:=⟨1550,25,[.agg [(.sl 3),(.sl 4)],.agg [(.sl 7),(.sl 8)],.one (.int .i64)],[.one .bool],none,[],[],[],0,[],[],
 []⟩
def aBb:FE:=⟨1600,78,[.agg [(.sl 3),(.sl 4)],.agg [.str,(.sl 2),(.sl 5)],.agg [(.int .i64),(.sl 0),(.int .u8),(.int .i64),(.int .i64),(.int .i64)]],[.one .bool],none,[],[],[],0,[],[],
 []⟩
def aBa:FE:=⟨1650,26,[.agg [(.sl 3),(.sl 4)],.agg [(.sl 7),(.sl 8)],.one (.int .i64)],[.one .bool],none,[],[],[],0,[],[],
 []⟩
def aA9:FE:=⟨1750,27,[.agg [(.sl 3),(.sl 4)],.agg [(.sl 7),(.sl 8)],.one (.int .i64)],[.agg [(.int .u8),(.int .i64),(.int .i64),(.int .i64)],.one .bool],none,[],[],[],0,[],[],
 [([0,1,0,1,0,1,0,1,1,0,1,1,1,1],⟨12,[(6,.ptr 0 0),(8,.ptr 1 0),(10,.ptr 2 0),(55,aD 0 6),(56,aI 1),(57,aI 2)],[.cells [.int .u8 (.lit 0),aJ 0,aJ 0,aJ 0] 83,
  .cells [aI 3,aD 4 0,aU 5,aI 6,aI 7,aI 8] 92,
  .cells [aU 9,aI 10,aI 11,aI 8] 83 ],[],.lit 0⟩)]⟩
def aA8:FE:=⟨1850,9,[.agg [(.sl 3),(.sl 4)],.agg [(.sl 7),(.sl 8)],.one (.int .i64)],[.agg [(.sl 7),(.sl 8)],.agg [(.int .i64),(.int .u8),(.int .i64),(.int .i64),(.int .i64)],.one (.int .u8)],none,[],[],[],0,[],[],
 []⟩
def aA7:FE:=⟨1950,47,[.agg [(.int .u8),.str,(.int .i64),(.sl 6)],.one (.sl 0)],[.one (.int .i64)],none,[],[],[],0,[],[],
 []⟩
def aA6:FE:=⟨2050,12,[.agg [(.sl 7),(.sl 8)],.agg [(.sl 7),(.sl 8)]],[.one .bool],none,[],[],[],0,[],[],
 [([0,1,0,1,1],⟨6,[(2,.ptr 0 0),(3,.ptr 1 0),(26,aI 0),(27,aI 1)],[.cells [aD 2 7,aD 3 8] 34,
  .cells [aD 4 7,aD 5 8] 34 ],[],.lit 0⟩),([0,1,1,1,1,0,0,1,1,0,0,1,0,1,1],⟨20,[(2,.ptr 0 0),(3,.ptr 1 0),(6,.ptr 2 0),(7,.ptr 3 0),(26,aI 0),(27,aI 1),(84,aI 2),(85,aI 3)],[.cells [aD 4 7,aD 5 8] 34,
  .cells [aD 6 7,aD 7 8] 34,
  .cells [aI 8,aD 9 0,aU 10,aI 11,aI 12,aI 13] 92,
  .cells [aI 14,aD 15 0,aU 16,aI 17,aI 18,aI 19] 92 ],[],.lit 0⟩)]⟩
def aA5:FE:=⟨2100,10,[.one (.int .i64),.one (.int .i64)],[.one (.int .i64)],none,[],[],[],0,[],[],
 []⟩
def aA4:FE:=⟨2450,11,[.one (.sl 9),.one (.sl 9)],[.one .bool],none,[],[],[],0,[],[],
 [([0,1,0,1,1],⟨4,[(0,aD 0 9),(1,aD 1 9),(12,aI 2),(13,aI 3) ],[],[],.lit 0⟩)]⟩
def amI:FE:=⟨2500,3,[.agg [(.sl 3),(.sl 4)],.agg [(.sl 0),(.sl 0)],.one (.int .u8)],[.one .bool],none,[],[],[],0,[],[],
 [([0,1,0,1,1,1,1],⟨6,[(2,aU 0),(3,.ptr 0 0),(7,aD 1 0),(8,aD 2 0),(9,.aA),(10,.ptr 1 0),(50,aD 2 0),(51,aI 3),(52,aJ 0)],[.cells [aD 4 3,aD 5 4] 25,
  .cells [.aA,.aA] 34 ],[],.lit 0⟩),([0,1,0,1,1,1,1],⟨9,[(2,aU 0),(3,.ptr 0 0),(7,aD 1 0),(8,aD 2 0),(9,.aA),(10,.ptr 1 0),(50,aD 2 0),(51,aI 3),(52,aI 4)],[.cells [aD 5 3,aD 6 4] 25,
  .cells [aD 7 7,aD 8 8] 34 ],[],.lit 0⟩),([0,1,0,1,1,1,1],⟨10,[(2,aU 0),(3,.ptr 0 0),(7,aD 1 0),(8,aD 2 0),(9,aV 1 3 9),(10,.ptr 2 0),(50,aD 2 0),(51,aI 4),(52,aI 5)],[.cells [aD 6 3,aD 7 4] 25,
  .vec (.aQ 3) 9 39 [],
  .cells [aD 8 7,aD 9 8] 34 ],[],.lit 0⟩),([0,1,0,1,1,1,1,1,1],⟨3,[(2,aU 0),(3,.ptr 0 0),(9,.aA),(10,.ptr 1 0),(16,.aA),(84,.slice 2 0 0 (.exact 0)),(85,aJ 0),(86,aJ 0)],[.cells [aD 1 3,aD 2 4] 25,
  .cells [.aA,.aA] 34,
  .cells [] 3 ],[],.lit 0⟩),([0,1,0,1,1,1,1,1,1],⟨5,[(2,aU 0),(3,.ptr 0 0),(9,.aA),(10,.ptr 1 0),(16,.aA),(84,aV 2 1 0),(85,aI 2),(86,aJ 0)],[.cells [aD 3 3,aD 4 4] 25,
  .cells [.aA,.aA] 34,
  .vec (.aQ 1) 0 3 []],[],.lit 0⟩),([0,1,0,1,1,1,1,1,1],⟨5,[(2,aU 0),(3,.ptr 0 0),(9,.aA),(10,.ptr 1 0),(16,.aA),(84,.slice 2 0 0 (.exact 0)),(85,aJ 0),(86,aJ 0)],[.cells [aD 1 3,aD 2 4] 25,
  .cells [aD 3 7,aD 4 8] 34,
  .cells [] 3 ],[],.lit 0⟩),([0,1,0,1,1,1,1,1,1],⟨7,[(2,aU 0),(3,.ptr 0 0),(9,.aA),(10,.ptr 1 0),(16,.aA),(84,aV 2 1 0),(85,aI 2),(86,aJ 0)],[.cells [aD 3 3,aD 4 4] 25,
  .cells [aD 5 7,aD 6 8] 34,
  .vec (.aQ 1) 0 3 []],[],.lit 0⟩),([0,1,0,1,1,1,1,1,1],⟨6,[(2,aU 0),(3,.ptr 0 0),(9,aV 1 1 9),(10,.ptr 2 0),(16,.aA),(84,.slice 3 0 0 (.exact 0)),(85,aJ 0),(86,aJ 0)],[.cells [aD 2 3,aD 3 4] 25,
  .vec (.aQ 1) 9 39 [],
  .cells [aD 4 7,aD 5 8] 34,
  .cells [] 3 ],[],.lit 0⟩),([0,1,0,1,1,1,1,1,1],⟨8,[(2,aU 0),(3,.ptr 0 0),(9,aV 1 1 9),(10,.ptr 2 0),(16,.aA),(84,aV 3 2 0),(85,aI 3),(86,aJ 0)],[.cells [aD 4 3,aD 5 4] 25,
  .vec (.aQ 1) 9 39 [],
  .cells [aD 6 7,aD 7 8] 34,
  .vec (.aQ 2) 0 3 []],[],.lit 0⟩),([0,1,0,1,1,1,1,1,1],⟨7,[(2,aU 0),(3,.ptr 0 0),(9,.aA),(10,.ptr 1 0),(16,aV 2 1 0),(84,aV 3 2 0),(85,aI 3),(86,aI 4)],[.cells [aD 5 3,aD 6 4] 25,
  .cells [.aA,.aA] 34,
  .vec (.aQ 1) 0 3 [],
  .vec (.aQ 2) 0 3 []],[],.lit 0⟩),([0,1,0,1,1,1,1,1,1],⟨9,[(2,aU 0),(3,.ptr 0 0),(9,.aA),(10,.ptr 1 0),(16,aV 2 1 0),(84,aV 3 2 0),(85,aI 3),(86,aI 4)],[.cells [aD 5 3,aD 6 4] 25,
  .cells [aD 7 7,aD 8 8] 34,
  .vec (.aQ 1) 0 3 [],
  .vec (.aQ 2) 0 3 []],[],.lit 0⟩),([0,1,0,1,1,1,1,1,1],⟨10,[(2,aU 0),(3,.ptr 0 0),(9,aV 1 1 9),(10,.ptr 2 0),(16,aV 3 2 0),(84,aV 4 3 0),(85,aI 4),(86,aI 5)],[.cells [aD 6 3,aD 7 4] 25,
  .vec (.aQ 1) 9 39 [],
  .cells [aD 8 7,aD 9 8] 34,
  .vec (.aQ 2) 0 3 [],
  .vec (.aQ 3) 0 3 []],[],.lit 0⟩)]⟩
def aA3:FE:=⟨5000,81,[],[.one .bool],some (⟨4,[(0,aD 0 6),(1,.func (.func 82) [] [.ptr 0 0])],[.cells [aS 1,aD 2 2,aD 3 5] 62 ],[],.lit 0⟩,[.cells [aS 0,aD 1 2,aD 2 5] 62],3),[],[],[],0,[],[],
 []⟩
def aA2:FE:=⟨5050,146,[],[.one .bool],some (⟨7,[(0,.ptr 0 0),(1,.agg [aU 0,aS 1,aI 2,aD 3 6]),(2,aI 4)],[.cells [aI 5,aI 6] 230 ],[],.lit 0⟩,[.cells [aI 0,aI 1] 230],2),[],[],[],0,[],[],
 [([0,1,0,1,1,1],⟨9,[(0,.ptr 0 0),(2,aI 0),(4,.ptr 1 0),(27,aD 1 6),(28,aI 2),(29,aI 3)],[.cells [aI 4,aI 5] 230,
  .cells [aU 6,aS 7,aI 8,aD 1 6] 69 ],[],.lit 0⟩)]⟩
def aA1:FE:=⟨5100,198,[],[],some (⟨2,[(0,.ptr 0 0),(1,.aA),(2,aI 0)],[.cells [aI 1,.bool (.lit true),.bool (.lit false)] 162 ],[],.lit 0⟩,[.cells [aI 0,.bool (.lit true),.bool (.lit false)] 162],1),[],[],[],0,[],[],
 [([0,1],⟨2,[(0,.ptr 0 0),(2,aI 0),(8,.aA),(9,aJ 0),(10,aJ 0)],[.cells [aI 1,.bool (.lit true),.bool (.lit false)] 162 ],[],.lit 0⟩)]⟩
def aA0:FE:=⟨5150,218,[],[.one .bool],some (⟨2,[(0,.ptr 0 0),(1,.aA)],[.cells [.map 1,.map 2] 216,
 .map [(.str [97],aU 0,0)] 0,
 .iR (.aQ 1) 1 ],[],.lit 0⟩,[.cells [.map 1,.map 2] 216,.map [(.str [97],aU 0,0)] 0,.iR (.aQ 1) 1],2),[],[],[],0,[],[],
 [([0,1,0,1],⟨2,[(0,.ptr 0 0),(7,.aA),(8,aJ 0),(9,aJ 0)],[.cells [.map 1,.map 2] 216,
  .map [(.str [97],aU 0,0)] 0,
  .iR (.aQ 1) 1 ],[],.lit 0⟩)]⟩
def aAZ:FE:=⟨5200,218,[],[.one .bool],some (⟨2,[(0,.ptr 0 0),(1,.aA)],[.cells [.map 1,.map 2] 216,
 .map [(.str [98],.int .u8 (.lit 1),0),(.str [97],aU 0,0)] 0,
 .iR (.aQ 1) 1 ],[],.lit 0⟩,[.cells [.map 1,.map 2] 216,.map [(.str [98],aU 0,0),(.str [97],aU 1,0)] 0,.iR (.aQ 2) 1],3),[],[],[],0,[],[],
 [([0,1,0,1],⟨2,[(0,.ptr 0 0),(7,.aA),(8,aJ 0),(9,aJ 0)],[.cells [.map 1,.map 2] 216,
  .map [(.str [98],.int .u8 (.lit 1),0),(.str [97],aU 0,0)] 0,
  .iR (.aQ 1) 1 ],[],.lit 0⟩)]⟩
def aAY:FE:=⟨5250,198,[],[],some (⟨3,[(0,.ptr 0 0),(1,aV 1 0 6),(2,aI 1)],[.cells [aI 2,.bool (.lit true),.bool (.lit false)] 162,
 .vec (.aQ 0) 6 69 []],[],.lit 0⟩,[.cells [aI 0,.bool (.lit true),.bool (.lit false)] 162,.vec (.aQ 1) 6 69 []],2),[],[],[],0,[],[],
 [([0,1],⟨5,[(0,.ptr 0 0),(2,aI 0),(8,aV 1 1 6),(9,aI 2),(10,aI 3)],[.cells [aI 4,.bool (.lit true),.bool (.lit false)] 162,
  .vec (.aQ 1) 6 69 []],[],.lit 0⟩)]⟩
def aAX:FE:=⟨5300,218,[],[.one .bool],some (⟨4,[(0,.ptr 0 0),(1,.uK 1 (.aQ 0) 6)],[.cells [.map 2,.map 3] 216,
 .vec (.aQ 1) 6 69 [],
 .map [(.str [97],aU 2,0)] 0,
 .iR (.aQ 3) 1 ],[],.lit 0⟩,[.cells [.map 2,.map 3] 216,.vec (.aQ 0) 6 69 [],.map [(.str [97],aU 1,0)] 0,.iR (.aQ 2) 1],3),[],[],[],0,[],[],
 [([0,1,0,1],⟨5,[(0,.ptr 0 0),(7,.uK 1 (.aQ 0) 6),(8,aI 0),(9,aI 1)],[.cells [.map 2,.map 3] 216,
  .vec (.aQ 2) 6 69 [],
  .map [(.str [97],aU 3,0)] 0,
  .iR (.aQ 4) 1 ],[],.lit 0⟩)]⟩
def aAW:FE:=⟨5350,218,[],[.one .bool],some (⟨4,[(0,.ptr 0 0),(1,.uK 1 (.aQ 0) 6)],[.cells [.map 2,.map 3] 216,
 .vec (.aQ 1) 6 69 [],
 .map [(.str [98],.int .u8 (.lit 1),0),(.str [97],aU 2,0)] 0,
 .iR (.aQ 3) 1 ],[],.lit 0⟩,[.cells [.map 2,.map 3] 216,.vec (.aQ 0) 6 69 [],.map [(.str [98],aU 1,0),(.str [97],aU 2,0)] 0,.iR (.aQ 3) 1],4),[],[],[],0,[],[],
 [([0,1,0,1],⟨6,[(0,.ptr 0 0),(7,.uK 1 (.aQ 0) 6),(8,aI 0),(9,aI 1)],[.cells [.map 2,.map 3] 216,
  .vec (.aQ 2) 6 69 [],
  .map [(.str [98],aU 3,0),(.str [97],aU 4,0)] 0,
  .iR (.aQ 5) 1 ],[],.lit 0⟩)]⟩
def aAV:FE:=⟨5400,145,[],[.one (.int .i64)],some (⟨4,[(0,aD 0 6),(1,.func (.func 82) [] [.ptr 0 0])],[.cells [aS 1,aD 2 2,aD 3 5] 62 ],[],.lit 0⟩,[.cells [aS 0,aD 1 2,aD 2 5] 62],3),[],[],[],0,[],[],
 [([0,1,0,1],⟨6,[(0,aD 0 6),(1,.func (.func 82) [] [.ptr 0 0]),(7,aI 1),(8,aI 2)],[.cells [aS 3,aD 4 2,aD 5 5] 62 ],[],.lit 0⟩)]⟩
def aAU:FE:=⟨5450,198,[],[],some (⟨3,[(0,.ptr 0 0),(1,aD 0 6),(2,aI 1)],[.cells [aI 2,.bool (.lit true),.bool (.lit false)] 162 ],[],.lit 0⟩,[.cells [aI 0,.bool (.lit true),.bool (.lit false)] 162],1),[],[],[],0,[],[],
 [([0,1],⟨5,[(0,.ptr 0 0),(2,aI 0),(8,aD 1 6),(9,aI 2),(10,aI 3)],[.cells [aI 4,.bool (.lit true),.bool (.lit false)] 162 ],[],.lit 0⟩)]⟩
def aAT:FE:=⟨5500,218,[],[.one .bool],some (⟨3,[(0,.ptr 0 0),(1,aD 0 6)],[.cells [.map 1,.map 2] 216,
 .map [(.str [97],aU 1,0)] 0,
 .iR (.aQ 2) 1 ],[],.lit 0⟩,[.cells [.map 1,.map 2] 216,.map [(.str [97],aU 0,0)] 0,.iR (.aQ 1) 1],2),[],[],[],0,[],[],
 [([0,1,0,1],⟨5,[(0,.ptr 0 0),(7,aD 0 6),(8,aI 1),(9,aI 2)],[.cells [.map 1,.map 2] 216,
  .map [(.str [97],aU 3,0)] 0,
  .iR (.aQ 4) 1 ],[],.lit 0⟩)]⟩
def aAS:FE:=⟨5550,218,[],[.one .bool],some (⟨3,[(0,.ptr 0 0),(1,aD 0 6)],[.cells [.map 1,.map 2] 216,
 .map [(.str [98],.int .u8 (.lit 1),0),(.str [97],aU 1,0)] 0,
 .iR (.aQ 2) 1 ],[],.lit 0⟩,[.cells [.map 1,.map 2] 216,.map [(.str [98],aU 0,0),(.str [97],aU 1,0)] 0,.iR (.aQ 2) 1],3),[],[],[],0,[],[],
 [([0,1,0,1],⟨6,[(0,.ptr 0 0),(7,aD 0 6),(8,aI 1),(9,aI 2)],[.cells [.map 1,.map 2] 216,
  .map [(.str [98],aU 3,0),(.str [97],aU 4,0)] 0,
  .iR (.aQ 5) 1 ],[],.lit 0⟩)]⟩
def aAR:FE:=⟨5600,218,[],[.one .bool],some (⟨4,[(0,.ptr 0 0),(1,aD 0 6)],[.cells [.map 1,.map 2] 216,
 .map [(.str [98],aU 1,0),(.str [97],aU 2,0)] 0,
 .iR (.aQ 3) 1 ],[],.lit 0⟩,[.cells [.map 1,.map 2] 216,.map [(.str [98],aU 0,0),(.str [97],aU 1,0)] 0,.iR (.aQ 2) 1],3),[],[],[],0,[],[],
 [([0,1,0,1],⟨6,[(0,.ptr 0 0),(7,aD 0 6),(8,aI 1),(9,aI 2)],[.cells [.map 1,.map 2] 216,
  .map [(.str [98],aU 3,0),(.str [97],aU 4,0)] 0,
  .iR (.aQ 5) 1 ],[],.lit 0⟩)]⟩
def auI:FE:=⟨12000,174,[],[],some (⟨13,[(0,aV 0 0 0),(1,.func (.func 175) [] [.ptr 1 0])],[.vec (.aQ 0) 0 3 [],
 .cells [.ptr 2 0] 179,
 .cells [aI 1,.pY 3 6 (.aQ 2) 0,aI 3,aV 3 4 7,aU 5,aI 2,aI 6,aI 7] 181,
 .vec (.aQ 4) 7 114 [(.aQ 2,[aI 8,aI 9,aB 10,aI 11,aV 0 0 0,aV 4 12 0])],
 .vec (.aQ 12) 0 2 []],[],.lit 0⟩,[.vec (.aQ 0) 0 3 [],.cells [.ptr 2 0] 179,.cells [aI 1,.pY 3 6 (.aQ 2) 0,aI 3,aV 3 4 7,aU 5,aI 2,aI 6,aI 7] 181,.vec (.aQ 4) 7 114 [(.aQ 2,[aI 8,aI 9,aB 10,aI 11,aV 0 0 0,aV 4 12 0])],.vec (.aQ 12) 0 2 []],13),[⟨13,[(0,aV 0 0 0)],[.vec (.aQ 0) 0 3 [],
 .cells [.ptr 2 0] 179,
 .cells [aI 1,.pY 3 6 (.aQ 2) 0,aI 3,aV 3 4 7,aU 5,aI 2,aI 6,aI 7] 181,
 .vec (.aQ 4) 7 114 [(.aQ 2,[aI 8,aI 9,aB 10,aI 11,aV 0 0 0,aV 4 12 0])],
 .vec (.aQ 12) 0 2 []],[],.lit 0⟩,⟨16,[(0,.Ap 0 (.lit 0) (.aQ 13) 0)],[.vec (.aQ 14) 0 3 [],
 .cells [.ptr 2 0] 179,
 .cells [aI 1,.pY 3 6 (.aQ 2) 0,aI 3,aV 3 4 7,aU 5,aI 2,aI 6,aI 7] 181,
 .vec (.aQ 4) 7 114 [(.aQ 2,[aI 8,aI 9,aB 10,aI 11,.uK 0 (.aQ 15) 0,aV 4 12 0])],
 .vec (.aQ 12) 0 2 []],[],.lit 0⟩],[],[],13,[],[],
 [([0,1,0,1,1,1],⟨16,[(0,aV 0 13 0),(1,.func (.func 175) [] [.ptr 1 0]),(5,aI 14),(6,aI 15)],[.vec (.aQ 13) 0 3 [],
  .cells [.ptr 2 0] 179,
  .cells [aI 1,.pY 3 6 (.aQ 2) 0,aI 3,aV 3 4 7,aU 5,aI 2,aI 6,aI 7] 181,
  .vec (.aQ 4) 7 114 [(.aQ 2,[aI 8,aI 9,aB 10,aI 11,aV 0 13 0,aV 4 12 0])],
  .vec (.aQ 12) 0 2 []],[],.lit 0⟩)]⟩
def auH:FE:=⟨12050,206,[],[],some (⟨13,[(0,aV 0 0 0),(1,.func (.func 175) [] [.ptr 1 0])],[.vec (.aQ 0) 0 3 [],
 .cells [.ptr 2 0] 179,
 .cells [aI 1,.pY 3 6 (.aQ 2) 0,aI 3,aV 3 4 7,aU 5,aI 2,aI 6,aI 7] 181,
 .vec (.aQ 4) 7 114 [(.aQ 2,[aI 8,aI 9,aB 10,aI 11,aV 0 0 0,aV 4 12 0])],
 .vec (.aQ 12) 0 2 []],[],.lit 0⟩,[.vec (.aQ 0) 0 3 [],.cells [.ptr 2 0] 179,.cells [aI 1,.pY 3 6 (.aQ 2) 0,aI 3,aV 3 4 7,aU 5,aI 2,aI 6,aI 7] 181,.vec (.aQ 4) 7 114 [(.aQ 2,[aI 8,aI 9,aB 10,aI 11,aV 0 0 0,aV 4 12 0])],.vec (.aQ 12) 0 2 []],13),[⟨14,[(0,aI 13)],[.vec (.aQ 0) 0 3 [],
 .cells [.ptr 2 0] 179,
 .cells [aI 1,.pY 3 6 (.aQ 2) 0,aI 3,aV 3 4 7,aU 5,aI 2,aI 6,aI 7] 181,
 .vec (.aQ 4) 7 114 [(.aQ 2,[aI 8,aI 9,aB 10,aI 11,aV 0 0 0,aV 4 12 0])],
 .vec (.aQ 12) 0 2 []],[],.lit 0⟩],[],[],13,[],[],
 [([0,1,0,1],⟨15,[(0,aV 0 0 0),(1,.func (.func 175) [] [.ptr 1 0]),(7,aI 13),(8,aI 14)],[.vec (.aQ 0) 0 3 [],
  .cells [.ptr 2 0] 179,
  .cells [aI 1,.pY 3 6 (.aQ 2) 0,aI 3,aV 3 4 7,aU 5,aI 2,aI 6,aI 7] 181,
  .vec (.aQ 4) 7 114 [(.aQ 2,[aI 8,aI 9,aB 10,aI 11,aV 0 0 0,aV 4 12 0])],
  .vec (.aQ 12) 0 2 []],[],.lit 0⟩)]⟩
def auG:FE:=⟨12100,174,[],[],some (⟨13,[(0,aV 0 0 0),(1,.func (.func 175) [] [.ptr 1 0])],[.vec (.aQ 0) 0 3 [],
 .cells [.ptr 2 0] 179,
 .cells [aI 1,.pY 3 6 (.aQ 2) 0,aI 3,aV 3 4 7,aU 5,aI 2,aI 6,aI 7] 181,
 .vec (.aQ 4) 7 114 [(.aQ 2,[aI 8,aI 9,aB 10,aI 11,aV 0 0 0,aE 12 0])]],[],.lit 0⟩,[.vec (.aQ 0) 0 3 [],.cells [.ptr 2 0] 179,.cells [aI 1,.pY 3 6 (.aQ 2) 0,aI 3,aV 3 4 7,aU 5,aI 2,aI 6,aI 7] 181,.vec (.aQ 4) 7 114 [(.aQ 2,[aI 8,aI 9,aB 10,aI 11,aV 0 0 0,aE 12 0])]],13),[⟨13,[(0,aV 0 0 0)],[.vec (.aQ 0) 0 3 [],
 .cells [.ptr 2 0] 179,
 .cells [aI 1,.pY 3 6 (.aQ 2) 0,aI 3,aV 3 4 7,aU 5,aI 2,aI 6,aI 7] 181,
 .vec (.aQ 4) 7 114 [(.aQ 2,[aI 8,aI 9,aB 10,aI 11,aV 0 0 0,aE 12 0])]],[],.lit 0⟩,⟨16,[(0,.Ap 0 (.lit 0) (.aQ 13) 0)],[.vec (.aQ 14) 0 3 [],
 .cells [.ptr 2 0] 179,
 .cells [aI 1,.pY 3 6 (.aQ 2) 0,aI 3,aV 3 4 7,aU 5,aI 2,aI 6,aI 7] 181,
 .vec (.aQ 4) 7 114 [(.aQ 2,[aI 8,aI 9,aB 10,aI 11,.uK 0 (.aQ 15) 0,aE 12 0])]],[],.lit 0⟩],[],[],13,[],[],
 [([0,1,0,1,1,1],⟨16,[(0,aV 0 13 0),(1,.func (.func 175) [] [.ptr 1 0]),(5,aI 14),(6,aI 15)],[.vec (.aQ 13) 0 3 [],
  .cells [.ptr 2 0] 179,
  .cells [aI 1,.pY 3 6 (.aQ 2) 0,aI 3,aV 3 4 7,aU 5,aI 2,aI 6,aI 7] 181,
  .vec (.aQ 4) 7 114 [(.aQ 2,[aI 8,aI 9,aB 10,aI 11,aV 0 13 0,aE 12 0])]],[],.lit 0⟩)]⟩
def auF:FE:=⟨12150,206,[],[],some (⟨13,[(0,aV 0 0 0),(1,.func (.func 175) [] [.ptr 1 0])],[.vec (.aQ 0) 0 3 [],
 .cells [.ptr 2 0] 179,
 .cells [aI 1,.pY 3 6 (.aQ 2) 0,aI 3,aV 3 4 7,aU 5,aI 2,aI 6,aI 7] 181,
 .vec (.aQ 4) 7 114 [(.aQ 2,[aI 8,aI 9,aB 10,aI 11,aV 0 0 0,aE 12 0])]],[],.lit 0⟩,[.vec (.aQ 0) 0 3 [],.cells [.ptr 2 0] 179,.cells [aI 1,.pY 3 6 (.aQ 2) 0,aI 3,aV 3 4 7,aU 5,aI 2,aI 6,aI 7] 181,.vec (.aQ 4) 7 114 [(.aQ 2,[aI 8,aI 9,aB 10,aI 11,aV 0 0 0,aE 12 0])]],13),[⟨14,[(0,aI 13)],[.vec (.aQ 0) 0 3 [],
 .cells [.ptr 2 0] 179,
 .cells [aI 1,.pY 3 6 (.aQ 2) 0,aI 3,aV 3 4 7,aU 5,aI 2,aI 6,aI 7] 181,
 .vec (.aQ 4) 7 114 [(.aQ 2,[aI 8,aI 9,aB 10,aI 11,aV 0 0 0,aE 12 0])]],[],.lit 0⟩],[],[],13,[],[],
 [([0,1,0,1],⟨15,[(0,aV 0 0 0),(1,.func (.func 175) [] [.ptr 1 0]),(7,aI 13),(8,aI 14)],[.vec (.aQ 0) 0 3 [],
  .cells [.ptr 2 0] 179,
  .cells [aI 1,.pY 3 6 (.aQ 2) 0,aI 3,aV 3 4 7,aU 5,aI 2,aI 6,aI 7] 181,
  .vec (.aQ 4) 7 114 [(.aQ 2,[aI 8,aI 9,aB 10,aI 11,aV 0 0 0,aE 12 0])]],[],.lit 0⟩)]⟩
def auE:FE:=⟨12200,174,[],[],some (⟨13,[(0,aE 0 0),(1,.func (.func 175) [] [.ptr 0 0])],[.cells [.ptr 1 0] 179,
 .cells [aI 1,.pY 2 6 (.aQ 2) 0,aI 3,aV 2 4 7,aU 5,aI 2,aI 6,aI 7] 181,
 .vec (.aQ 4) 7 114 [(.aQ 2,[aI 8,aI 9,aB 10,aI 11,aE 0 0,aV 3 12 0])],
 .vec (.aQ 12) 0 2 []],[],.lit 0⟩,[.cells [.ptr 1 0] 179,.cells [aI 1,.pY 2 6 (.aQ 2) 0,aI 3,aV 2 4 7,aU 5,aI 2,aI 6,aI 7] 181,.vec (.aQ 4) 7 114 [(.aQ 2,[aI 8,aI 9,aB 10,aI 11,aE 0 0,aV 3 12 0])],.vec (.aQ 12) 0 2 []],13),[⟨13,[(0,aE 0 0)],[.cells [.ptr 1 0] 179,
 .cells [aI 1,.pY 2 6 (.aQ 2) 0,aI 3,aV 2 4 7,aU 5,aI 2,aI 6,aI 7] 181,
 .vec (.aQ 4) 7 114 [(.aQ 2,[aI 8,aI 9,aB 10,aI 11,aE 0 0,aV 3 12 0])],
 .vec (.aQ 12) 0 2 []],[],.lit 0⟩],[],[],13,[],[],
 []⟩
def auD:FE:=⟨12250,206,[],[],some (⟨13,[(0,aE 0 0),(1,.func (.func 175) [] [.ptr 0 0])],[.cells [.ptr 1 0] 179,
 .cells [aI 1,.pY 2 6 (.aQ 2) 0,aI 3,aV 2 4 7,aU 5,aI 2,aI 6,aI 7] 181,
 .vec (.aQ 4) 7 114 [(.aQ 2,[aI 8,aI 9,aB 10,aI 11,aE 0 0,aV 3 12 0])],
 .vec (.aQ 12) 0 2 []],[],.lit 0⟩,[.cells [.ptr 1 0] 179,.cells [aI 1,.pY 2 6 (.aQ 2) 0,aI 3,aV 2 4 7,aU 5,aI 2,aI 6,aI 7] 181,.vec (.aQ 4) 7 114 [(.aQ 2,[aI 8,aI 9,aB 10,aI 11,aE 0 0,aV 3 12 0])],.vec (.aQ 12) 0 2 []],13),[⟨13,[(0,aJ (-1))],[.cells [.ptr 1 0] 179,
 .cells [aI 1,.pY 2 6 (.aQ 2) 0,aI 3,aV 2 4 7,aU 5,aI 2,aI 6,aI 7] 181,
 .vec (.aQ 4) 7 114 [(.aQ 2,[aI 8,aI 9,aB 10,aI 11,aE 0 0,aV 3 12 0])],
 .vec (.aQ 12) 0 2 []],[],.lit 0⟩],[],[],13,[],[],
 [([0,1,0,1],⟨13,[(0,aE 0 0),(1,.func (.func 175) [] [.ptr 0 0]),(7,aJ 0),(8,aJ 0)],[.cells [.ptr 1 0] 179,
  .cells [aI 1,.pY 2 6 (.aQ 2) 0,aI 3,aV 2 4 7,aU 5,aI 2,aI 6,aI 7] 181,
  .vec (.aQ 4) 7 114 [(.aQ 2,[aI 8,aI 9,aB 10,aI 11,aE 0 0,aV 3 12 0])],
  .vec (.aQ 12) 0 2 []],[],.lit 0⟩)]⟩
def auC:FE:=⟨12300,174,[],[],some (⟨13,[(0,aE 0 0),(1,.func (.func 175) [] [.ptr 0 0])],[.cells [.ptr 1 0] 179,
 .cells [aI 1,.pY 2 6 (.aQ 2) 0,aI 3,aV 2 4 7,aU 5,aI 2,aI 6,aI 7] 181,
 .vec (.aQ 4) 7 114 [(.aQ 2,[aI 8,aI 9,aB 10,aI 11,aE 0 0,aE 12 0])]],[],.lit 0⟩,[.cells [.ptr 1 0] 179,.cells [aI 1,.pY 2 6 (.aQ 2) 0,aI 3,aV 2 4 7,aU 5,aI 2,aI 6,aI 7] 181,.vec (.aQ 4) 7 114 [(.aQ 2,[aI 8,aI 9,aB 10,aI 11,aE 0 0,aE 12 0])]],13),[⟨13,[(0,aE 0 0)],[.cells [.ptr 1 0] 179,
 .cells [aI 1,.pY 2 6 (.aQ 2) 0,aI 3,aV 2 4 7,aU 5,aI 2,aI 6,aI 7] 181,
 .vec (.aQ 4) 7 114 [(.aQ 2,[aI 8,aI 9,aB 10,aI 11,aE 0 0,aE 12 0])]],[],.lit 0⟩],[],[],13,[],[],
 []⟩
def auB:FE:=⟨12350,206,[],[],some (⟨13,[(0,aE 0 0),(1,.func (.func 175) [] [.ptr 0 0])],[.cells [.ptr 1 0] 179,
 .cells [aI 1,.pY 2 6 (.aQ 2) 0,aI 3,aV 2 4 7,aU 5,aI 2,aI 6,aI 7] 181,
 .vec (.aQ 4) 7 114 [(.aQ 2,[aI 8,aI 9,aB 10,aI 11,aE 0 0,aE 12 0])]],[],.lit 0⟩,[.cells [.ptr 1 0] 179,.cells [aI 1,.pY 2 6 (.aQ 2) 0,aI 3,aV 2 4 7,aU 5,aI 2,aI 6,aI 7] 181,.vec (.aQ 4) 7 114 [(.aQ 2,[aI 8,aI 9,aB 10,aI 11,aE 0 0,aE 12 0])]],13),[⟨13,[(0,aJ (-1))],[.cells [.ptr 1 0] 179,
 .cells [aI 1,.pY 2 6 (.aQ 2) 0,aI 3,aV 2 4 7,aU 5,aI 2,aI 6,aI 7] 181,
 .vec (.aQ 4) 7 114 [(.aQ 2,[aI 8,aI 9,aB 10,aI 11,aE 0 0,aE 12 0])]],[],.lit 0⟩],[],[],13,[],[],
 [([0,1,0,1],⟨13,[(0,aE 0 0),(1,.func (.func 175) [] [.ptr 0 0]),(7,aJ 0),(8,aJ 0)],[.cells [.ptr 1 0] 179,
  .cells [aI 1,.pY 2 6 (.aQ 2) 0,aI 3,aV 2 4 7,aU 5,aI 2,aI 6,aI 7] 181,
  .vec (.aQ 4) 7 114 [(.aQ 2,[aI 8,aI 9,aB 10,aI 11,aE 0 0,aE 12 0])]],[],.lit 0⟩)]⟩
def auA:FE:=⟨12400,133,[],[],some (⟨7,[(0,.agg [.slice 0 0 1 (.exact 1),.slice 1 0 1 (.exact 1)])],[.cells [aU 0,.str [97],aI 1,.str [],aI 2] 137,
 .cells [.str [97],.slice 2 0 1 (.exact 1),aI 3] 156,
 .cells [.int .u8 (.lit 1),aU 4,.str [97],.str [],aI 5,.aA,.aA,.aA,aI 6] 208 ],[],.lit 0⟩,[.cells [aU 0,.str [97],aI 1,.str [],aI 2] 137,.cells [.str [97],.slice 2 0 1 (.exact 1),aI 3] 156,.cells [.int .u8 (.lit 1),aU 4,.str [97],.str [],aI 5,.aA,.aA,.aA,aI 6] 208],7),[⟨7,[(0,.bool (.lit false))],[.cells [aU 0,.str [97],aI 1,.str [],aI 2] 137,
 .cells [.str [97],.slice 2 0 1 (.exact 1),aI 3] 156,
 .cells [.int .u8 (.lit 1),aU 4,.str [97],.str [],aI 5,.aA,.aA,.aA,aI 6] 208 ],[],.lit 0⟩,⟨7,[(0,.bool (.lit true))],[.cells [aU 0,.str [97],aI 1,.str [],aI 2] 137,
 .cells [.str [97],.slice 2 0 1 (.exact 1),aI 3] 156,
 .cells [.int .u8 (.lit 1),aU 4,.str [97],.str [],aI 5,.aA,.aA,.aA,aI 6] 208 ],[],.lit 0⟩],[],[],7,[],[],
 []⟩
def atZ:FE:=⟨12450,133,[],[],some (⟨9,[(0,.agg [.slice 0 0 2 (.exact 2),.slice 1 0 1 (.exact 1)])],[.cells [.int .u8 (.lit 1),.str [98],aI 0,.str [],aI 1,aU 2,.str [97],aI 3,.str [98],aI 4] 137,
 .cells [.str [97],.slice 2 0 1 (.exact 1),aI 5] 156,
 .cells [.int .u8 (.lit 1),aU 6,.str [97],.str [],aI 7,.aA,.aA,.aA,aI 8] 208 ],[],.lit 0⟩,[.cells [.int .u8 (.lit 1),.str [98],aI 0,.str [],aI 1,aU 2,.str [97],aI 3,.str [98],aI 4] 137,.cells [.str [97],.slice 2 0 1 (.exact 1),aI 5] 156,.cells [.int .u8 (.lit 1),aU 6,.str [97],.str [],aI 7,.aA,.aA,.aA,aI 8] 208],9),[⟨9,[(0,.bool (.lit false))],[.cells [.int .u8 (.lit 1),.str [98],aI 0,.str [],aI 1,aU 2,.str [97],aI 3,.str [98],aI 4] 137,
 .cells [.str [97],.slice 2 0 1 (.exact 1),aI 5] 156,
 .cells [.int .u8 (.lit 1),aU 6,.str [97],.str [],aI 7,.aA,.aA,.aA,aI 8] 208 ],[],.lit 0⟩,⟨9,[(0,.bool (.lit true))],[.cells [.int .u8 (.lit 1),.str [98],aI 0,.str [],aI 1,aU 2,.str [97],aI 3,.str [98],aI 4] 137,
 .cells [.str [97],.slice 2 0 1 (.exact 1),aI 5] 156,
 .cells [.int .u8 (.lit 1),aU 6,.str [97],.str [],aI 7,.aA,.aA,.aA,aI 8] 208 ],[],.lit 0⟩],[],[],9,[],[],
 []⟩
def atY:FE:=⟨12500,133,[],[],some (⟨7,[(0,.agg [.slice 0 0 1 (.exact 1),.slice 1 0 1 (.exact 1)])],[.cells [aU 0,.str [97],aI 1,.str [],aI 2] 137,
 .cells [.str [97],.slice 2 0 1 (.exact 1),aI 3] 156,
 .cells [.int .u8 (.lit 1),aU 4,.str [97],.str [97],aI 5,.aA,.aA,.aA,aI 6] 208 ],[],.lit 0⟩,[.cells [aU 0,.str [97],aI 1,.str [],aI 2] 137,.cells [.str [97],.slice 2 0 1 (.exact 1),aI 3] 156,.cells [.int .u8 (.lit 1),aU 4,.str [97],.str [97],aI 5,.aA,.aA,.aA,aI 6] 208],7),[⟨7,[(0,.bool (.lit false))],[.cells [aU 0,.str [97],aI 1,.str [],aI 2] 137,
 .cells [.str [97],.slice 2 0 1 (.exact 1),aI 3] 156,
 .cells [.int .u8 (.lit 1),aU 4,.str [97],.str [97],aI 5,.aA,.aA,.aA,aI 6] 208 ],[],.lit 0⟩,⟨7,[(0,.bool (.lit true))],[.cells [aU 0,.str [97],aI 1,.str [],aI 2] 137,
 .cells [.str [97],.slice 2 0 1 (.exact 1),aI 3] 156,
 .cells [.int .u8 (.lit 1),aU 4,.str [97],.str [97],aI 5,.aA,.aA,.aA,aI 6] 208 ],[],.lit 0⟩],[],[],7,[],[],
 []⟩
def atX:FE:=⟨12550,133,[],[],some (⟨9,[(0,.agg [.slice 0 0 2 (.exact 2),.slice 1 0 1 (.exact 1)])],[.cells [.int .u8 (.lit 1),.str [98],aI 0,.str [],aI 1,aU 2,.str [97],aI 3,.str [98],aI 4] 137,
 .cells [.str [97],.slice 2 0 1 (.exact 1),aI 5] 156,
 .cells [.int .u8 (.lit 1),aU 6,.str [97],.str [97],aI 7,.aA,.aA,.aA,aI 8] 208 ],[],.lit 0⟩,[.cells [.int .u8 (.lit 1),.str [98],aI 0,.str [],aI 1,aU 2,.str [97],aI 3,.str [98],aI 4] 137,.cells [.str [97],.slice 2 0 1 (.exact 1),aI 5] 156,.cells [.int .u8 (.lit 1),aU 6,.str [97],.str [97],aI 7,.aA,.aA,.aA,aI 8] 208],9),[⟨9,[(0,.bool (.lit false))],[.cells [.int .u8 (.lit 1),.str [98],aI 0,.str [],aI 1,aU 2,.str [97],aI 3,.str [98],aI 4] 137,
 .cells [.str [97],.slice 2 0 1 (.exact 1),aI 5] 156,
 .cells [.int .u8 (.lit 1),aU 6,.str [97],.str [97],aI 7,.aA,.aA,.aA,aI 8] 208 ],[],.lit 0⟩,⟨9,[(0,.bool (.lit true))],[.cells [.int .u8 (.lit 1),.str [98],aI 0,.str [],aI 1,aU 2,.str [97],aI 3,.str [98],aI 4] 137,
 .cells [.str [97],.slice 2 0 1 (.exact 1),aI 5] 156,
 .cells [.int .u8 (.lit 1),aU 6,.str [97],.str [97],aI 7,.aA,.aA,.aA,aI 8] 208 ],[],.lit 0⟩],[],[],9,[],[],
 []⟩
def atW:FE:=⟨12600,133,[],[],some (⟨8,[(0,.agg [.slice 0 0 1 (.exact 1),.slice 1 0 1 (.exact 1)])],[.cells [aU 0,.str [97],aI 1,.str [],aI 2] 137,
 .cells [.str [97],.slice 2 0 1 (.exact 1),aI 3] 156,
 .cells [.int .u8 (.lit 1),aU 4,.str [97],.str [],aI 5,aV 3 6 6,.aA,.aA,aI 7] 208,
 .vec (.aQ 6) 6 69 []],[],.lit 0⟩,[.cells [aU 0,.str [97],aI 1,.str [],aI 2] 137,.cells [.str [97],.slice 2 0 1 (.exact 1),aI 3] 156,.cells [.int .u8 (.lit 1),aU 4,.str [97],.str [],aI 5,aV 3 6 6,.aA,.aA,aI 7] 208,.vec (.aQ 6) 6 69 []],8),[⟨8,[(0,.bool (.lit false))],[.cells [aU 0,.str [97],aI 1,.str [],aI 2] 137,
 .cells [.str [97],.slice 2 0 1 (.exact 1),aI 3] 156,
 .cells [.int .u8 (.lit 1),aU 4,.str [97],.str [],aI 5,aV 3 6 6,.aA,.aA,aI 7] 208,
 .vec (.aQ 6) 6 69 []],[],.lit 0⟩,⟨10,[(0,.bool (.lit true))],[.cells [aU 0,.str [97],aI 1,.str [],aI 2] 137,
 .cells [.str [97],.slice 2 0 1 (.exact 1),aI 3] 156,
 .cells [.int .u8 (.lit 1),aU 4,.str [97],.str [],aI 5,.uK 3 (.aQ 8) 6,.aA,.aA,aI 7] 208,
 .vec (.aQ 9) 6 69 []],[],.lit 0⟩],[],[],8,[],[],
 []⟩
def atV:FE:=⟨12650,133,[],[],some (⟨10,[(0,.agg [.slice 0 0 2 (.exact 2),.slice 1 0 1 (.exact 1)])],[.cells [.int .u8 (.lit 1),.str [98],aI 0,.str [],aI 1,aU 2,.str [97],aI 3,.str [98],aI 4] 137,
 .cells [.str [97],.slice 2 0 1 (.exact 1),aI 5] 156,
 .cells [.int .u8 (.lit 1),aU 6,.str [97],.str [],aI 7,aV 3 8 6,.aA,.aA,aI 9] 208,
 .vec (.aQ 8) 6 69 []],[],.lit 0⟩,[.cells [.int .u8 (.lit 1),.str [98],aI 0,.str [],aI 1,aU 2,.str [97],aI 3,.str [98],aI 4] 137,.cells [.str [97],.slice 2 0 1 (.exact 1),aI 5] 156,.cells [.int .u8 (.lit 1),aU 6,.str [97],.str [],aI 7,aV 3 8 6,.aA,.aA,aI 9] 208,.vec (.aQ 8) 6 69 []],10),[⟨10,[(0,.bool (.lit false))],[.cells [.int .u8 (.lit 1),.str [98],aI 0,.str [],aI 1,aU 2,.str [97],aI 3,.str [98],aI 4] 137,
 .cells [.str [97],.slice 2 0 1 (.exact 1),aI 5] 156,
 .cells [.int .u8 (.lit 1),aU 6,.str [97],.str [],aI 7,aV 3 8 6,.aA,.aA,aI 9] 208,
 .vec (.aQ 8) 6 69 []],[],.lit 0⟩,⟨12,[(0,.bool (.lit true))],[.cells [.int .u8 (.lit 1),.str [98],aI 0,.str [],aI 1,aU 2,.str [97],aI 3,.str [98],aI 4] 137,
 .cells [.str [97],.slice 2 0 1 (.exact 1),aI 5] 156,
 .cells [.int .u8 (.lit 1),aU 6,.str [97],.str [],aI 7,.uK 3 (.aQ 10) 6,.aA,.aA,aI 9] 208,
 .vec (.aQ 11) 6 69 []],[],.lit 0⟩],[],[],10,[],[],
 []⟩
def atU:FE:=⟨12700,133,[],[],some (⟨8,[(0,.agg [.slice 0 0 1 (.exact 1),.slice 1 0 1 (.exact 1)])],[.cells [aU 0,.str [97],aI 1,.str [],aI 2] 137,
 .cells [.str [97],.slice 2 0 1 (.exact 1),aI 3] 156,
 .cells [.int .u8 (.lit 1),aU 4,.str [97],.str [97],aI 5,aV 3 6 6,.aA,.aA,aI 7] 208,
 .vec (.aQ 6) 6 69 []],[],.lit 0⟩,[.cells [aU 0,.str [97],aI 1,.str [],aI 2] 137,.cells [.str [97],.slice 2 0 1 (.exact 1),aI 3] 156,.cells [.int .u8 (.lit 1),aU 4,.str [97],.str [97],aI 5,aV 3 6 6,.aA,.aA,aI 7] 208,.vec (.aQ 6) 6 69 []],8),[⟨8,[(0,.bool (.lit false))],[.cells [aU 0,.str [97],aI 1,.str [],aI 2] 137,
 .cells [.str [97],.slice 2 0 1 (.exact 1),aI 3] 156,
 .cells [.int .u8 (.lit 1),aU 4,.str [97],.str [97],aI 5,aV 3 6 6,.aA,.aA,aI 7] 208,
 .vec (.aQ 6) 6 69 []],[],.lit 0⟩,⟨10,[(0,.bool (.lit true))],[.cells [aU 0,.str [97],aI 1,.str [],aI 2] 137,
 .cells [.str [97],.slice 2 0 1 (.exact 1),aI 3] 156,
 .cells [.int .u8 (.lit 1),aU 4,.str [97],.str [97],aI 5,.uK 3 (.aQ 8) 6,.aA,.aA,aI 7] 208,
 .vec (.aQ 9) 6 69 []],[],.lit 0⟩],[],[],8,[],[],
 []⟩
def atT:FE:=⟨12750,133,[],[],some (⟨10,[(0,.agg [.slice 0 0 2 (.exact 2),.slice 1 0 1 (.exact 1)])],[.cells [.int .u8 (.lit 1),.str [98],aI 0,.str [],aI 1,aU 2,.str [97],aI 3,.str [98],aI 4] 137,
 .cells [.str [97],.slice 2 0 1 (.exact 1),aI 5] 156,
 .cells [.int .u8 (.lit 1),aU 6,.str [97],.str [97],aI 7,aV 3 8 6,.aA,.aA,aI 9] 208,
 .vec (.aQ 8) 6 69 []],[],.lit 0⟩,[.cells [.int .u8 (.lit 1),.str [98],aI 0,.str [],aI 1,aU 2,.str [97],aI 3,.str [98],aI 4] 137,.cells [.str [97],.slice 2 0 1 (.exact 1),aI 5] 156,.cells [.int .u8 (.lit 1),aU 6,.str [97],.str [97],aI 7,aV 3 8 6,.aA,.aA,aI 9] 208,.vec (.aQ 8) 6 69 []],10),[⟨10,[(0,.bool (.lit false))],[.cells [.int .u8 (.lit 1),.str [98],aI 0,.str [],aI 1,aU 2,.str [97],aI 3,.str [98],aI 4] 137,
 .cells [.str [97],.slice 2 0 1 (.exact 1),aI 5] 156,
 .cells [.int .u8 (.lit 1),aU 6,.str [97],.str [97],aI 7,aV 3 8 6,.aA,.aA,aI 9] 208,
 .vec (.aQ 8) 6 69 []],[],.lit 0⟩,⟨12,[(0,.bool (.lit true))],[.cells [.int .u8 (.lit 1),.str [98],aI 0,.str [],aI 1,aU 2,.str [97],aI 3,.str [98],aI 4] 137,
 .cells [.str [97],.slice 2 0 1 (.exact 1),aI 5] 156,
 .cells [.int .u8 (.lit 1),aU 6,.str [97],.str [97],aI 7,.uK 3 (.aQ 10) 6,.aA,.aA,aI 9] 208,
 .vec (.aQ 11) 6 69 []],[],.lit 0⟩],[],[],10,[],[],
 []⟩
def atS:FE:=⟨12800,185,[],[],some (⟨2,[(0,.ptr 0 0),(1,aS 0),(2,aI 1)],[.cells (u8L [0,0,0,0,0,0,0,0,0,1,1,0,0,1,0,0,0,0,0,0,0,0,0,0,0,0,0,0,0,0,0,0,1,0,0,2,0,0,0,0,5,5,5,5,0,5,0,0,3,3,3,3,3,3,3,3,3,3,0,5,5,5,0,0,0,4,4,4,4,4,4,4,4,4,4,4,4,4,4,4,4,4,4,4,4,4,4,4,4,4,4,0,0,0,0,4,0,4,4,4,4,4,4,4,4,4,4,4,4,4,4,4,4,4,4,4,4,4,4,4,4,4,4,5,0,5,0,0,0,0,0,0,0,0,0,0,0,0,0,0,0,0,0,0,0,0,0,0,0,0,0,0,0,0,0,0,0,0,0,0,0,0,0,0,0,0,0,0,0,0,0,0,0,0,0,0,0,0,0,0,0,0,0,0,0,0,0,0,0,0,0,0,0,0,0,0,0,0,0,0,0,0,0,0,0,0,0,0,0,0,0,0,0,0,0,0,0,0,0,0,0,0,0,0,0,0,0,0,0,0,0,0,0,0,0,0,0,0,0,0,0,0,0,0,0,0,0,0,0,0,0,0,0,0,0,0]) 241 ],[],.lit 0⟩,[.cells (u8L [0,0,0,0,0,0,0,0,0,1,1,0,0,1,0,0,0,0,0,0,0,0,0,0,0,0,0,0,0,0,0,0,1,0,0,2,0,0,0,0,5,5,5,5,0,5,0,0,3,3,3,3,3,3,3,3,3,3,0,5,5,5,0,0,0,4,4,4,4,4,4,4,4,4,4,4,4,4,4,4,4,4,4,4,4,4,4,4,4,4,4,0,0,0,0,4,0,4,4,4,4,4,4,4,4,4,4,4,4,4,4,4,4,4,4,4,4,4,4,4,4,4,4,5,0,5,0,0,0,0,0,0,0,0,0,0,0,0,0,0,0,0,0,0,0,0,0,0,0,0,0,0,0,0,0,0,0,0,0,0,0,0,0,0,0,0,0,0,0,0,0,0,0,0,0,0,0,0,0,0,0,0,0,0,0,0,0,0,0,0,0,0,0,0,0,0,0,0,0,0,0,0,0,0,0,0,0,0,0,0,0,0,0,0,0,0,0,0,0,0,0,0,0,0,0,0,0,0,0,0,0,0,0,0,0,0,0,0,0,0,0,0,0,0,0,0,0,0,0,0,0,0,0,0,0,0]) 241],2),[⟨3,[(0,aI 2)],[.cells (u8L [0,0,0,0,0,0,0,0,0,1,1,0,0,1,0,0,0,0,0,0,0,0,0,0,0,0,0,0,0,0,0,0,1,0,0,2,0,0,0,0,5,5,5,5,0,5,0,0,3,3,3,3,3,3,3,3,3,3,0,5,5,5,0,0,0,4,4,4,4,4,4,4,4,4,4,4,4,4,4,4,4,4,4,4,4,4,4,4,4,4,4,0,0,0,0,4,0,4,4,4,4,4,4,4,4,4,4,4,4,4,4,4,4,4,4,4,4,4,4,4,4,4,4,5,0,5,0,0,0,0,0,0,0,0,0,0,0,0,0,0,0,0,0,0,0,0,0,0,0,0,0,0,0,0,0,0,0,0,0,0,0,0,0,0,0,0,0,0,0,0,0,0,0,0,0,0,0,0,0,0,0,0,0,0,0,0,0,0,0,0,0,0,0,0,0,0,0,0,0,0,0,0,0,0,0,0,0,0,0,0,0,0,0,0,0,0,0,0,0,0,0,0,0,0,0,0,0,0,0,0,0,0,0,0,0,0,0,0,0,0,0,0,0,0,0,0,0,0,0,0,0,0,0,0,0,0]) 241 ],[],.lit 0⟩],[],[],2,[],[],
 [([0,0,1,0,1],⟨3,[(0,.ptr 0 0),(1,aS 0),(2,aI 2)],[.cells (u8L [0,0,0,0,0,0,0,0,0,1,1,0,0,1,0,0,0,0,0,0,0,0,0,0,0,0,0,0,0,0,0,0,1,0,0,2,0,0,0,0,5,5,5,5,0,5,0,0,3,3,3,3,3,3,3,3,3,3,0,5,5,5,0,0,0,4,4,4,4,4,4,4,4,4,4,4,4,4,4,4,4,4,4,4,4,4,4,4,4,4,4,0,0,0,0,4,0,4,4,4,4,4,4,4,4,4,4,4,4,4,4,4,4,4,4,4,4,4,4,4,4,4,4,5,0,5,0,0,0,0,0,0,0,0,0,0,0,0,0,0,0,0,0,0,0,0,0,0,0,0,0,0,0,0,0,0,0,0,0,0,0,0,0,0,0,0,0,0,0,0,0,0,0,0,0,0,0,0,0,0,0,0,0,0,0,0,0,0,0,0,0,0,0,0,0,0,0,0,0,0,0,0,0,0,0,0,0,0,0,0,0,0,0,0,0,0,0,0,0,0,0,0,0,0,0,0,0,0,0,0,0,0,0,0,0,0,0,0,0,0,0,0,0,0,0,0,0,0,0,0,0,0,0,0,0,0]) 241 ],[],.lit 0⟩)]⟩
def atQ:FE:=⟨12850,187,[],[],some (⟨2,[(0,.ptr 0 0),(1,aS 0),(2,aI 1)],[.cells (u8L [0,0,0,0,0,0,0,0,0,1,1,0,0,1,0,0,0,0,0,0,0,0,0,0,0,0,0,0,0,0,0,0,1,0,0,2,0,0,0,0,5,5,5,5,0,5,0,0,3,3,3,3,3,3,3,3,3,3,0,5,5,5,0,0,0,4,4,4,4,4,4,4,4,4,4,4,4,4,4,4,4,4,4,4,4,4,4,4,4,4,4,0,0,0,0,4,0,4,4,4,4,4,4,4,4,4,4,4,4,4,4,4,4,4,4,4,4,4,4,4,4,4,4,5,0,5,0,0,0,0,0,0,0,0,0,0,0,0,0,0,0,0,0,0,0,0,0,0,0,0,0,0,0,0,0,0,0,0,0,0,0,0,0,0,0,0,0,0,0,0,0,0,0,0,0,0,0,0,0,0,0,0,0,0,0,0,0,0,0,0,0,0,0,0,0,0,0,0,0,0,0,0,0,0,0,0,0,0,0,0,0,0,0,0,0,0,0,0,0,0,0,0,0,0,0,0,0,0,0,0,0,0,0,0,0,0,0,0,0,0,0,0,0,0,0,0,0,0,0,0,0,0,0,0,0,0]) 241 ],[],.lit 0⟩,[.cells (u8L [0,0,0,0,0,0,0,0,0,1,1,0,0,1,0,0,0,0,0,0,0,0,0,0,0,0,0,0,0,0,0,0,1,0,0,2,0,0,0,0,5,5,5,5,0,5,0,0,3,3,3,3,3,3,3,3,3,3,0,5,5,5,0,0,0,4,4,4,4,4,4,4,4,4,4,4,4,4,4,4,4,4,4,4,4,4,4,4,4,4,4,0,0,0,0,4,0,4,4,4,4,4,4,4,4,4,4,4,4,4,4,4,4,4,4,4,4,4,4,4,4,4,4,5,0,5,0,0,0,0,0,0,0,0,0,0,0,0,0,0,0,0,0,0,0,0,0,0,0,0,0,0,0,0,0,0,0,0,0,0,0,0,0,0,0,0,0,0,0,0,0,0,0,0,0,0,0,0,0,0,0,0,0,0,0,0,0,0,0,0,0,0,0,0,0,0,0,0,0,0,0,0,0,0,0,0,0,0,0,0,0,0,0,0,0,0,0,0,0,0,0,0,0,0,0,0,0,0,0,0,0,0,0,0,0,0,0,0,0,0,0,0,0,0,0,0,0,0,0,0,0,0,0,0,0,0]) 241],2),[⟨3,[(0,aI 2)],[.cells (u8L [0,0,0,0,0,0,0,0,0,1,1,0,0,1,0,0,0,0,0,0,0,0,0,0,0,0,0,0,0,0,0,0,1,0,0,2,0,0,0,0,5,5,5,5,0,5,0,0,3,3,3,3,3,3,3,3,3,3,0,5,5,5,0,0,0,4,4,4,4,4,4,4,4,4,4,4,4,4,4,4,4,4,4,4,4,4,4,4,4,4,4,0,0,0,0,4,0,4,4,4,4,4,4,4,4,4,4,4,4,4,4,4,4,4,4,4,4,4,4,4,4,4,4,5,0,5,0,0,0,0,0,0,0,0,0,0,0,0,0,0,0,0,0,0,0,0,0,0,0,0,0,0,0,0,0,0,0,0,0,0,0,0,0,0,0,0,0,0,0,0,0,0,0,0,0,0,0,0,0,0,0,0,0,0,0,0,0,0,0,0,0,0,0,0,0,0,0,0,0,0,0,0,0,0,0,0,0,0,0,0,0,0,0,0,0,0,0,0,0,0,0,0,0,0,0,0,0,0,0,0,0,0,0,0,0,0,0,0,0,0,0,0,0,0,0,0,0,0,0,0,0,0,0,0,0,0]) 241 ],[],.lit 0⟩],[],[],2,[],[],
 [([0,0,1,1,1,1],⟨4,[(0,.ptr 0 0),(1,aS 0),(7,aU 2),(8,aI 3)],[.cells (u8L [0,0,0,0,0,0,0,0,0,1,1,0,0,1,0,0,0,0,0,0,0,0,0,0,0,0,0,0,0,0,0,0,1,0,0,2,0,0,0,0,5,5,5,5,0,5,0,0,3,3,3,3,3,3,3,3,3,3,0,5,5,5,0,0,0,4,4,4,4,4,4,4,4,4,4,4,4,4,4,4,4,4,4,4,4,4,4,4,4,4,4,0,0,0,0,4,0,4,4,4,4,4,4,4,4,4,4,4,4,4,4,4,4,4,4,4,4,4,4,4,4,4,4,5,0,5,0,0,0,0,0,0,0,0,0,0,0,0,0,0,0,0,0,0,0,0,0,0,0,0,0,0,0,0,0,0,0,0,0,0,0,0,0,0,0,0,0,0,0,0,0,0,0,0,0,0,0,0,0,0,0,0,0,0,0,0,0,0,0,0,0,0,0,0,0,0,0,0,0,0,0,0,0,0,0,0,0,0,0,0,0,0,0,0,0,0,0,0,0,0,0,0,0,0,0,0,0,0,0,0,0,0,0,0,0,0,0,0,0,0,0,0,0,0,0,0,0,0,0,0,0,0,0,0,0,0]) 241 ],[],.lit 0⟩)]⟩
def atO:FE:=⟨14000,28,[],[],some (⟨11,[(0,.agg [aD 0 3,aD 1 4]),(1,.ptr 0 0),(2,aI 2)],[.cells [aD 3 7,aV 1 4 8] 34,
 .vec (.aQ 4) 8 92 [(.aQ 2,[aI 5,aV 2 6 0,aU 7,aI 8,aI 9,aI 10])],
 .vec (.aQ 6) 0 2 []],[],.lit 0⟩,[.cells [aD 3 7,aV 1 4 8] 34,.vec (.aQ 4) 8 92 [(.aQ 2,[aI 5,aV 2 6 0,aU 7,aI 8,aI 9,aI 10])],.vec (.aQ 6) 0 2 []],11),[⟨13,[],[.cells [aD 3 7,aV 1 4 8] 34,
 .vec (.aQ 4) 8 92 [(.aQ 2,[aI 11,aV 2 12 0,aU 7,aI 8,aI 9,aI 10])],
 .vec (.aQ 12) 0 2 []],[],.lit 0⟩],[],[],11,[],[],
 []⟩
def atM:FE:=⟨14500,29,[],[],some (⟨15,[(0,.agg [aD 0 3,aD 1 4]),(1,.ptr 0 0),(2,aI 2),(3,.agg [aU 3,aI 4,aI 5,aI 6])],[.cells [aD 7 7,aV 1 8 8] 34,
 .vec (.aQ 8) 8 92 [(.aQ 2,[aI 9,aV 2 10 0,aU 11,aI 12,aI 13,aI 14])],
 .vec (.aQ 10) 0 2 []],[],.lit 0⟩,[.cells [aD 7 7,aV 1 8 8] 34,.vec (.aQ 8) 8 92 [(.aQ 2,[aI 9,aV 2 10 0,aU 11,aI 12,aI 13,aI 14])],.vec (.aQ 10) 0 2 []],15),[⟨28,[(0,.agg [aI 15,aU 16,aI 17,aI 18,aI 19]),(1,aU 20)],[.cells [aD 21 7,aV 1 8 8] 34,
 .vec (.aQ 8) 8 92 [(.aQ 2,[aI 22,aV 2 23 0,aU 24,aI 25,aI 26,aI 27])],
 .vec (.aQ 23) 0 2 []],[],.lit 0⟩],[],[],15,[],[],
 []⟩
def atN:FE:=⟨14050,28,[],[],some (⟨11,[(0,.agg [aD 0 3,aD 1 4]),(1,.ptr 0 0),(2,aI 2)],[.cells [aD 3 7,aV 1 4 8] 34,
 .vec (.aQ 4) 8 92 [(.aQ 2,[aI 5,aE 6 0,aU 7,aI 8,aI 9,aI 10])]],[],.lit 0⟩,[.cells [aD 3 7,aV 1 4 8] 34,.vec (.aQ 4) 8 92 [(.aQ 2,[aI 5,aE 6 0,aU 7,aI 8,aI 9,aI 10])]],11),[⟨12,[],[.cells [aD 3 7,aV 1 4 8] 34,
 .vec (.aQ 4) 8 92 [(.aQ 2,[aI 11,aE 6 0,aU 7,aI 8,aI 9,aI 10])]],[],.lit 0⟩],[],[],11,[],[],
 []⟩
def atL:FE:=⟨14550,29,[],[],some (⟨15,[(0,.agg [aD 0 3,aD 1 4]),(1,.ptr 0 0),(2,aI 2),(3,.agg [aU 3,aI 4,aI 5,aI 6])],[.cells [aD 7 7,aV 1 8 8] 34,
 .vec (.aQ 8) 8 92 [(.aQ 2,[aI 9,aE 10 0,aU 11,aI 12,aI 13,aI 14])]],[],.lit 0⟩,[.cells [aD 7 7,aV 1 8 8] 34,.vec (.aQ 8) 8 92 [(.aQ 2,[aI 9,aE 10 0,aU 11,aI 12,aI 13,aI 14])]],15),[⟨27,[(0,.agg [aI 15,aU 16,aI 17,aI 18,aI 19]),(1,aU 20)],[.cells [aD 21 7,aV 1 8 8] 34,
 .vec (.aQ 8) 8 92 [(.aQ 2,[aI 22,aE 10 0,aU 23,aI 24,aI 25,aI 26])]],[],.lit 0⟩],[],[],15,[],[],
 []⟩
def atK:FE:=⟨15500,8,[],[],some (⟨3,[(0,.agg [aD 0 3,aD 1 4]),(1,aD 2 0) ],[],[],.lit 0⟩,[],3),[⟨3,[(0,.aA),(1,.agg [.aA,.aA]) ],[],[],.lit 0⟩,⟨5,[(0,.aA),(1,.agg [aD 3 7,aD 4 8]) ],[],[],.lit 0⟩,⟨6,[(0,aV 0 3 9),(1,.agg [aD 4 7,aD 5 8])],[.vec (.aQ 3) 9 39 []],[],.lit 0⟩],[],[],3,[],[],
 [([0,1,0,1,1,1,1,1,1],⟨7,[(1,aD 2 0),(5,.ptr 0 0),(8,.ptr 1 0),(9,.ptr 2 0),(10,aI 3),(11,aI 4)],[.cells [.aA,.aA] 34,
  .cells [.aA] 30,
  .cells [aD 0 3,aD 1 4,aD 5 7,aD 6 8,.func (.func 22) [] [.ptr 1 0]] 79 ],[],.lit 0⟩),([0,1,0,1,1,1,1,1,1],⟨8,[(1,aD 2 0),(5,.ptr 0 0),(8,.ptr 1 0),(9,.ptr 2 0),(10,aI 3),(11,aI 4)],[.cells [.aA,.aA] 34,
  .cells [aV 3 5 9] 30,
  .cells [aD 0 3,aD 1 4,aD 6 7,aD 7 8,.func (.func 22) [] [.ptr 1 0]] 79,
  .vec (.aQ 5) 9 39 []],[],.lit 0⟩)]⟩
def atJ:FE:=⟨15550,8,[],[],some (⟨2,[(0,.agg [aD 0 3,aD 1 4]),(1,.aA) ],[],[],.lit 0⟩,[],2),[⟨2,[(0,.aA),(1,.agg [.aA,.aA]) ],[],[],.lit 0⟩,⟨4,[(0,.aA),(1,.agg [aD 2 7,aD 3 8]) ],[],[],.lit 0⟩],[],[],2,[],[],
 [([0,1,0,1,1,1,1,1,1],⟨5,[(1,.aA),(5,.ptr 0 0),(8,.ptr 1 0),(9,.ptr 2 0),(10,aI 2),(11,aJ 0)],[.cells [.aA,.aA] 34,
  .cells [.aA] 30,
  .cells [aD 0 3,aD 1 4,aD 3 7,aD 4 8,.func (.func 22) [] [.ptr 1 0]] 79 ],[],.lit 0⟩)]⟩
def atI:FE:=⟨15600,8,[],[],some (⟨3,[(0,.agg [aD 0 3,aD 1 4]),(1,aV 0 2 0)],[.vec (.aQ 2) 0 3 []],[],.lit 0⟩,[.vec (.aQ 2) 0 3 []],3),[⟨3,[(0,.aA),(1,.agg [.aA,.aA])],[.vec (.aQ 2) 0 3 []],[],.lit 0⟩,⟨5,[(0,.aA),(1,.agg [aD 3 7,aD 4 8])],[.vec (.aQ 2) 0 3 []],[],.lit 0⟩,⟨6,[(0,aV 1 3 9),(1,.agg [aD 4 7,aD 5 8])],[.vec (.aQ 2) 0 3 [],
 .vec (.aQ 3) 9 39 []],[],.lit 0⟩],[],[],3,[],[],
 [([0,1,0,1,1,1,1,1,1],⟨7,[(1,aV 0 2 0),(5,.ptr 1 0),(8,.ptr 2 0),(9,.ptr 3 0),(10,aI 3),(11,aI 4)],[.vec (.aQ 2) 0 3 [],
  .cells [.aA,.aA] 34,
  .cells [.aA] 30,
  .cells [aD 0 3,aD 1 4,aD 5 7,aD 6 8,.func (.func 22) [] [.ptr 2 0]] 79 ],[],.lit 0⟩),([0,1,0,1,1,1,1,1,1],⟨8,[(1,aV 0 2 0),(5,.ptr 1 0),(8,.ptr 2 0),(9,.ptr 3 0),(10,aI 3),(11,aI 4)],[.vec (.aQ 2) 0 3 [],
  .cells [.aA,.aA] 34,
  .cells [aV 4 5 9] 30,
  .cells [aD 0 3,aD 1 4,aD 6 7,aD 7 8,.func (.func 22) [] [.ptr 2 0]] 79,
  .vec (.aQ 5) 9 39 []],[],.lit 0⟩)]⟩
def atP:FE:=⟨12900,133,[],[],some (⟨2,[(0,.agg [.aA,.slice 0 0 1 (.exact 1)])],[.cells [aS 0,.aA,aI 1] 156 ],[],.lit 0⟩,[.cells [aS 0,.aA,aI 1] 156],2),[⟨2,[(0,.bool (.lit false))],[.cells [aS 0,.aA,aI 1] 156 ],[],.lit 0⟩,⟨2,[(0,.bool (.lit true))],[.cells [aS 0,.aA,aI 1] 156 ],[],.lit 0⟩],[],[],2,[],[],
 []⟩
def feT:Tr FE:=(.node none (.node none (.node (some aDO) (.node (some aDK) (.node (some aDC) (.node (some aBd) (.node none (.node none (.node (some atT) .nil .nil) .nil) .nil) .nil) (.node none .nil (.node (some aAS) .nil .nil))) (.node (some aBl) (.node (some aA7) (.node none .nil .nil) (.node (some aA0) .nil .nil)) (.node none .nil (.node none (.node none (.node (some atJ) .nil .nil) .nil) (.node (some auB) .nil .nil))))) (.node (some aDG) (.node (some aDy) (.node (some aA9) .nil (.node none (.node none (.node (some atL) .nil .nil) .nil) .nil)) (.node none .nil (.node none .nil (.node (some auF) .nil .nil)))) (.node (some aBh) (.node none .nil (.node (some aAW) .nil .nil)) (.node none .nil (.node none .nil (.node (some atX) .nil .nil)))))) (.node (some aDM) (.node (some aDI) (.node (some aDA) (.node (some aBa) (.node none (.node none (.node (some atQ) .nil .nil) .nil) (.node none (.node none .nil .nil) .nil)) .nil) (.node (some aA4) .nil (.node none .nil (.node (some auH) .nil .nil)))) (.node (some aBj) (.node (some aA6) .nil (.node (some aAY) .nil .nil)) (.node none (.node none (.node none (.node (some atN) .nil .nil) .nil) .nil) (.node none .nil (.node (some atZ) .nil .nil))))) (.node (some aDE) (.node (some aBn) (.node (some aA8) .nil (.node (some aA2) .nil .nil)) (.node none .nil (.node none (.node (some aAP) .nil .nil) (.node (some auD) .nil .nil)))) (.node (some aBf) (.node none .nil (.node (some aAU) .nil .nil)) (.node none .nil (.node none .nil (.node (some atV) .nil .nil))))))) (.node (some aDP) (.node (some aDN) (.node (some aDJ) (.node (some aDB) (.node (some aBb) (.node none (.node none (.node (some atS) .nil .nil) .nil) (.node none (.node none .nil .nil) .nil)) .nil) (.node none .nil (.node (some aAR) .nil (.node (some auI) .nil .nil)))) (.node (some aBk) (.node none .nil (.node (some aAZ) .nil .nil)) (.node none (.node none (.node none (.node (some atO) .nil .nil) .nil) .nil) (.node none (.node none (.node (some atI) .nil .nil) .nil) (.node (some auA) .nil .nil))))) (.node (some aDF) (.node (some aBo) (.node none (.node none .nil .nil) (.node (some aA3) .nil .nil)) (.node none .nil (.node none (.node (some aAQ) .nil .nil) (.node (some auE) .nil .nil)))) (.node (some aBg) (.node none .nil (.node (some aAV) (.node none (.node none .nil .nil) .nil) .nil)) (.node none .nil (.node none .nil (.node (some atW) .nil .nil)))))) (.node (some aDL) (.node (some aDH) (.node (some aDz) (.node none (.node none (.node none (.node (some atP) .nil .nil) .nil) .nil) (.node none (.node none (.node (some atM) .nil .nil) .nil) .nil)) (.node (some amI) .nil (.node none .nil (.node (some auG) .nil .nil)))) (.node (some aBi) (.node (some aA5) .nil (.node (some aAX) .nil .nil)) (.node none .nil (.node none .nil (.node (some atY) .nil .nil))))) (.node (some aDD) (.node (some aBm) (.node none .nil (.node (some aA1) .nil .nil)) (.node none .nil (.node none (.node none (.node (some atK) .nil .nil) .nil) (.node (some auC) .nil .nil)))) (.node (some aBe) (.node none .nil (.node (some aAT) .nil .nil)) (.node none .nil (.node none .nil (.node (some atU) .nil .nil))))))))
def aAi:Tr (List Nat):=(.node none (.node none (.node (some [2500]) (.node none (.node none (.node none .nil (.node none (.node (some [850]) .nil .nil) .nil)) (.node (some [1950]) (.node (some [700]) .nil .nil) .nil)) (.node none (.node (some [1500]) .nil .nil) (.node none .nil (.node none (.node none .nil .nil) .nil)))) (.node (some [2450]) (.node none (.node none (.node none (.node (some [1000]) .nil .nil) .nil) .nil) (.node none (.node (some [800]) .nil (.node (some [1250]) .nil .nil)) .nil)) (.node (some [1750]) .nil (.node none .nil (.node none (.node (some [12850]) .nil .nil) .nil))))) (.node none (.node (some [1850]) (.node (some [150]) (.node none .nil .nil) (.node none (.node (some [5000]) (.node (some [5400]) .nil .nil) .nil) .nil)) (.node (some [1550]) (.node (some [450]) .nil .nil) (.node none (.node none .nil (.node (some [1200]) .nil .nil)) (.node none (.node (some [12800]) .nil .nil) .nil)))) (.node none (.node (some [1450]) (.node none (.node none (.node (some [12400,12450,12500,12550,12600,12650,12700,12750,12900]) .nil .nil) .nil) .nil) (.node (some [400]) (.node (some [9000,550]) .nil .nil) .nil)) (.node (some [14500,14550]) (.node none (.node (some [350]) .nil (.node (some [650]) .nil .nil)) .nil) (.node none (.node none .nil .nil) (.node (some [1350]) .nil .nil)))))) (.node none (.node none (.node (some [15500,15550,15600]) (.node none (.node none .nil .nil) (.node none (.node (some [750]) (.node (some [950]) .nil .nil) .nil) .nil)) (.node (some [9050]) (.node none .nil .nil) (.node none (.node none .nil (.node (some [1150]) .nil .nil)) .nil))) (.node (some [2050]) (.node none (.node none .nil .nil) (.node none (.node none .nil (.node (some [1300]) .nil .nil)) .nil)) (.node (some [14000,14050]) .nil (.node none (.node (some [900]) .nil .nil) (.node none (.node (some [1100]) .nil .nil) .nil))))) (.node (some [100]) (.node (some [2100]) (.node none (.node none (.node none (.node (some [1400]) .nil .nil) .nil) .nil) (.node none (.node none (.node (some [5050]) .nil .nil) .nil) .nil)) (.node (some [1650]) (.node (some [300]) .nil .nil) (.node none (.node none .nil (.node (some [5150,5200,5300,5350,5500,5550,5600]) .nil .nil)) (.node (some [1050]) .nil .nil)))) (.node none (.node none (.node none (.node none .nil (.node (some [5100,5250,5450]) .nil .nil)) .nil) (.node (some [250]) (.node (some [600]) .nil .nil) .nil)) (.node (some [200]) (.node none (.node (some [1600]) (.node (some [500]) .nil .nil) (.node (some [12050,12150,12250,12350]) .nil .nil)) (.node none (.node (some [12000,12100,12200,12300]) .nil .nil) .nil)) .nil)))))
noncomputable def St:agH:=⟨Tryz.prog,base,ttE,ft,UU ttE hints,Ru ttE hints,YL,lim 322 feT,fun g=>(lim 219 aAi g).getD []⟩
noncomputable def S:Sys:=St.sys
theorem aDx:(List.range 322).all (fun k=>match feT.get k with | some f=>amH ft k f | none=>true)=true:=by kernel_rfl
theorem aAh:(List.range 219).all (fun g=>VJ ft (lim 322 feT) g ((aAi.get g).getD []))=true:=by kernel_rfl
theorem azW:Oz S:=by
 refine arP agY aAL (fun I call hc=>@Gq _ I _ agY mixed _ _ hc) afH (fun k f hf=>?_) fun g=>?_
 ·have hf':lim 322 feT k=some f:=hf
  unfold lim at hf'
  split at hf'
  ·simp at hf'
  ·rename_i hle
   have hlt:k < 322:=by
    rcases Nat.lt_or_ge k 322 with h | h
    ·exact h
    ·rw [Nat.ble_eq_true_of_le h] at hle; simp at hle
   have:=List.all_eq_true.1 aDx k (List.mem_range.2 hlt)
   rw [hf'] at this
   exact this
 ·show VJ ft (lim 322 feT) g ((lim 219 aAi g).getD [])=true
  unfold lim
  split
  ·rfl
  ·rename_i hle
   have hlt:g < 219:=by
    rcases Nat.lt_or_ge g 219 with h | h
    ·exact h
    ·rw [Nat.ble_eq_true_of_le h] at hle; simp at hle
   exact List.all_eq_true.1 aAh g (List.mem_range.2 hlt)
end Go.As.Try
end

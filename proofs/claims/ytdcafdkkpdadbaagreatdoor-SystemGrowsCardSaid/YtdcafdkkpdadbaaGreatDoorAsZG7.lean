import GoSem.Claim
import Derived.Orders
import Derived.Scope
import Derived.LoopN
import Derived.Below
import GoSem.Core.View
import GoSem.Core.Layout
import GoSem.Op.Equal
import Derived.WalkKit
import Derived.Lib.Strings
import Derived.Laws.IdiomStrings
import Derived.Laws.RangeString
import Derived.Laws.StructEq
import Derived.Lib.Bytealg
import Derived.Lib.IndexMore
import Derived.Deep.LoopGhost
import Derived.IntWalk
import Derived.ChangeArms
import Derived.DataReads
import GoSem.ClaimJoined
import Derived.KernelRfl
import Derived.Test.YtdcafdkkpdadbaaGreatDoorProg
import Derived.Shelf.Strings.Search3
import Derived.Shelf.LaysM
import Derived.Shelf.Strings.Shaped
import Derived.Test.YtdcafdkkpdadbaaGreatDoorCards
import Derived.Test.YtdcafdkkpdadbaaGreatDoorTie
import Derived.ProofKit
import Derived.OpenShut
import Derived.Deep.DeepHandedRow
import Derived.LaidLaws
import Derived.Test.YtdcafdkkpdadbaaGreatDoorAsZG6
set_option linter.unusedSectionVars false
set_option linter.unusedVariables false
set_option linter.unusedSimpArgs false
section
namespace Go.As.Try
open Go hiding Stat Spec shape
open Go.As Go.Proofs
set_option maxRecDepth 100000
abbrev aI (n:Nat):AV:=.int .i64 (.aC n)
abbrev aJ (n:Int):AV:=.int .i64 (.lit n)
abbrev aU (n:Nat):AV:=.int .u8 (.aC n)
abbrev aD (n t:Nat):AV:=.dat (.aC n) t
abbrev aS (n:Nat):AV:=.lY (.aC n)
abbrev aB (n:Nat):AV:=.bool (.not (.eq (.aC n) (.lit 0)))
abbrev aV (b n t:Nat):AV:=.uU b (.op .len (.aC n) (.lit 0)) t
abbrev aE (n t:Nat):AV:=.GL (.aC n) t
def azB:FE:=⟨9000,85,[],[],some (⟨2,[(0,aD 1 7) ],[],[],.lit 0⟩,[],0),[⟨2,[(0,aV 0 1 7)],[.vec (.aC 1) 7 114 []],[],.lit 0⟩,⟨1,[(0,.aA) ],[],[],.lit 0⟩,⟨1,[(0,.slice 0 0 0 (.exact 0))],[.cells [] 114 ],[],.lit 0⟩,⟨8,[(0,aV 0 1 7)],[.vec (.aC 1) 7 114 [(.aC 0,[aI 2,aI 3,aB 4,aI 5,aV 1 6 0,aV 2 7 0])],
 .vec (.aC 6) 0 3 [],
 .vec (.aC 7) 0 2 []],[],.aC 0⟩,⟨8,[(0,aV 0 1 7)],[.vec (.aC 1) 7 114 [(.aC 0,[aI 2,aI 3,aB 4,aI 5,aV 1 6 0,aE 7 0])],
 .vec (.aC 6) 0 3 []],[],.aC 0⟩,⟨8,[(0,aV 0 1 7)],[.vec (.aC 1) 7 114 [(.aC 0,[aI 2,aI 3,aB 4,aI 5,aE 6 0,aV 1 7 0])],
 .vec (.aC 7) 0 2 []],[],.aC 0⟩,⟨8,[(0,aV 0 1 7)],[.vec (.aC 1) 7 114 [(.aC 0,[aI 2,aI 3,aB 4,aI 5,aE 6 0,aE 7 0])]],[],.aC 0⟩],[(3,1)],[11],1,[(8,0)],[],
 [([0,1,0,1,1],⟨4,[(0,aV 0 1 7),(7,aI 2),(8,aI 3)],[.vec (.aC 1) 7 114 []],[],.lit 0⟩),([0,1,0,1,1],⟨1,[(0,.aA),(7,aJ 0),(8,aJ 0) ],[],[],.lit 0⟩),([0,1,0,1,1],⟨1,[(0,.slice 0 0 0 (.exact 0)),(7,aJ 0),(8,aJ 0)],[.cells [] 114 ],[],.lit 0⟩),([0,1,0,1,1],⟨10,[(0,aV 0 1 7),(7,aI 2),(8,aI 3)],[.vec (.aC 1) 7 114 [(.aC 0,[aI 4,aI 5,aB 6,aI 7,aV 1 8 0,aV 2 9 0])],
  .vec (.aC 8) 0 3 [],
  .vec (.aC 9) 0 2 []],[],.lit 0⟩),([0,1,0,1,1],⟨10,[(0,aV 0 1 7),(7,aI 2),(8,aI 3)],[.vec (.aC 1) 7 114 [(.aC 0,[aI 4,aI 5,aB 6,aI 7,aV 1 8 0,aE 9 0])],
  .vec (.aC 8) 0 3 []],[],.lit 0⟩),([0,1,0,1,1],⟨10,[(0,aV 0 1 7),(7,aI 2),(8,aI 3)],[.vec (.aC 1) 7 114 [(.aC 0,[aI 4,aI 5,aB 6,aI 7,aE 8 0,aV 1 9 0])],
  .vec (.aC 9) 0 2 []],[],.lit 0⟩),([0,1,0,1,1],⟨10,[(0,aV 0 1 7),(7,aI 2),(8,aI 3)],[.vec (.aC 1) 7 114 [(.aC 0,[aI 4,aI 5,aB 6,aI 7,aE 8 0,aE 9 0])]],[],.lit 0⟩)]⟩
def azA:FE:=⟨9050,24,[],[],some (⟨3,[(0,.agg [aD 1 7,aD 2 8]) ],[],[],.lit 0⟩,[],0),[⟨3,[(0,.agg [aD 1 7,aV 0 2 8])],[.vec (.aC 2) 8 92 []],[],.lit 0⟩,⟨2,[(0,.agg [aD 1 7,.aA]) ],[],[],.lit 0⟩,⟨2,[(0,.agg [aD 1 7,.slice 0 0 0 (.exact 0)])],[.cells [] 92 ],[],.lit 0⟩,⟨9,[(0,.agg [aD 1 7,aV 0 2 8])],[.vec (.aC 2) 8 92 [(.aC 0,[aI 3,aV 1 4 0,aU 5,aI 6,aI 7,aI 8])],
 .vec (.aC 4) 0 2 []],[],.aC 0⟩,⟨9,[(0,.agg [aD 1 7,aV 0 2 8])],[.vec (.aC 2) 8 92 [(.aC 0,[aI 3,aE 4 0,aU 5,aI 6,aI 7,aI 8])]],[],.aC 0⟩],[(2,0)],[10],1,[(44,0)],[(0,0,7)],
 [([0,1,0,1,1],⟨5,[(1,.ptr 0 0),(2,.ptr 1 0),(16,aI 1),(17,aI 2)],[.cells [aV 2 3 7,aV 3 4 8] 34,
  .cells [.aA,.aA] 34,
  .vec (.aC 3) 7 114 [],
  .vec (.aC 4) 8 92 []],[],.lit 0⟩),([0,1,0,1,1],⟨4,[(1,.ptr 0 0),(2,.ptr 1 0),(16,aI 1),(17,aI 2)],[.cells [aV 2 3 7,.aA] 34,
  .cells [.aA,.aA] 34,
  .vec (.aC 3) 7 114 []],[],.lit 0⟩),([0,1,0,1,1],⟨4,[(1,.ptr 0 0),(2,.ptr 1 0),(16,aI 1),(17,aI 2)],[.cells [aV 2 3 7,.slice 3 0 0 (.exact 0)] 34,
  .cells [.aA,.aA] 34,
  .vec (.aC 3) 7 114 [],
  .cells [] 92 ],[],.lit 0⟩),([0,1,0,1,1],⟨2,[(1,.ptr 0 0),(2,.ptr 1 0),(16,aJ 0),(17,aJ 0)],[.cells [.aA,aV 2 1 8] 34,
  .cells [.aA,.aA] 34,
  .vec (.aC 1) 8 92 []],[],.lit 0⟩),([0,1,0,1,1],⟨1,[(1,.ptr 0 0),(2,.ptr 1 0),(16,aJ 0),(17,aJ 0)],[.cells [.aA,.aA] 34,
  .cells [.aA,.aA] 34 ],[],.lit 0⟩),([0,1,0,1,1],⟨1,[(1,.ptr 0 0),(2,.ptr 1 0),(16,aJ 0),(17,aJ 0)],[.cells [.aA,.slice 2 0 0 (.exact 0)] 34,
  .cells [.aA,.aA] 34,
  .cells [] 92 ],[],.lit 0⟩),([0,1,0,1,1],⟨2,[(1,.ptr 0 0),(2,.ptr 1 0),(16,aJ 0),(17,aJ 0)],[.cells [.slice 2 0 0 (.exact 0),aV 3 1 8] 34,
  .cells [.aA,.aA] 34,
  .cells [] 114,
  .vec (.aC 1) 8 92 []],[],.lit 0⟩),([0,1,0,1,1],⟨1,[(1,.ptr 0 0),(2,.ptr 1 0),(16,aJ 0),(17,aJ 0)],[.cells [.slice 2 0 0 (.exact 0),.aA] 34,
  .cells [.aA,.aA] 34,
  .cells [] 114 ],[],.lit 0⟩),([0,1,0,1,1],⟨1,[(1,.ptr 0 0),(2,.ptr 1 0),(16,aJ 0),(17,aJ 0)],[.cells [.slice 2 0 0 (.exact 0),.slice 3 0 0 (.exact 0)] 34,
  .cells [.aA,.aA] 34,
  .cells [] 114,
  .cells [] 92 ],[],.lit 0⟩),([0,1,0,1,1,1],⟨5,[(1,.ptr 0 0),(2,.ptr 1 0),(43,aI 1),(44,aI 2)],[.cells [aV 2 3 7,aV 3 4 8] 34,
  .cells [.aA,.aA] 34,
  .vec (.aC 3) 7 114 [],
  .vec (.aC 4) 8 92 []],[],.lit 0⟩),([0,1,0,1,1,1],⟨2,[(1,.ptr 0 0),(2,.ptr 1 0),(43,aJ 0),(44,aJ 0)],[.cells [aV 2 1 7,.aA] 34,
  .cells [.aA,.aA] 34,
  .vec (.aC 1) 7 114 []],[],.lit 0⟩),([0,1,0,1,1,1],⟨2,[(1,.ptr 0 0),(2,.ptr 1 0),(43,aJ 0),(44,aJ 0)],[.cells [aV 2 1 7,.slice 3 0 0 (.exact 0)] 34,
  .cells [.aA,.aA] 34,
  .vec (.aC 1) 7 114 [],
  .cells [] 92 ],[],.lit 0⟩),([0,1,0,1,1,1],⟨4,[(1,.ptr 0 0),(2,.ptr 1 0),(43,aI 1),(44,aI 2)],[.cells [.aA,aV 2 3 8] 34,
  .cells [.aA,.aA] 34,
  .vec (.aC 3) 8 92 []],[],.lit 0⟩),([0,1,0,1,1,1],⟨1,[(1,.ptr 0 0),(2,.ptr 1 0),(43,aJ 0),(44,aJ 0)],[.cells [.aA,.aA] 34,
  .cells [.aA,.aA] 34 ],[],.lit 0⟩),([0,1,0,1,1,1],⟨1,[(1,.ptr 0 0),(2,.ptr 1 0),(43,aJ 0),(44,aJ 0)],[.cells [.aA,.slice 2 0 0 (.exact 0)] 34,
  .cells [.aA,.aA] 34,
  .cells [] 92 ],[],.lit 0⟩),([0,1,0,1,1,1],⟨4,[(1,.ptr 0 0),(2,.ptr 1 0),(43,aI 1),(44,aI 2)],[.cells [.slice 2 0 0 (.exact 0),aV 3 3 8] 34,
  .cells [.aA,.aA] 34,
  .cells [] 114,
  .vec (.aC 3) 8 92 []],[],.lit 0⟩),([0,1,0,1,1,1],⟨1,[(1,.ptr 0 0),(2,.ptr 1 0),(43,aJ 0),(44,aJ 0)],[.cells [.slice 2 0 0 (.exact 0),.aA] 34,
  .cells [.aA,.aA] 34,
  .cells [] 114 ],[],.lit 0⟩),([0,1,0,1,1,1],⟨1,[(1,.ptr 0 0),(2,.ptr 1 0),(43,aJ 0),(44,aJ 0)],[.cells [.slice 2 0 0 (.exact 0),.slice 3 0 0 (.exact 0)] 34,
  .cells [.aA,.aA] 34,
  .cells [] 114,
  .cells [] 92 ],[],.lit 0⟩),([0,1,0,1,1,1],⟨11,[(1,.ptr 0 0),(2,.ptr 1 0),(43,aI 1),(44,aI 2)],[.cells [aV 2 3 7,aV 3 4 8] 34,
  .cells [.aA,.aA] 34,
  .vec (.aC 3) 7 114 [],
  .vec (.aC 4) 8 92 [(.aC 0,[aI 5,aV 4 6 0,aU 7,aI 8,aI 9,aI 10])],
  .vec (.aC 6) 0 2 []],[],.lit 0⟩),([0,1,0,1,1,1],⟨11,[(1,.ptr 0 0),(2,.ptr 1 0),(43,aI 1),(44,aI 2)],[.cells [aV 2 3 7,aV 3 4 8] 34,
  .cells [.aA,.aA] 34,
  .vec (.aC 3) 7 114 [],
  .vec (.aC 4) 8 92 [(.aC 0,[aI 5,aE 6 0,aU 7,aI 8,aI 9,aI 10])]],[],.lit 0⟩),([0,1,0,1,1,1],⟨10,[(1,.ptr 0 0),(2,.ptr 1 0),(43,aI 1),(44,aI 2)],[.cells [.aA,aV 2 3 8] 34,
  .cells [.aA,.aA] 34,
  .vec (.aC 3) 8 92 [(.aC 0,[aI 4,aV 3 5 0,aU 6,aI 7,aI 8,aI 9])],
  .vec (.aC 5) 0 2 []],[],.lit 0⟩),([0,1,0,1,1,1],⟨10,[(1,.ptr 0 0),(2,.ptr 1 0),(43,aI 1),(44,aI 2)],[.cells [.aA,aV 2 3 8] 34,
  .cells [.aA,.aA] 34,
  .vec (.aC 3) 8 92 [(.aC 0,[aI 4,aE 5 0,aU 6,aI 7,aI 8,aI 9])]],[],.lit 0⟩),([0,1,0,1,1,1],⟨10,[(1,.ptr 0 0),(2,.ptr 1 0),(43,aI 1),(44,aI 2)],[.cells [.slice 2 0 0 (.exact 0),aV 3 3 8] 34,
  .cells [.aA,.aA] 34,
  .cells [] 114,
  .vec (.aC 3) 8 92 [(.aC 0,[aI 4,aV 4 5 0,aU 6,aI 7,aI 8,aI 9])],
  .vec (.aC 5) 0 2 []],[],.lit 0⟩),([0,1,0,1,1,1],⟨10,[(1,.ptr 0 0),(2,.ptr 1 0),(43,aI 1),(44,aI 2)],[.cells [.slice 2 0 0 (.exact 0),aV 3 3 8] 34,
  .cells [.aA,.aA] 34,
  .cells [] 114,
  .vec (.aC 3) 8 92 [(.aC 0,[aI 4,aE 5 0,aU 6,aI 7,aI 8,aI 9])]],[],.lit 0⟩)]⟩
def aCB:FE:=⟨100,6,[.agg [(.sl 3),(.sl 4)]],[.one .bool],none,[],[],[],0,[],[],
 [([0,1,0,1,1],⟨5,[(1,.ptr 0 0),(3,aI 0),(17,aI 1),(18,aI 2)],[.cells [aD 3 3,aD 4 4] 25 ],[],.lit 0⟩),([0,1,1,1,0,0,1,1,0,0,1,0,1,1],⟨6,[(1,.ptr 0 0),(3,aI 0),(4,aI 1),(5,aI 2),(17,aI 3),(18,aI 1)],[.cells [aD 4 3,aD 5 4] 25 ],[],.lit 0⟩),([0,1,0,0,1,0,0,1,1,1,0,0,1,1,0,0,1,0,1,1],⟨9,[(1,.ptr 0 0),(3,aI 0),(4,aI 1),(5,aI 2),(17,aI 3),(18,aI 1),(62,aD 4 6),(63,aI 5),(64,aI 6)],[.cells [aD 7 3,aD 8 4] 25 ],[],.lit 0⟩)]⟩
def aCA:FE:=⟨150,17,[.agg [(.int .u8),.str,(.int .i64),(.sl 6)],.one (.int .i64)],[.one (.int .i64)],none,[],[],[],0,[],[],
 [([0,1,0,1,1,1],⟨7,[(1,aI 0),(2,.ptr 0 0),(5,aI 1),(6,aI 2)],[.cells [aU 3,aS 4,aI 5,aD 6 6] 69 ],[],.lit 0⟩)]⟩
def aCz:FE:=⟨300,42,[.agg [(.sl 3),(.sl 4)]],[.one (.sl 7)],none,[],[],[],0,[],[],
 [([0,1,0,1,0,1,1],⟨2,[(3,.aA),(11,aD 0 3),(12,aI 1),(13,aJ 0) ],[],[],.lit 0⟩),([0,1,0,1,0,1,1],⟨4,[(3,aV 0 0 7),(11,aD 1 3),(12,aI 2),(13,aI 3)],[.vec (.aC 0) 7 114 []],[],.lit 0⟩)]⟩
def aCy:FE:=⟨350,77,[.agg [(.sl 3),(.sl 4)],.one (.sl 7)],[.one .bool],none,[],[],[],0,[],[],
 [([0,1,0,1,1],⟨5,[(2,.ptr 0 0),(18,aD 0 7),(19,aI 1),(20,aI 2)],[.cells [aD 3 3,aD 4 4] 25 ],[],.lit 0⟩)]⟩
def aCx:FE:=⟨400,53,[.agg [(.sl 3),(.sl 4)],.one (.sl 7),.one (.int .i64),.agg [(.int .u8),(.int .i64),(.int .i64),(.int .i64)]],[.one (.sl 7),.agg [(.int .i64),(.int .u8),(.int .i64),(.int .i64),(.int .i64)],.one (.int .u8)],none,[],[],[],0,[],[],
 []⟩
def aCw:FE:=⟨450,41,[.agg [(.sl 3),(.sl 4)]],[.one (.int .i64)],none,[],[],[],0,[],[],
 [([0,1,0,1,1],⟨4,[(1,.ptr 0 0),(3,.bool (.lit true)),(20,aD 0 3),(21,aI 1),(22,aI 2)],[.cells [aD 0 3,aD 3 4] 25 ],[],.lit 0⟩),([0,1,0,1,1],⟨4,[(1,.ptr 0 0),(3,.bool (.lit false)),(20,aD 0 3),(21,aI 1),(22,aI 2)],[.cells [aD 0 3,aD 3 4] 25 ],[],.lit 0⟩),([0,1,0,1,1,1],⟨4,[(1,.ptr 0 0),(3,.bool (.lit true)),(35,aD 0 4),(36,aI 1),(37,aI 2)],[.cells [aD 3 3,aD 0 4] 25 ],[],.lit 0⟩),([0,1,0,1,1,1],⟨4,[(1,.ptr 0 0),(3,.bool (.lit false)),(35,aD 0 4),(36,aI 1),(37,aI 2)],[.cells [aD 3 3,aD 0 4] 25 ],[],.lit 0⟩),([0,1,1,1,0,0,1,1,0,0,1,0,1,1,1],⟨8,[(1,.ptr 0 0),(3,.bool (.lit true)),(7,.ptr 1 0),(8,aI 0),(35,aD 1 4),(36,aI 2),(37,aI 3)],[.cells [aD 4 3,aD 1 4] 25,
  .cells [aS 5,aD 6 2,aD 7 5] 62 ],[],.lit 0⟩),([0,1,1,1,0,0,1,1,0,0,1,0,1,1,1],⟨8,[(1,.ptr 0 0),(3,.bool (.lit false)),(7,.ptr 1 0),(8,aI 0),(35,aD 1 4),(36,aI 2),(37,aI 3)],[.cells [aD 4 3,aD 1 4] 25,
  .cells [aS 5,aD 6 2,aD 7 5] 62 ],[],.lit 0⟩)]⟩
def aCv:FE:=⟨500,142,[.agg [(.int .u8),.str,(.int .i64),.str,(.int .i64)],.agg [(.int .i64),(.int .i64),.bool,(.int .i64),(.sl 0),(.sl 0)],.one (.int .i64)],[.one .bool],none,[],[],[],0,[],[],
 [([0,1,0,1,1,1,1,1,1],⟨15,[(2,aI 0),(3,.ptr 0 0),(4,.ptr 1 0),(10,.map 2),(98,aD 1 0),(99,aI 2),(100,aI 3)],[.cells [aU 4,aS 5,aI 6,aS 7,aI 8] 137,
  .cells [aI 9,aI 10,aB 11,aI 12,aD 1 0,aD 13 0] 114,
  .iO (.aC 14) 0 ],[],.lit 0⟩)]⟩
def aCu:FE:=⟨550,85,[.one (.sl 7)],[.one (.sl 7)],none,[],[],[],0,[],[],
 [([0,1,0,1,1],⟨3,[(0,aV 0 0 7),(7,aI 1),(8,aI 2)],[.vec (.aC 0) 7 114 []],[],.lit 0⟩),([0,1,0,1,1],⟨0,[(0,.aA),(7,aJ 0),(8,aJ 0) ],[],[],.lit 0⟩),([0,1,0,1,1],⟨0,[(0,.slice 0 0 0 (.exact 0)),(7,aJ 0),(8,aJ 0)],[.cells [] 114 ],[],.lit 0⟩)]⟩
def aCt:FE:=⟨600,86,[.one (.int .u8)],[.one (.int .u8)],none,[],[],[],0,[],[],
 []⟩
def aCs:FE:=⟨650,205,[.agg [(.int .u8),.str,(.int .i64),.str,(.int .i64)]],[.one (.int .i64),.one .bool],none,[],[],[],0,[],[],
 []⟩
def aCr:FE:=⟨700,79,[.agg [(.sl 3),(.sl 4)],.agg [(.int .u8),.str,(.int .i64),.str,(.int .i64)]],[.one .bool],none,[],[],[],0,[],[],
 []⟩
def aCq:FE:=⟨750,80,[.agg [(.sl 3),(.sl 4)],.agg [.str,(.sl 2),(.sl 5)],.agg [(.int .u8),(.int .u8),(.int .i64),(.int .i64),(.int .i64),(.int .i64),(.sl 6)]],[.one .bool],none,[],[],[],0,[],[],
 []⟩
def aCp:FE:=⟨800,83,[.agg [(.int .u8),.str,(.int .i64),(.sl 6)],.one (.int .i64)],[.one .bool],none,[],[],[],0,[],[],
 []⟩
def aCo:FE:=⟨850,159,[.one (.sl 0),.one (.int .i64)],[.one (.int .i64)],none,[],[],[],0,[],[],
 [([0,1,0,1],⟨4,[(0,aD 0 0),(1,aI 1),(7,aI 2),(8,aI 3) ],[],[],.lit 0⟩)]⟩
def aCn:FE:=⟨900,92,[.one (.sl 0),.one (.int .i64)],[.one .bool],none,[],[],[],0,[],[],
 []⟩
def aCm:FE:=⟨950,144,[.one (.int .u8),.agg [(.int .u8),(.int .u8),(.int .i64),(.int .i64),(.int .i64),(.int .i64),(.sl 6)],.one .bool],[.one .bool],none,[],[],[],0,[],[],
 [([0,1,0,1,1],⟨9,[(0,aU 0),(2,.bool (.lit false)),(4,.ptr 0 0),(7,.ptr 1 0),(16,aI 1),(17,aJ 0)],[.cells [aU 2,aU 3,aI 4,aI 5,aI 6,aI 7,aD 8 6] 66,
  .cells [.int .u8 (.lit 1),aU 3,.str [97],.str [],aJ 0,.aA,.aA,.aA,aJ 0] 208 ],[],.lit 0⟩),([0,1,0,1,1],⟨9,[(0,aU 0),(2,.bool (.lit true)),(4,.ptr 0 0),(7,.ptr 1 0),(16,aI 1),(17,aJ 0)],[.cells [aU 2,aU 3,aI 4,aI 5,aI 6,aI 7,aD 8 6] 66,
  .cells [.int .u8 (.lit 1),aU 3,.str [97],.str [],aJ 0,.aA,.aA,.aA,aJ 0] 208 ],[],.lit 0⟩),([0,1,0,1,1],⟨11,[(0,aU 0),(2,.bool (.lit false)),(4,.ptr 0 0),(7,.ptr 1 0),(16,aI 1),(17,aI 2)],[.cells [aU 3,aU 4,aI 5,aI 6,aI 7,aI 8,aD 9 6] 66,
  .cells [.int .u8 (.lit 1),aU 4,.str [97],.str [],aJ 0,aV 2 10 6,.aA,.aA,aJ 0] 208,
  .vec (.aC 10) 6 69 []],[],.lit 0⟩),([0,1,0,1,1],⟨11,[(0,aU 0),(2,.bool (.lit true)),(4,.ptr 0 0),(7,.ptr 1 0),(16,aI 1),(17,aI 2)],[.cells [aU 3,aU 4,aI 5,aI 6,aI 7,aI 8,aD 9 6] 66,
  .cells [.int .u8 (.lit 1),aU 4,.str [97],.str [],aJ 0,aV 2 10 6,.aA,.aA,aJ 0] 208,
  .vec (.aC 10) 6 69 []],[],.lit 0⟩)]⟩
def aAh:FE:=⟨1000,131,[.one .str],[.one .bool],none,[],[],[],0,[],[],
 []⟩
def aAg:FE:=⟨1050,122,[.one .str,.one (.int .i64)],[.agg [(.int .u8),.str,(.int .i64),(.int .i64),(.int .i64),(.int .i64)],.agg [(.int .i64),(.int .i64)]],none,[],[],[],0,[],[],
 []⟩
def aAf:FE:=⟨1100,188,[.one .str],[.one (.int .i64),.one .bool],none,[],[],[],0,[],[],
 [([0,1,0,1,1],⟨0,[(4,aJ 0),(9,.slice 0 0 0 (.rest 1)),(10,aJ 0),(11,aJ 0)],[.cells [] 5 ],[],.lit 0⟩),([0,1,0,1,1],⟨4,[(4,aI 0),(9,aV 0 1 14),(10,aI 2),(11,aI 3)],[.vec (.aC 1) 14 5 []],[],.lit 0⟩)]⟩
def aAe:FE:=⟨1150,216,[.agg [(.int .u8),.str,(.int .i64),(.sl 6)]],[.one .bool],none,[],[],[],0,[],[],
 []⟩
def aAd:FE:=⟨1200,217,[.one (.int .u8)],[.one (.int .u8)],none,[],[],[],0,[],[],
 []⟩
def aAc:FE:=⟨1250,211,[.one (.int .u8)],[.one (.int .i64)],none,[],[],[],0,[],[],
 []⟩
def aAb:FE:=⟨1300,212,[.one (.int .u8)],[.one .bool],none,[],[],[],0,[],[],
 []⟩
def aAa:FE:=⟨1350,125,[.one (.int .u8)],[.one .bool],none,[],[],[],0,[],[],
 []⟩
def azZ:FE:=⟨1400,130,[.agg [(.int .u8),.str,(.int .i64),.str,(.int .i64)]],[.one .bool],none,[],[],[],0,[],[],
 []⟩
def azY:FE:=⟨1450,21,[.agg [(.sl 3),(.sl 4)]],[.agg [(.sl 7),(.sl 8)],.one (.int .i64)],none,[],[],[],0,[],[],
 [([0,1,0,1,1,1],⟨3,[(2,.ptr 0 0),(5,.ptr 1 0),(18,aD 0 4),(19,aI 1),(20,aJ 0)],[.cells [.aA,.aA] 34,
  .cells [aD 2 7,.aA] 34 ],[],.lit 0⟩),([0,1,0,1,1,1],⟨5,[(2,.ptr 0 0),(5,.ptr 1 0),(18,aD 0 4),(19,aI 1),(20,aI 2)],[.cells [.aA,.aA] 34,
  .cells [aD 3 7,aV 2 4 8] 34,
  .vec (.aC 4) 8 92 []],[],.lit 0⟩)]⟩
def azX:FE:=⟨1500,39,[.agg [(.sl 3),(.sl 4)],.agg [(.sl 7),(.sl 8)]],[.one .bool],none,[],[],[],0,[],[],
 [([0,1,0,1,1],⟨5,[(2,.ptr 0 0),(22,aD 0 8),(23,aI 1),(24,aI 2)],[.cells [aD 3 3,aD 4 4] 25 ],[],.lit 0⟩)]⟩
def azW:FE:=⟨1550,25,[.agg [(.sl 3),(.sl 4)],.agg [(.sl 7),(.sl 8)],.one (.int .i64)],[.one .bool],none,[],[],[],0,[],[],
 []⟩
def azV:FE:=⟨1600,78,[.agg [(.sl 3),(.sl 4)],.agg [.str,(.sl 2),(.sl 5)],.agg [(.int .i64),(.sl 0),(.int .u8),(.int .i64),(.int .i64),(.int .i64)]],[.one .bool],none,[],[],[],0,[],[],
 []⟩
def azU:FE:=⟨1650,26,[.agg [(.sl 3),(.sl 4)],.agg [(.sl 7),(.sl 8)],.one (.int .i64)],[.one .bool],none,[],[],[],0,[],[],
 []⟩
def azT:FE:=⟨1750,27,[.agg [(.sl 3),(.sl 4)],.agg [(.sl 7),(.sl 8)],.one (.int .i64)],[.agg [(.int .u8),(.int .i64),(.int .i64),(.int .i64)],.one .bool],none,[],[],[],0,[],[],
 [([0,1,0,1,0,1,0,1,1,0,1,1,1,1],⟨12,[(6,.ptr 0 0),(8,.ptr 1 0),(10,.ptr 2 0),(55,aD 0 6),(56,aI 1),(57,aI 2)],[.cells [.int .u8 (.lit 0),aJ 0,aJ 0,aJ 0] 83,
  .cells [aI 3,aD 4 0,aU 5,aI 6,aI 7,aI 8] 92,
  .cells [aU 9,aI 10,aI 11,aI 8] 83 ],[],.lit 0⟩)]⟩
def azS:FE:=⟨1900,24,[.agg [(.sl 7),(.sl 8)]],[.agg [(.sl 7),(.sl 8)]],none,[],[],[],0,[],[],
 [([0,1,0,1,1],⟨4,[(1,.ptr 0 0),(2,.ptr 1 0),(16,aI 0),(17,aI 1)],[.cells [aV 2 2 7,aV 3 3 8] 34,
  .cells [.aA,.aA] 34,
  .vec (.aC 2) 7 114 [],
  .vec (.aC 3) 8 92 []],[],.lit 0⟩),([0,1,0,1,1],⟨3,[(1,.ptr 0 0),(2,.ptr 1 0),(16,aI 0),(17,aI 1)],[.cells [aV 2 2 7,.aA] 34,
  .cells [.aA,.aA] 34,
  .vec (.aC 2) 7 114 []],[],.lit 0⟩),([0,1,0,1,1],⟨3,[(1,.ptr 0 0),(2,.ptr 1 0),(16,aI 0),(17,aI 1)],[.cells [aV 2 2 7,.slice 3 0 0 (.exact 0)] 34,
  .cells [.aA,.aA] 34,
  .vec (.aC 2) 7 114 [],
  .cells [] 92 ],[],.lit 0⟩),([0,1,0,1,1],⟨1,[(1,.ptr 0 0),(2,.ptr 1 0),(16,aJ 0),(17,aJ 0)],[.cells [.aA,aV 2 0 8] 34,
  .cells [.aA,.aA] 34,
  .vec (.aC 0) 8 92 []],[],.lit 0⟩),([0,1,0,1,1],⟨0,[(1,.ptr 0 0),(2,.ptr 1 0),(16,aJ 0),(17,aJ 0)],[.cells [.aA,.aA] 34,
  .cells [.aA,.aA] 34 ],[],.lit 0⟩),([0,1,0,1,1],⟨0,[(1,.ptr 0 0),(2,.ptr 1 0),(16,aJ 0),(17,aJ 0)],[.cells [.aA,.slice 2 0 0 (.exact 0)] 34,
  .cells [.aA,.aA] 34,
  .cells [] 92 ],[],.lit 0⟩),([0,1,0,1,1],⟨1,[(1,.ptr 0 0),(2,.ptr 1 0),(16,aJ 0),(17,aJ 0)],[.cells [.slice 2 0 0 (.exact 0),aV 3 0 8] 34,
  .cells [.aA,.aA] 34,
  .cells [] 114,
  .vec (.aC 0) 8 92 []],[],.lit 0⟩),([0,1,0,1,1],⟨0,[(1,.ptr 0 0),(2,.ptr 1 0),(16,aJ 0),(17,aJ 0)],[.cells [.slice 2 0 0 (.exact 0),.aA] 34,
  .cells [.aA,.aA] 34,
  .cells [] 114 ],[],.lit 0⟩),([0,1,0,1,1],⟨0,[(1,.ptr 0 0),(2,.ptr 1 0),(16,aJ 0),(17,aJ 0)],[.cells [.slice 2 0 0 (.exact 0),.slice 3 0 0 (.exact 0)] 34,
  .cells [.aA,.aA] 34,
  .cells [] 114,
  .cells [] 92 ],[],.lit 0⟩),([0,1,0,1,1,1],⟨4,[(1,.ptr 0 0),(2,.ptr 1 0),(43,aI 0),(44,aI 1)],[.cells [aV 2 2 7,aV 3 3 8] 34,
  .cells [.aA,.aA] 34,
  .vec (.aC 2) 7 114 [],
  .vec (.aC 3) 8 92 []],[],.lit 0⟩),([0,1,0,1,1,1],⟨1,[(1,.ptr 0 0),(2,.ptr 1 0),(43,aJ 0),(44,aJ 0)],[.cells [aV 2 0 7,.aA] 34,
  .cells [.aA,.aA] 34,
  .vec (.aC 0) 7 114 []],[],.lit 0⟩),([0,1,0,1,1,1],⟨1,[(1,.ptr 0 0),(2,.ptr 1 0),(43,aJ 0),(44,aJ 0)],[.cells [aV 2 0 7,.slice 3 0 0 (.exact 0)] 34,
  .cells [.aA,.aA] 34,
  .vec (.aC 0) 7 114 [],
  .cells [] 92 ],[],.lit 0⟩),([0,1,0,1,1,1],⟨3,[(1,.ptr 0 0),(2,.ptr 1 0),(43,aI 0),(44,aI 1)],[.cells [.aA,aV 2 2 8] 34,
  .cells [.aA,.aA] 34,
  .vec (.aC 2) 8 92 []],[],.lit 0⟩),([0,1,0,1,1,1],⟨0,[(1,.ptr 0 0),(2,.ptr 1 0),(43,aJ 0),(44,aJ 0)],[.cells [.aA,.aA] 34,
  .cells [.aA,.aA] 34 ],[],.lit 0⟩),([0,1,0,1,1,1],⟨0,[(1,.ptr 0 0),(2,.ptr 1 0),(43,aJ 0),(44,aJ 0)],[.cells [.aA,.slice 2 0 0 (.exact 0)] 34,
  .cells [.aA,.aA] 34,
  .cells [] 92 ],[],.lit 0⟩),([0,1,0,1,1,1],⟨3,[(1,.ptr 0 0),(2,.ptr 1 0),(43,aI 0),(44,aI 1)],[.cells [.slice 2 0 0 (.exact 0),aV 3 2 8] 34,
  .cells [.aA,.aA] 34,
  .cells [] 114,
  .vec (.aC 2) 8 92 []],[],.lit 0⟩),([0,1,0,1,1,1],⟨0,[(1,.ptr 0 0),(2,.ptr 1 0),(43,aJ 0),(44,aJ 0)],[.cells [.slice 2 0 0 (.exact 0),.aA] 34,
  .cells [.aA,.aA] 34,
  .cells [] 114 ],[],.lit 0⟩),([0,1,0,1,1,1],⟨0,[(1,.ptr 0 0),(2,.ptr 1 0),(43,aJ 0),(44,aJ 0)],[.cells [.slice 2 0 0 (.exact 0),.slice 3 0 0 (.exact 0)] 34,
  .cells [.aA,.aA] 34,
  .cells [] 114,
  .cells [] 92 ],[],.lit 0⟩)]⟩
def azR:FE:=⟨1950,47,[.agg [(.int .u8),.str,(.int .i64),(.sl 6)],.one (.sl 0)],[.one (.int .i64)],none,[],[],[],0,[],[],
 []⟩
def azQ:FE:=⟨2000,36,[.agg [(.sl 3),(.sl 4)],.agg [(.sl 7),(.sl 8)],.agg [(.int .i64),(.int .u8),(.int .i64),(.int .i64),(.int .i64)]],[.agg [(.sl 7),(.sl 8)],.one .bool],none,[],[],[],0,[],[],
 [([0,1,0,1,1,1,1],⟨11,[(3,.ptr 0 0),(4,.ptr 1 0),(5,.ptr 2 0),(6,.ptr 3 0),(8,.ptr 4 0),(9,aI 0),(10,aJ 0)],[.cells [aD 1 3,aD 2 4] 25,
  .cells [aD 3 7,aD 4 8] 34,
  .cells [aI 0,aU 5,aI 6,aI 7,aI 8] 39,
  .cells [.aA,.aA] 34,
  .cells [aD 9 7,aV 5 10 8] 34,
  .vec (.aC 10) 8 92 []],[],.lit 0⟩),([0,1,0,1,1,1,1],⟨10,[(3,.ptr 0 0),(4,.ptr 1 0),(5,.ptr 2 0),(6,.ptr 3 0),(8,.ptr 4 0),(9,aI 0),(10,aJ 0)],[.cells [aD 1 3,aD 2 4] 25,
  .cells [aD 3 7,aD 4 8] 34,
  .cells [aI 0,aU 5,aI 6,aI 7,aI 8] 39,
  .cells [.aA,.aA] 34,
  .cells [aD 9 7,.aA] 34 ],[],.lit 0⟩),([0,1,0,1,1,1,1],⟨10,[(3,.ptr 0 0),(4,.ptr 1 0),(5,.ptr 2 0),(6,.ptr 3 0),(8,.ptr 4 0),(9,aI 0),(10,aJ 0)],[.cells [aD 1 3,aD 2 4] 25,
  .cells [aD 3 7,aD 4 8] 34,
  .cells [aI 0,aU 5,aI 6,aI 7,aI 8] 39,
  .cells [.aA,.aA] 34,
  .cells [aD 9 7,.slice 5 0 0 (.exact 0)] 34,
  .cells [] 92 ],[],.lit 0⟩),([0,1,0,1,1,1,1],⟨18,[(3,.ptr 0 0),(4,.ptr 1 0),(5,.ptr 2 0),(6,.ptr 3 0),(8,.ptr 4 0),(9,aI 0),(10,aI 1)],[.cells [aD 2 3,aD 3 4] 25,
  .cells [aD 4 7,aD 5 8] 34,
  .cells [aI 0,aU 6,aI 7,aI 8,aI 9] 39,
  .cells [.aA,.aA] 34,
  .cells [aD 10 7,aV 5 11 8] 34,
  .vec (.aC 11) 8 92 [(.aC 0,[aI 12,aV 6 13 0,aU 14,aI 15,aI 16,aI 17])],
  .vec (.aC 13) 0 2 []],[],.lit 0⟩),([0,1,0,1,1,1,1],⟨18,[(3,.ptr 0 0),(4,.ptr 1 0),(5,.ptr 2 0),(6,.ptr 3 0),(8,.ptr 4 0),(9,aI 0),(10,aI 1)],[.cells [aD 2 3,aD 3 4] 25,
  .cells [aD 4 7,aD 5 8] 34,
  .cells [aI 0,aU 6,aI 7,aI 8,aI 9] 39,
  .cells [.aA,.aA] 34,
  .cells [aD 10 7,aV 5 11 8] 34,
  .vec (.aC 11) 8 92 [(.aC 0,[aI 12,aE 13 0,aU 14,aI 15,aI 16,aI 17])]],[],.lit 0⟩)]⟩
def azP:FE:=⟨2150,16,[.agg [(.sl 3),(.sl 4)],.one (.sl 9)],[.agg [(.sl 7),(.sl 8)],.one (.int .i64)],none,[],[],[],0,[],[],
 [([0,1,0,1,1,1],⟨7,[(1,aD 0 9),(2,.ptr 0 0),(4,.ptr 1 0),(6,.ptr 2 0),(20,aD 0 9),(21,aI 1),(22,aI 2)],[.cells [aD 3 3,aD 4 4] 25,
  .cells [.aA,.aA] 34,
  .cells [aD 5 7,aD 6 8] 34 ],[],.lit 0⟩)]⟩
def ajS:FE:=⟨2200,5,[.agg [(.sl 3),(.sl 4)],.one (.sl 9)],[.one .bool],none,[],[],[],0,[],[],
 [([0,1,0,1,1,1,1],⟨6,[(1,aD 0 9),(2,.ptr 0 0),(6,aI 1),(26,aI 2),(27,aI 3)],[.cells [aD 4 3,aD 5 4] 25 ],[],.lit 0⟩)]⟩
def azO:FE:=⟨5000,81,[],[.one .bool],some (⟨4,[(0,aD 0 6),(1,.func (.func 82) [] [.ptr 0 0])],[.cells [aS 1,aD 2 2,aD 3 5] 62 ],[],.lit 0⟩,[.cells [aS 0,aD 1 2,aD 2 5] 62],3),[],[],[],0,[],[],
 []⟩
def azN:FE:=⟨5050,146,[],[.one .bool],some (⟨7,[(0,.ptr 0 0),(1,.agg [aU 0,aS 1,aI 2,aD 3 6]),(2,aI 4)],[.cells [aI 5,aI 6] 230 ],[],.lit 0⟩,[.cells [aI 0,aI 1] 230],2),[],[],[],0,[],[],
 [([0,1,0,1,1,1],⟨9,[(0,.ptr 0 0),(2,aI 0),(4,.ptr 1 0),(27,aD 1 6),(28,aI 2),(29,aI 3)],[.cells [aI 4,aI 5] 230,
  .cells [aU 6,aS 7,aI 8,aD 1 6] 69 ],[],.lit 0⟩)]⟩
def azM:FE:=⟨5100,198,[],[],some (⟨2,[(0,.ptr 0 0),(1,.aA),(2,aI 0)],[.cells [aI 1,.bool (.lit true),.bool (.lit false)] 162 ],[],.lit 0⟩,[.cells [aI 0,.bool (.lit true),.bool (.lit false)] 162],1),[],[],[],0,[],[],
 [([0,1],⟨2,[(0,.ptr 0 0),(2,aI 0),(8,.aA),(9,aJ 0),(10,aJ 0)],[.cells [aI 1,.bool (.lit true),.bool (.lit false)] 162 ],[],.lit 0⟩)]⟩
def azL:FE:=⟨5150,218,[],[.one .bool],some (⟨2,[(0,.ptr 0 0),(1,.aA)],[.cells [.map 1,.map 2] 216,
 .map [(.str [97],aU 0,0)] 0,
 .iO (.aC 1) 1 ],[],.lit 0⟩,[.cells [.map 1,.map 2] 216,.map [(.str [97],aU 0,0)] 0,.iO (.aC 1) 1],2),[],[],[],0,[],[],
 [([0,1,0,1],⟨2,[(0,.ptr 0 0),(7,.aA),(8,aJ 0),(9,aJ 0)],[.cells [.map 1,.map 2] 216,
  .map [(.str [97],aU 0,0)] 0,
  .iO (.aC 1) 1 ],[],.lit 0⟩)]⟩
def azK:FE:=⟨5200,218,[],[.one .bool],some (⟨2,[(0,.ptr 0 0),(1,.aA)],[.cells [.map 1,.map 2] 216,
 .map [(.str [98],.int .u8 (.lit 1),0),(.str [97],aU 0,0)] 0,
 .iO (.aC 1) 1 ],[],.lit 0⟩,[.cells [.map 1,.map 2] 216,.map [(.str [98],aU 0,0),(.str [97],aU 1,0)] 0,.iO (.aC 2) 1],3),[],[],[],0,[],[],
 [([0,1,0,1],⟨2,[(0,.ptr 0 0),(7,.aA),(8,aJ 0),(9,aJ 0)],[.cells [.map 1,.map 2] 216,
  .map [(.str [98],.int .u8 (.lit 1),0),(.str [97],aU 0,0)] 0,
  .iO (.aC 1) 1 ],[],.lit 0⟩)]⟩
def azJ:FE:=⟨5250,198,[],[],some (⟨3,[(0,.ptr 0 0),(1,aV 1 0 6),(2,aI 1)],[.cells [aI 2,.bool (.lit true),.bool (.lit false)] 162,
 .vec (.aC 0) 6 69 []],[],.lit 0⟩,[.cells [aI 0,.bool (.lit true),.bool (.lit false)] 162,.vec (.aC 1) 6 69 []],2),[],[],[],0,[],[],
 [([0,1],⟨5,[(0,.ptr 0 0),(2,aI 0),(8,aV 1 1 6),(9,aI 2),(10,aI 3)],[.cells [aI 4,.bool (.lit true),.bool (.lit false)] 162,
  .vec (.aC 1) 6 69 []],[],.lit 0⟩)]⟩
def azI:FE:=⟨5300,218,[],[.one .bool],some (⟨4,[(0,.ptr 0 0),(1,.uU 1 (.aC 0) 6)],[.cells [.map 2,.map 3] 216,
 .vec (.aC 1) 6 69 [],
 .map [(.str [97],aU 2,0)] 0,
 .iO (.aC 3) 1 ],[],.lit 0⟩,[.cells [.map 2,.map 3] 216,.vec (.aC 0) 6 69 [],.map [(.str [97],aU 1,0)] 0,.iO (.aC 2) 1],3),[],[],[],0,[],[],
 [([0,1,0,1],⟨5,[(0,.ptr 0 0),(7,.uU 1 (.aC 0) 6),(8,aI 0),(9,aI 1)],[.cells [.map 2,.map 3] 216,
  .vec (.aC 2) 6 69 [],
  .map [(.str [97],aU 3,0)] 0,
  .iO (.aC 4) 1 ],[],.lit 0⟩)]⟩
def azH:FE:=⟨5350,218,[],[.one .bool],some (⟨4,[(0,.ptr 0 0),(1,.uU 1 (.aC 0) 6)],[.cells [.map 2,.map 3] 216,
 .vec (.aC 1) 6 69 [],
 .map [(.str [98],.int .u8 (.lit 1),0),(.str [97],aU 2,0)] 0,
 .iO (.aC 3) 1 ],[],.lit 0⟩,[.cells [.map 2,.map 3] 216,.vec (.aC 0) 6 69 [],.map [(.str [98],aU 1,0),(.str [97],aU 2,0)] 0,.iO (.aC 3) 1],4),[],[],[],0,[],[],
 [([0,1,0,1],⟨6,[(0,.ptr 0 0),(7,.uU 1 (.aC 0) 6),(8,aI 0),(9,aI 1)],[.cells [.map 2,.map 3] 216,
  .vec (.aC 2) 6 69 [],
  .map [(.str [98],aU 3,0),(.str [97],aU 4,0)] 0,
  .iO (.aC 5) 1 ],[],.lit 0⟩)]⟩
def azG:FE:=⟨5400,145,[],[.one (.int .i64)],some (⟨4,[(0,aD 0 6),(1,.func (.func 82) [] [.ptr 0 0])],[.cells [aS 1,aD 2 2,aD 3 5] 62 ],[],.lit 0⟩,[.cells [aS 0,aD 1 2,aD 2 5] 62],3),[],[],[],0,[],[],
 [([0,1,0,1],⟨6,[(0,aD 0 6),(1,.func (.func 82) [] [.ptr 0 0]),(7,aI 1),(8,aI 2)],[.cells [aS 3,aD 4 2,aD 5 5] 62 ],[],.lit 0⟩)]⟩
def azF:FE:=⟨5450,198,[],[],some (⟨3,[(0,.ptr 0 0),(1,aD 0 6),(2,aI 1)],[.cells [aI 2,.bool (.lit true),.bool (.lit false)] 162 ],[],.lit 0⟩,[.cells [aI 0,.bool (.lit true),.bool (.lit false)] 162],1),[],[],[],0,[],[],
 [([0,1],⟨5,[(0,.ptr 0 0),(2,aI 0),(8,aD 1 6),(9,aI 2),(10,aI 3)],[.cells [aI 4,.bool (.lit true),.bool (.lit false)] 162 ],[],.lit 0⟩)]⟩
def azE:FE:=⟨5500,218,[],[.one .bool],some (⟨3,[(0,.ptr 0 0),(1,aD 0 6)],[.cells [.map 1,.map 2] 216,
 .map [(.str [97],aU 1,0)] 0,
 .iO (.aC 2) 1 ],[],.lit 0⟩,[.cells [.map 1,.map 2] 216,.map [(.str [97],aU 0,0)] 0,.iO (.aC 1) 1],2),[],[],[],0,[],[],
 [([0,1,0,1],⟨5,[(0,.ptr 0 0),(7,aD 0 6),(8,aI 1),(9,aI 2)],[.cells [.map 1,.map 2] 216,
  .map [(.str [97],aU 3,0)] 0,
  .iO (.aC 4) 1 ],[],.lit 0⟩)]⟩
def azD:FE:=⟨5550,218,[],[.one .bool],some (⟨3,[(0,.ptr 0 0),(1,aD 0 6)],[.cells [.map 1,.map 2] 216,
 .map [(.str [98],.int .u8 (.lit 1),0),(.str [97],aU 1,0)] 0,
 .iO (.aC 2) 1 ],[],.lit 0⟩,[.cells [.map 1,.map 2] 216,.map [(.str [98],aU 0,0),(.str [97],aU 1,0)] 0,.iO (.aC 2) 1],3),[],[],[],0,[],[],
 [([0,1,0,1],⟨6,[(0,.ptr 0 0),(7,aD 0 6),(8,aI 1),(9,aI 2)],[.cells [.map 1,.map 2] 216,
  .map [(.str [98],aU 3,0),(.str [97],aU 4,0)] 0,
  .iO (.aC 5) 1 ],[],.lit 0⟩)]⟩
def azC:FE:=⟨5600,218,[],[.one .bool],some (⟨4,[(0,.ptr 0 0),(1,aD 0 6)],[.cells [.map 1,.map 2] 216,
 .map [(.str [98],aU 1,0),(.str [97],aU 2,0)] 0,
 .iO (.aC 3) 1 ],[],.lit 0⟩,[.cells [.map 1,.map 2] 216,.map [(.str [98],aU 0,0),(.str [97],aU 1,0)] 0,.iO (.aC 2) 1],3),[],[],[],0,[],[],
 [([0,1,0,1],⟨6,[(0,.ptr 0 0),(7,aD 0 6),(8,aI 1),(9,aI 2)],[.cells [.map 1,.map 2] 216,
  .map [(.str [98],aU 3,0),(.str [97],aU 4,0)] 0,
  .iO (.aC 5) 1 ],[],.lit 0⟩)]⟩
def arG:FE:=⟨12000,174,[],[],some (⟨13,[(0,aV 0 0 0),(1,.func (.func 175) [] [.ptr 1 0])],[.vec (.aC 0) 0 3 [],
 .cells [.ptr 2 0] 179,
 .cells [aI 1,.qC 3 6 (.aC 2) 0,aI 3,aV 3 4 7,aU 5,aI 2,aI 6,aI 7] 181,
 .vec (.aC 4) 7 114 [(.aC 2,[aI 8,aI 9,aB 10,aI 11,aV 0 0 0,aV 4 12 0])],
 .vec (.aC 12) 0 2 []],[],.lit 0⟩,[.vec (.aC 0) 0 3 [],.cells [.ptr 2 0] 179,.cells [aI 1,.qC 3 6 (.aC 2) 0,aI 3,aV 3 4 7,aU 5,aI 2,aI 6,aI 7] 181,.vec (.aC 4) 7 114 [(.aC 2,[aI 8,aI 9,aB 10,aI 11,aV 0 0 0,aV 4 12 0])],.vec (.aC 12) 0 2 []],13),[⟨13,[(0,aV 0 0 0)],[.vec (.aC 0) 0 3 [],
 .cells [.ptr 2 0] 179,
 .cells [aI 1,.qC 3 6 (.aC 2) 0,aI 3,aV 3 4 7,aU 5,aI 2,aI 6,aI 7] 181,
 .vec (.aC 4) 7 114 [(.aC 2,[aI 8,aI 9,aB 10,aI 11,aV 0 0 0,aV 4 12 0])],
 .vec (.aC 12) 0 2 []],[],.lit 0⟩,⟨16,[(0,.Au 0 (.lit 0) (.aC 13) 0)],[.vec (.aC 14) 0 3 [],
 .cells [.ptr 2 0] 179,
 .cells [aI 1,.qC 3 6 (.aC 2) 0,aI 3,aV 3 4 7,aU 5,aI 2,aI 6,aI 7] 181,
 .vec (.aC 4) 7 114 [(.aC 2,[aI 8,aI 9,aB 10,aI 11,.uU 0 (.aC 15) 0,aV 4 12 0])],
 .vec (.aC 12) 0 2 []],[],.lit 0⟩],[],[],13,[],[],
 [([0,1,0,1,1,1],⟨16,[(0,aV 0 13 0),(1,.func (.func 175) [] [.ptr 1 0]),(5,aI 14),(6,aI 15)],[.vec (.aC 13) 0 3 [],
  .cells [.ptr 2 0] 179,
  .cells [aI 1,.qC 3 6 (.aC 2) 0,aI 3,aV 3 4 7,aU 5,aI 2,aI 6,aI 7] 181,
  .vec (.aC 4) 7 114 [(.aC 2,[aI 8,aI 9,aB 10,aI 11,aV 0 13 0,aV 4 12 0])],
  .vec (.aC 12) 0 2 []],[],.lit 0⟩)]⟩
def arF:FE:=⟨12050,206,[],[],some (⟨13,[(0,aV 0 0 0),(1,.func (.func 175) [] [.ptr 1 0])],[.vec (.aC 0) 0 3 [],
 .cells [.ptr 2 0] 179,
 .cells [aI 1,.qC 3 6 (.aC 2) 0,aI 3,aV 3 4 7,aU 5,aI 2,aI 6,aI 7] 181,
 .vec (.aC 4) 7 114 [(.aC 2,[aI 8,aI 9,aB 10,aI 11,aV 0 0 0,aV 4 12 0])],
 .vec (.aC 12) 0 2 []],[],.lit 0⟩,[.vec (.aC 0) 0 3 [],.cells [.ptr 2 0] 179,.cells [aI 1,.qC 3 6 (.aC 2) 0,aI 3,aV 3 4 7,aU 5,aI 2,aI 6,aI 7] 181,.vec (.aC 4) 7 114 [(.aC 2,[aI 8,aI 9,aB 10,aI 11,aV 0 0 0,aV 4 12 0])],.vec (.aC 12) 0 2 []],13),[⟨14,[(0,aI 13)],[.vec (.aC 0) 0 3 [],
 .cells [.ptr 2 0] 179,
 .cells [aI 1,.qC 3 6 (.aC 2) 0,aI 3,aV 3 4 7,aU 5,aI 2,aI 6,aI 7] 181,
 .vec (.aC 4) 7 114 [(.aC 2,[aI 8,aI 9,aB 10,aI 11,aV 0 0 0,aV 4 12 0])],
 .vec (.aC 12) 0 2 []],[],.lit 0⟩],[],[],13,[],[],
 [([0,1,0,1],⟨15,[(0,aV 0 0 0),(1,.func (.func 175) [] [.ptr 1 0]),(7,aI 13),(8,aI 14)],[.vec (.aC 0) 0 3 [],
  .cells [.ptr 2 0] 179,
  .cells [aI 1,.qC 3 6 (.aC 2) 0,aI 3,aV 3 4 7,aU 5,aI 2,aI 6,aI 7] 181,
  .vec (.aC 4) 7 114 [(.aC 2,[aI 8,aI 9,aB 10,aI 11,aV 0 0 0,aV 4 12 0])],
  .vec (.aC 12) 0 2 []],[],.lit 0⟩)]⟩
def arE:FE:=⟨12100,174,[],[],some (⟨13,[(0,aV 0 0 0),(1,.func (.func 175) [] [.ptr 1 0])],[.vec (.aC 0) 0 3 [],
 .cells [.ptr 2 0] 179,
 .cells [aI 1,.qC 3 6 (.aC 2) 0,aI 3,aV 3 4 7,aU 5,aI 2,aI 6,aI 7] 181,
 .vec (.aC 4) 7 114 [(.aC 2,[aI 8,aI 9,aB 10,aI 11,aV 0 0 0,aE 12 0])]],[],.lit 0⟩,[.vec (.aC 0) 0 3 [],.cells [.ptr 2 0] 179,.cells [aI 1,.qC 3 6 (.aC 2) 0,aI 3,aV 3 4 7,aU 5,aI 2,aI 6,aI 7] 181,.vec (.aC 4) 7 114 [(.aC 2,[aI 8,aI 9,aB 10,aI 11,aV 0 0 0,aE 12 0])]],13),[⟨13,[(0,aV 0 0 0)],[.vec (.aC 0) 0 3 [],
 .cells [.ptr 2 0] 179,
 .cells [aI 1,.qC 3 6 (.aC 2) 0,aI 3,aV 3 4 7,aU 5,aI 2,aI 6,aI 7] 181,
 .vec (.aC 4) 7 114 [(.aC 2,[aI 8,aI 9,aB 10,aI 11,aV 0 0 0,aE 12 0])]],[],.lit 0⟩,⟨16,[(0,.Au 0 (.lit 0) (.aC 13) 0)],[.vec (.aC 14) 0 3 [],
 .cells [.ptr 2 0] 179,
 .cells [aI 1,.qC 3 6 (.aC 2) 0,aI 3,aV 3 4 7,aU 5,aI 2,aI 6,aI 7] 181,
 .vec (.aC 4) 7 114 [(.aC 2,[aI 8,aI 9,aB 10,aI 11,.uU 0 (.aC 15) 0,aE 12 0])]],[],.lit 0⟩],[],[],13,[],[],
 [([0,1,0,1,1,1],⟨16,[(0,aV 0 13 0),(1,.func (.func 175) [] [.ptr 1 0]),(5,aI 14),(6,aI 15)],[.vec (.aC 13) 0 3 [],
  .cells [.ptr 2 0] 179,
  .cells [aI 1,.qC 3 6 (.aC 2) 0,aI 3,aV 3 4 7,aU 5,aI 2,aI 6,aI 7] 181,
  .vec (.aC 4) 7 114 [(.aC 2,[aI 8,aI 9,aB 10,aI 11,aV 0 13 0,aE 12 0])]],[],.lit 0⟩)]⟩
def arD:FE:=⟨12150,206,[],[],some (⟨13,[(0,aV 0 0 0),(1,.func (.func 175) [] [.ptr 1 0])],[.vec (.aC 0) 0 3 [],
 .cells [.ptr 2 0] 179,
 .cells [aI 1,.qC 3 6 (.aC 2) 0,aI 3,aV 3 4 7,aU 5,aI 2,aI 6,aI 7] 181,
 .vec (.aC 4) 7 114 [(.aC 2,[aI 8,aI 9,aB 10,aI 11,aV 0 0 0,aE 12 0])]],[],.lit 0⟩,[.vec (.aC 0) 0 3 [],.cells [.ptr 2 0] 179,.cells [aI 1,.qC 3 6 (.aC 2) 0,aI 3,aV 3 4 7,aU 5,aI 2,aI 6,aI 7] 181,.vec (.aC 4) 7 114 [(.aC 2,[aI 8,aI 9,aB 10,aI 11,aV 0 0 0,aE 12 0])]],13),[⟨14,[(0,aI 13)],[.vec (.aC 0) 0 3 [],
 .cells [.ptr 2 0] 179,
 .cells [aI 1,.qC 3 6 (.aC 2) 0,aI 3,aV 3 4 7,aU 5,aI 2,aI 6,aI 7] 181,
 .vec (.aC 4) 7 114 [(.aC 2,[aI 8,aI 9,aB 10,aI 11,aV 0 0 0,aE 12 0])]],[],.lit 0⟩],[],[],13,[],[],
 [([0,1,0,1],⟨15,[(0,aV 0 0 0),(1,.func (.func 175) [] [.ptr 1 0]),(7,aI 13),(8,aI 14)],[.vec (.aC 0) 0 3 [],
  .cells [.ptr 2 0] 179,
  .cells [aI 1,.qC 3 6 (.aC 2) 0,aI 3,aV 3 4 7,aU 5,aI 2,aI 6,aI 7] 181,
  .vec (.aC 4) 7 114 [(.aC 2,[aI 8,aI 9,aB 10,aI 11,aV 0 0 0,aE 12 0])]],[],.lit 0⟩)]⟩
def arC:FE:=⟨12200,174,[],[],some (⟨13,[(0,aE 0 0),(1,.func (.func 175) [] [.ptr 0 0])],[.cells [.ptr 1 0] 179,
 .cells [aI 1,.qC 2 6 (.aC 2) 0,aI 3,aV 2 4 7,aU 5,aI 2,aI 6,aI 7] 181,
 .vec (.aC 4) 7 114 [(.aC 2,[aI 8,aI 9,aB 10,aI 11,aE 0 0,aV 3 12 0])],
 .vec (.aC 12) 0 2 []],[],.lit 0⟩,[.cells [.ptr 1 0] 179,.cells [aI 1,.qC 2 6 (.aC 2) 0,aI 3,aV 2 4 7,aU 5,aI 2,aI 6,aI 7] 181,.vec (.aC 4) 7 114 [(.aC 2,[aI 8,aI 9,aB 10,aI 11,aE 0 0,aV 3 12 0])],.vec (.aC 12) 0 2 []],13),[⟨13,[(0,aE 0 0)],[.cells [.ptr 1 0] 179,
 .cells [aI 1,.qC 2 6 (.aC 2) 0,aI 3,aV 2 4 7,aU 5,aI 2,aI 6,aI 7] 181,
 .vec (.aC 4) 7 114 [(.aC 2,[aI 8,aI 9,aB 10,aI 11,aE 0 0,aV 3 12 0])],
 .vec (.aC 12) 0 2 []],[],.lit 0⟩],[],[],13,[],[],
 []⟩
def arB:FE:=⟨12250,206,[],[],some (⟨13,[(0,aE 0 0),(1,.func (.func 175) [] [.ptr 0 0])],[.cells [.ptr 1 0] 179,
 .cells [aI 1,.qC 2 6 (.aC 2) 0,aI 3,aV 2 4 7,aU 5,aI 2,aI 6,aI 7] 181,
 .vec (.aC 4) 7 114 [(.aC 2,[aI 8,aI 9,aB 10,aI 11,aE 0 0,aV 3 12 0])],
 .vec (.aC 12) 0 2 []],[],.lit 0⟩,[.cells [.ptr 1 0] 179,.cells [aI 1,.qC 2 6 (.aC 2) 0,aI 3,aV 2 4 7,aU 5,aI 2,aI 6,aI 7] 181,.vec (.aC 4) 7 114 [(.aC 2,[aI 8,aI 9,aB 10,aI 11,aE 0 0,aV 3 12 0])],.vec (.aC 12) 0 2 []],13),[⟨13,[(0,aJ (-1))],[.cells [.ptr 1 0] 179,
 .cells [aI 1,.qC 2 6 (.aC 2) 0,aI 3,aV 2 4 7,aU 5,aI 2,aI 6,aI 7] 181,
 .vec (.aC 4) 7 114 [(.aC 2,[aI 8,aI 9,aB 10,aI 11,aE 0 0,aV 3 12 0])],
 .vec (.aC 12) 0 2 []],[],.lit 0⟩],[],[],13,[],[],
 [([0,1,0,1],⟨13,[(0,aE 0 0),(1,.func (.func 175) [] [.ptr 0 0]),(7,aJ 0),(8,aJ 0)],[.cells [.ptr 1 0] 179,
  .cells [aI 1,.qC 2 6 (.aC 2) 0,aI 3,aV 2 4 7,aU 5,aI 2,aI 6,aI 7] 181,
  .vec (.aC 4) 7 114 [(.aC 2,[aI 8,aI 9,aB 10,aI 11,aE 0 0,aV 3 12 0])],
  .vec (.aC 12) 0 2 []],[],.lit 0⟩)]⟩
def arA:FE:=⟨12300,174,[],[],some (⟨13,[(0,aE 0 0),(1,.func (.func 175) [] [.ptr 0 0])],[.cells [.ptr 1 0] 179,
 .cells [aI 1,.qC 2 6 (.aC 2) 0,aI 3,aV 2 4 7,aU 5,aI 2,aI 6,aI 7] 181,
 .vec (.aC 4) 7 114 [(.aC 2,[aI 8,aI 9,aB 10,aI 11,aE 0 0,aE 12 0])]],[],.lit 0⟩,[.cells [.ptr 1 0] 179,.cells [aI 1,.qC 2 6 (.aC 2) 0,aI 3,aV 2 4 7,aU 5,aI 2,aI 6,aI 7] 181,.vec (.aC 4) 7 114 [(.aC 2,[aI 8,aI 9,aB 10,aI 11,aE 0 0,aE 12 0])]],13),[⟨13,[(0,aE 0 0)],[.cells [.ptr 1 0] 179,
 .cells [aI 1,.qC 2 6 (.aC 2) 0,aI 3,aV 2 4 7,aU 5,aI 2,aI 6,aI 7] 181,
 .vec (.aC 4) 7 114 [(.aC 2,[aI 8,aI 9,aB 10,aI 11,aE 0 0,aE 12 0])]],[],.lit 0⟩],[],[],13,[],[],
 []⟩
def aqZ:FE:=⟨12350,206,[],[],some (⟨13,[(0,aE 0 0),(1,.func (.func 175) [] [.ptr 0 0])],[.cells [.ptr 1 0] 179,
 .cells [aI 1,.qC 2 6 (.aC 2) 0,aI 3,aV 2 4 7,aU 5,aI 2,aI 6,aI 7] 181,
 .vec (.aC 4) 7 114 [(.aC 2,[aI 8,aI 9,aB 10,aI 11,aE 0 0,aE 12 0])]],[],.lit 0⟩,[.cells [.ptr 1 0] 179,.cells [aI 1,.qC 2 6 (.aC 2) 0,aI 3,aV 2 4 7,aU 5,aI 2,aI 6,aI 7] 181,.vec (.aC 4) 7 114 [(.aC 2,[aI 8,aI 9,aB 10,aI 11,aE 0 0,aE 12 0])]],13),[⟨13,[(0,aJ (-1))],[.cells [.ptr 1 0] 179,
 .cells [aI 1,.qC 2 6 (.aC 2) 0,aI 3,aV 2 4 7,aU 5,aI 2,aI 6,aI 7] 181,
 .vec (.aC 4) 7 114 [(.aC 2,[aI 8,aI 9,aB 10,aI 11,aE 0 0,aE 12 0])]],[],.lit 0⟩],[],[],13,[],[],
 [([0,1,0,1],⟨13,[(0,aE 0 0),(1,.func (.func 175) [] [.ptr 0 0]),(7,aJ 0),(8,aJ 0)],[.cells [.ptr 1 0] 179,
  .cells [aI 1,.qC 2 6 (.aC 2) 0,aI 3,aV 2 4 7,aU 5,aI 2,aI 6,aI 7] 181,
  .vec (.aC 4) 7 114 [(.aC 2,[aI 8,aI 9,aB 10,aI 11,aE 0 0,aE 12 0])]],[],.lit 0⟩)]⟩
def aqY:FE:=⟨12400,133,[],[],some (⟨7,[(0,.agg [.slice 0 0 1 (.exact 1),.slice 1 0 1 (.exact 1)])],[.cells [aU 0,.str [97],aI 1,.str [],aI 2] 137,
 .cells [.str [97],.slice 2 0 1 (.exact 1),aI 3] 156,
 .cells [.int .u8 (.lit 1),aU 4,.str [97],.str [],aI 5,.aA,.aA,.aA,aI 6] 208 ],[],.lit 0⟩,[.cells [aU 0,.str [97],aI 1,.str [],aI 2] 137,.cells [.str [97],.slice 2 0 1 (.exact 1),aI 3] 156,.cells [.int .u8 (.lit 1),aU 4,.str [97],.str [],aI 5,.aA,.aA,.aA,aI 6] 208],7),[⟨7,[(0,.bool (.lit false))],[.cells [aU 0,.str [97],aI 1,.str [],aI 2] 137,
 .cells [.str [97],.slice 2 0 1 (.exact 1),aI 3] 156,
 .cells [.int .u8 (.lit 1),aU 4,.str [97],.str [],aI 5,.aA,.aA,.aA,aI 6] 208 ],[],.lit 0⟩,⟨7,[(0,.bool (.lit true))],[.cells [aU 0,.str [97],aI 1,.str [],aI 2] 137,
 .cells [.str [97],.slice 2 0 1 (.exact 1),aI 3] 156,
 .cells [.int .u8 (.lit 1),aU 4,.str [97],.str [],aI 5,.aA,.aA,.aA,aI 6] 208 ],[],.lit 0⟩],[],[],7,[],[],
 []⟩
def aqX:FE:=⟨12450,133,[],[],some (⟨9,[(0,.agg [.slice 0 0 2 (.exact 2),.slice 1 0 1 (.exact 1)])],[.cells [.int .u8 (.lit 1),.str [98],aI 0,.str [],aI 1,aU 2,.str [97],aI 3,.str [98],aI 4] 137,
 .cells [.str [97],.slice 2 0 1 (.exact 1),aI 5] 156,
 .cells [.int .u8 (.lit 1),aU 6,.str [97],.str [],aI 7,.aA,.aA,.aA,aI 8] 208 ],[],.lit 0⟩,[.cells [.int .u8 (.lit 1),.str [98],aI 0,.str [],aI 1,aU 2,.str [97],aI 3,.str [98],aI 4] 137,.cells [.str [97],.slice 2 0 1 (.exact 1),aI 5] 156,.cells [.int .u8 (.lit 1),aU 6,.str [97],.str [],aI 7,.aA,.aA,.aA,aI 8] 208],9),[⟨9,[(0,.bool (.lit false))],[.cells [.int .u8 (.lit 1),.str [98],aI 0,.str [],aI 1,aU 2,.str [97],aI 3,.str [98],aI 4] 137,
 .cells [.str [97],.slice 2 0 1 (.exact 1),aI 5] 156,
 .cells [.int .u8 (.lit 1),aU 6,.str [97],.str [],aI 7,.aA,.aA,.aA,aI 8] 208 ],[],.lit 0⟩,⟨9,[(0,.bool (.lit true))],[.cells [.int .u8 (.lit 1),.str [98],aI 0,.str [],aI 1,aU 2,.str [97],aI 3,.str [98],aI 4] 137,
 .cells [.str [97],.slice 2 0 1 (.exact 1),aI 5] 156,
 .cells [.int .u8 (.lit 1),aU 6,.str [97],.str [],aI 7,.aA,.aA,.aA,aI 8] 208 ],[],.lit 0⟩],[],[],9,[],[],
 []⟩
def aqW:FE:=⟨12500,133,[],[],some (⟨7,[(0,.agg [.slice 0 0 1 (.exact 1),.slice 1 0 1 (.exact 1)])],[.cells [aU 0,.str [97],aI 1,.str [],aI 2] 137,
 .cells [.str [97],.slice 2 0 1 (.exact 1),aI 3] 156,
 .cells [.int .u8 (.lit 1),aU 4,.str [97],.str [97],aI 5,.aA,.aA,.aA,aI 6] 208 ],[],.lit 0⟩,[.cells [aU 0,.str [97],aI 1,.str [],aI 2] 137,.cells [.str [97],.slice 2 0 1 (.exact 1),aI 3] 156,.cells [.int .u8 (.lit 1),aU 4,.str [97],.str [97],aI 5,.aA,.aA,.aA,aI 6] 208],7),[⟨7,[(0,.bool (.lit false))],[.cells [aU 0,.str [97],aI 1,.str [],aI 2] 137,
 .cells [.str [97],.slice 2 0 1 (.exact 1),aI 3] 156,
 .cells [.int .u8 (.lit 1),aU 4,.str [97],.str [97],aI 5,.aA,.aA,.aA,aI 6] 208 ],[],.lit 0⟩,⟨7,[(0,.bool (.lit true))],[.cells [aU 0,.str [97],aI 1,.str [],aI 2] 137,
 .cells [.str [97],.slice 2 0 1 (.exact 1),aI 3] 156,
 .cells [.int .u8 (.lit 1),aU 4,.str [97],.str [97],aI 5,.aA,.aA,.aA,aI 6] 208 ],[],.lit 0⟩],[],[],7,[],[],
 []⟩
def aqV:FE:=⟨12550,133,[],[],some (⟨9,[(0,.agg [.slice 0 0 2 (.exact 2),.slice 1 0 1 (.exact 1)])],[.cells [.int .u8 (.lit 1),.str [98],aI 0,.str [],aI 1,aU 2,.str [97],aI 3,.str [98],aI 4] 137,
 .cells [.str [97],.slice 2 0 1 (.exact 1),aI 5] 156,
 .cells [.int .u8 (.lit 1),aU 6,.str [97],.str [97],aI 7,.aA,.aA,.aA,aI 8] 208 ],[],.lit 0⟩,[.cells [.int .u8 (.lit 1),.str [98],aI 0,.str [],aI 1,aU 2,.str [97],aI 3,.str [98],aI 4] 137,.cells [.str [97],.slice 2 0 1 (.exact 1),aI 5] 156,.cells [.int .u8 (.lit 1),aU 6,.str [97],.str [97],aI 7,.aA,.aA,.aA,aI 8] 208],9),[⟨9,[(0,.bool (.lit false))],[.cells [.int .u8 (.lit 1),.str [98],aI 0,.str [],aI 1,aU 2,.str [97],aI 3,.str [98],aI 4] 137,
 .cells [.str [97],.slice 2 0 1 (.exact 1),aI 5] 156,
 .cells [.int .u8 (.lit 1),aU 6,.str [97],.str [97],aI 7,.aA,.aA,.aA,aI 8] 208 ],[],.lit 0⟩,⟨9,[(0,.bool (.lit true))],[.cells [.int .u8 (.lit 1),.str [98],aI 0,.str [],aI 1,aU 2,.str [97],aI 3,.str [98],aI 4] 137,
 .cells [.str [97],.slice 2 0 1 (.exact 1),aI 5] 156,
 .cells [.int .u8 (.lit 1),aU 6,.str [97],.str [97],aI 7,.aA,.aA,.aA,aI 8] 208 ],[],.lit 0⟩],[],[],9,[],[],
 []⟩
def aqU:FE:=⟨12600,133,[],[],some (⟨8,[(0,.agg [.slice 0 0 1 (.exact 1),.slice 1 0 1 (.exact 1)])],[.cells [aU 0,.str [97],aI 1,.str [],aI 2] 137,
 .cells [.str [97],.slice 2 0 1 (.exact 1),aI 3] 156,
 .cells [.int .u8 (.lit 1),aU 4,.str [97],.str [],aI 5,aV 3 6 6,.aA,.aA,aI 7] 208,
 .vec (.aC 6) 6 69 []],[],.lit 0⟩,[.cells [aU 0,.str [97],aI 1,.str [],aI 2] 137,.cells [.str [97],.slice 2 0 1 (.exact 1),aI 3] 156,.cells [.int .u8 (.lit 1),aU 4,.str [97],.str [],aI 5,aV 3 6 6,.aA,.aA,aI 7] 208,.vec (.aC 6) 6 69 []],8),[⟨8,[(0,.bool (.lit false))],[.cells [aU 0,.str [97],aI 1,.str [],aI 2] 137,
 .cells [.str [97],.slice 2 0 1 (.exact 1),aI 3] 156,
 .cells [.int .u8 (.lit 1),aU 4,.str [97],.str [],aI 5,aV 3 6 6,.aA,.aA,aI 7] 208,
 .vec (.aC 6) 6 69 []],[],.lit 0⟩,⟨10,[(0,.bool (.lit true))],[.cells [aU 0,.str [97],aI 1,.str [],aI 2] 137,
 .cells [.str [97],.slice 2 0 1 (.exact 1),aI 3] 156,
 .cells [.int .u8 (.lit 1),aU 4,.str [97],.str [],aI 5,.uU 3 (.aC 8) 6,.aA,.aA,aI 7] 208,
 .vec (.aC 9) 6 69 []],[],.lit 0⟩],[],[],8,[],[],
 []⟩
def aqT:FE:=⟨12650,133,[],[],some (⟨10,[(0,.agg [.slice 0 0 2 (.exact 2),.slice 1 0 1 (.exact 1)])],[.cells [.int .u8 (.lit 1),.str [98],aI 0,.str [],aI 1,aU 2,.str [97],aI 3,.str [98],aI 4] 137,
 .cells [.str [97],.slice 2 0 1 (.exact 1),aI 5] 156,
 .cells [.int .u8 (.lit 1),aU 6,.str [97],.str [],aI 7,aV 3 8 6,.aA,.aA,aI 9] 208,
 .vec (.aC 8) 6 69 []],[],.lit 0⟩,[.cells [.int .u8 (.lit 1),.str [98],aI 0,.str [],aI 1,aU 2,.str [97],aI 3,.str [98],aI 4] 137,.cells [.str [97],.slice 2 0 1 (.exact 1),aI 5] 156,.cells [.int .u8 (.lit 1),aU 6,.str [97],.str [],aI 7,aV 3 8 6,.aA,.aA,aI 9] 208,.vec (.aC 8) 6 69 []],10),[⟨10,[(0,.bool (.lit false))],[.cells [.int .u8 (.lit 1),.str [98],aI 0,.str [],aI 1,aU 2,.str [97],aI 3,.str [98],aI 4] 137,
 .cells [.str [97],.slice 2 0 1 (.exact 1),aI 5] 156,
 .cells [.int .u8 (.lit 1),aU 6,.str [97],.str [],aI 7,aV 3 8 6,.aA,.aA,aI 9] 208,
 .vec (.aC 8) 6 69 []],[],.lit 0⟩,⟨12,[(0,.bool (.lit true))],[.cells [.int .u8 (.lit 1),.str [98],aI 0,.str [],aI 1,aU 2,.str [97],aI 3,.str [98],aI 4] 137,
 .cells [.str [97],.slice 2 0 1 (.exact 1),aI 5] 156,
 .cells [.int .u8 (.lit 1),aU 6,.str [97],.str [],aI 7,.uU 3 (.aC 10) 6,.aA,.aA,aI 9] 208,
 .vec (.aC 11) 6 69 []],[],.lit 0⟩],[],[],10,[],[],
 []⟩
def aqS:FE:=⟨12700,133,[],[],some (⟨8,[(0,.agg [.slice 0 0 1 (.exact 1),.slice 1 0 1 (.exact 1)])],[.cells [aU 0,.str [97],aI 1,.str [],aI 2] 137,
 .cells [.str [97],.slice 2 0 1 (.exact 1),aI 3] 156,
 .cells [.int .u8 (.lit 1),aU 4,.str [97],.str [97],aI 5,aV 3 6 6,.aA,.aA,aI 7] 208,
 .vec (.aC 6) 6 69 []],[],.lit 0⟩,[.cells [aU 0,.str [97],aI 1,.str [],aI 2] 137,.cells [.str [97],.slice 2 0 1 (.exact 1),aI 3] 156,.cells [.int .u8 (.lit 1),aU 4,.str [97],.str [97],aI 5,aV 3 6 6,.aA,.aA,aI 7] 208,.vec (.aC 6) 6 69 []],8),[⟨8,[(0,.bool (.lit false))],[.cells [aU 0,.str [97],aI 1,.str [],aI 2] 137,
 .cells [.str [97],.slice 2 0 1 (.exact 1),aI 3] 156,
 .cells [.int .u8 (.lit 1),aU 4,.str [97],.str [97],aI 5,aV 3 6 6,.aA,.aA,aI 7] 208,
 .vec (.aC 6) 6 69 []],[],.lit 0⟩,⟨10,[(0,.bool (.lit true))],[.cells [aU 0,.str [97],aI 1,.str [],aI 2] 137,
 .cells [.str [97],.slice 2 0 1 (.exact 1),aI 3] 156,
 .cells [.int .u8 (.lit 1),aU 4,.str [97],.str [97],aI 5,.uU 3 (.aC 8) 6,.aA,.aA,aI 7] 208,
 .vec (.aC 9) 6 69 []],[],.lit 0⟩],[],[],8,[],[],
 []⟩
def aqR:FE:=⟨12750,133,[],[],some (⟨10,[(0,.agg [.slice 0 0 2 (.exact 2),.slice 1 0 1 (.exact 1)])],[.cells [.int .u8 (.lit 1),.str [98],aI 0,.str [],aI 1,aU 2,.str [97],aI 3,.str [98],aI 4] 137,
 .cells [.str [97],.slice 2 0 1 (.exact 1),aI 5] 156,
 .cells [.int .u8 (.lit 1),aU 6,.str [97],.str [97],aI 7,aV 3 8 6,.aA,.aA,aI 9] 208,
 .vec (.aC 8) 6 69 []],[],.lit 0⟩,[.cells [.int .u8 (.lit 1),.str [98],aI 0,.str [],aI 1,aU 2,.str [97],aI 3,.str [98],aI 4] 137,.cells [.str [97],.slice 2 0 1 (.exact 1),aI 5] 156,.cells [.int .u8 (.lit 1),aU 6,.str [97],.str [97],aI 7,aV 3 8 6,.aA,.aA,aI 9] 208,.vec (.aC 8) 6 69 []],10),[⟨10,[(0,.bool (.lit false))],[.cells [.int .u8 (.lit 1),.str [98],aI 0,.str [],aI 1,aU 2,.str [97],aI 3,.str [98],aI 4] 137,
 .cells [.str [97],.slice 2 0 1 (.exact 1),aI 5] 156,
 .cells [.int .u8 (.lit 1),aU 6,.str [97],.str [97],aI 7,aV 3 8 6,.aA,.aA,aI 9] 208,
 .vec (.aC 8) 6 69 []],[],.lit 0⟩,⟨12,[(0,.bool (.lit true))],[.cells [.int .u8 (.lit 1),.str [98],aI 0,.str [],aI 1,aU 2,.str [97],aI 3,.str [98],aI 4] 137,
 .cells [.str [97],.slice 2 0 1 (.exact 1),aI 5] 156,
 .cells [.int .u8 (.lit 1),aU 6,.str [97],.str [97],aI 7,.uU 3 (.aC 10) 6,.aA,.aA,aI 9] 208,
 .vec (.aC 11) 6 69 []],[],.lit 0⟩],[],[],10,[],[],
 []⟩
def aqQ:FE:=⟨12800,185,[],[],some (⟨2,[(0,.ptr 0 0),(1,aS 0),(2,aI 1)],[.cells (u8L [0,0,0,0,0,0,0,0,0,1,1,0,0,1,0,0,0,0,0,0,0,0,0,0,0,0,0,0,0,0,0,0,1,0,0,2,0,0,0,0,5,5,5,5,0,5,0,0,3,3,3,3,3,3,3,3,3,3,0,5,5,5,0,0,0,4,4,4,4,4,4,4,4,4,4,4,4,4,4,4,4,4,4,4,4,4,4,4,4,4,4,0,0,0,0,4,0,4,4,4,4,4,4,4,4,4,4,4,4,4,4,4,4,4,4,4,4,4,4,4,4,4,4,5,0,5,0,0,0,0,0,0,0,0,0,0,0,0,0,0,0,0,0,0,0,0,0,0,0,0,0,0,0,0,0,0,0,0,0,0,0,0,0,0,0,0,0,0,0,0,0,0,0,0,0,0,0,0,0,0,0,0,0,0,0,0,0,0,0,0,0,0,0,0,0,0,0,0,0,0,0,0,0,0,0,0,0,0,0,0,0,0,0,0,0,0,0,0,0,0,0,0,0,0,0,0,0,0,0,0,0,0,0,0,0,0,0,0,0,0,0,0,0,0,0,0,0,0,0,0,0,0,0,0,0,0]) 241 ],[],.lit 0⟩,[.cells (u8L [0,0,0,0,0,0,0,0,0,1,1,0,0,1,0,0,0,0,0,0,0,0,0,0,0,0,0,0,0,0,0,0,1,0,0,2,0,0,0,0,5,5,5,5,0,5,0,0,3,3,3,3,3,3,3,3,3,3,0,5,5,5,0,0,0,4,4,4,4,4,4,4,4,4,4,4,4,4,4,4,4,4,4,4,4,4,4,4,4,4,4,0,0,0,0,4,0,4,4,4,4,4,4,4,4,4,4,4,4,4,4,4,4,4,4,4,4,4,4,4,4,4,4,5,0,5,0,0,0,0,0,0,0,0,0,0,0,0,0,0,0,0,0,0,0,0,0,0,0,0,0,0,0,0,0,0,0,0,0,0,0,0,0,0,0,0,0,0,0,0,0,0,0,0,0,0,0,0,0,0,0,0,0,0,0,0,0,0,0,0,0,0,0,0,0,0,0,0,0,0,0,0,0,0,0,0,0,0,0,0,0,0,0,0,0,0,0,0,0,0,0,0,0,0,0,0,0,0,0,0,0,0,0,0,0,0,0,0,0,0,0,0,0,0,0,0,0,0,0,0,0,0,0,0,0,0]) 241],2),[⟨3,[(0,aI 2)],[.cells (u8L [0,0,0,0,0,0,0,0,0,1,1,0,0,1,0,0,0,0,0,0,0,0,0,0,0,0,0,0,0,0,0,0,1,0,0,2,0,0,0,0,5,5,5,5,0,5,0,0,3,3,3,3,3,3,3,3,3,3,0,5,5,5,0,0,0,4,4,4,4,4,4,4,4,4,4,4,4,4,4,4,4,4,4,4,4,4,4,4,4,4,4,0,0,0,0,4,0,4,4,4,4,4,4,4,4,4,4,4,4,4,4,4,4,4,4,4,4,4,4,4,4,4,4,5,0,5,0,0,0,0,0,0,0,0,0,0,0,0,0,0,0,0,0,0,0,0,0,0,0,0,0,0,0,0,0,0,0,0,0,0,0,0,0,0,0,0,0,0,0,0,0,0,0,0,0,0,0,0,0,0,0,0,0,0,0,0,0,0,0,0,0,0,0,0,0,0,0,0,0,0,0,0,0,0,0,0,0,0,0,0,0,0,0,0,0,0,0,0,0,0,0,0,0,0,0,0,0,0,0,0,0,0,0,0,0,0,0,0,0,0,0,0,0,0,0,0,0,0,0,0,0,0,0,0,0,0]) 241 ],[],.lit 0⟩],[],[],2,[],[],
 [([0,0,1,0,1],⟨3,[(0,.ptr 0 0),(1,aS 0),(2,aI 2)],[.cells (u8L [0,0,0,0,0,0,0,0,0,1,1,0,0,1,0,0,0,0,0,0,0,0,0,0,0,0,0,0,0,0,0,0,1,0,0,2,0,0,0,0,5,5,5,5,0,5,0,0,3,3,3,3,3,3,3,3,3,3,0,5,5,5,0,0,0,4,4,4,4,4,4,4,4,4,4,4,4,4,4,4,4,4,4,4,4,4,4,4,4,4,4,0,0,0,0,4,0,4,4,4,4,4,4,4,4,4,4,4,4,4,4,4,4,4,4,4,4,4,4,4,4,4,4,5,0,5,0,0,0,0,0,0,0,0,0,0,0,0,0,0,0,0,0,0,0,0,0,0,0,0,0,0,0,0,0,0,0,0,0,0,0,0,0,0,0,0,0,0,0,0,0,0,0,0,0,0,0,0,0,0,0,0,0,0,0,0,0,0,0,0,0,0,0,0,0,0,0,0,0,0,0,0,0,0,0,0,0,0,0,0,0,0,0,0,0,0,0,0,0,0,0,0,0,0,0,0,0,0,0,0,0,0,0,0,0,0,0,0,0,0,0,0,0,0,0,0,0,0,0,0,0,0,0,0,0,0]) 241 ],[],.lit 0⟩)]⟩
def aqP:FE:=⟨12850,187,[],[],some (⟨2,[(0,.ptr 0 0),(1,aS 0),(2,aI 1)],[.cells (u8L [0,0,0,0,0,0,0,0,0,1,1,0,0,1,0,0,0,0,0,0,0,0,0,0,0,0,0,0,0,0,0,0,1,0,0,2,0,0,0,0,5,5,5,5,0,5,0,0,3,3,3,3,3,3,3,3,3,3,0,5,5,5,0,0,0,4,4,4,4,4,4,4,4,4,4,4,4,4,4,4,4,4,4,4,4,4,4,4,4,4,4,0,0,0,0,4,0,4,4,4,4,4,4,4,4,4,4,4,4,4,4,4,4,4,4,4,4,4,4,4,4,4,4,5,0,5,0,0,0,0,0,0,0,0,0,0,0,0,0,0,0,0,0,0,0,0,0,0,0,0,0,0,0,0,0,0,0,0,0,0,0,0,0,0,0,0,0,0,0,0,0,0,0,0,0,0,0,0,0,0,0,0,0,0,0,0,0,0,0,0,0,0,0,0,0,0,0,0,0,0,0,0,0,0,0,0,0,0,0,0,0,0,0,0,0,0,0,0,0,0,0,0,0,0,0,0,0,0,0,0,0,0,0,0,0,0,0,0,0,0,0,0,0,0,0,0,0,0,0,0,0,0,0,0,0,0]) 241 ],[],.lit 0⟩,[.cells (u8L [0,0,0,0,0,0,0,0,0,1,1,0,0,1,0,0,0,0,0,0,0,0,0,0,0,0,0,0,0,0,0,0,1,0,0,2,0,0,0,0,5,5,5,5,0,5,0,0,3,3,3,3,3,3,3,3,3,3,0,5,5,5,0,0,0,4,4,4,4,4,4,4,4,4,4,4,4,4,4,4,4,4,4,4,4,4,4,4,4,4,4,0,0,0,0,4,0,4,4,4,4,4,4,4,4,4,4,4,4,4,4,4,4,4,4,4,4,4,4,4,4,4,4,5,0,5,0,0,0,0,0,0,0,0,0,0,0,0,0,0,0,0,0,0,0,0,0,0,0,0,0,0,0,0,0,0,0,0,0,0,0,0,0,0,0,0,0,0,0,0,0,0,0,0,0,0,0,0,0,0,0,0,0,0,0,0,0,0,0,0,0,0,0,0,0,0,0,0,0,0,0,0,0,0,0,0,0,0,0,0,0,0,0,0,0,0,0,0,0,0,0,0,0,0,0,0,0,0,0,0,0,0,0,0,0,0,0,0,0,0,0,0,0,0,0,0,0,0,0,0,0,0,0,0,0,0]) 241],2),[⟨3,[(0,aI 2)],[.cells (u8L [0,0,0,0,0,0,0,0,0,1,1,0,0,1,0,0,0,0,0,0,0,0,0,0,0,0,0,0,0,0,0,0,1,0,0,2,0,0,0,0,5,5,5,5,0,5,0,0,3,3,3,3,3,3,3,3,3,3,0,5,5,5,0,0,0,4,4,4,4,4,4,4,4,4,4,4,4,4,4,4,4,4,4,4,4,4,4,4,4,4,4,0,0,0,0,4,0,4,4,4,4,4,4,4,4,4,4,4,4,4,4,4,4,4,4,4,4,4,4,4,4,4,4,5,0,5,0,0,0,0,0,0,0,0,0,0,0,0,0,0,0,0,0,0,0,0,0,0,0,0,0,0,0,0,0,0,0,0,0,0,0,0,0,0,0,0,0,0,0,0,0,0,0,0,0,0,0,0,0,0,0,0,0,0,0,0,0,0,0,0,0,0,0,0,0,0,0,0,0,0,0,0,0,0,0,0,0,0,0,0,0,0,0,0,0,0,0,0,0,0,0,0,0,0,0,0,0,0,0,0,0,0,0,0,0,0,0,0,0,0,0,0,0,0,0,0,0,0,0,0,0,0,0,0,0,0]) 241 ],[],.lit 0⟩],[],[],2,[],[],
 [([0,0,1,1,1,1],⟨4,[(0,.ptr 0 0),(1,aS 0),(7,aU 2),(8,aI 3)],[.cells (u8L [0,0,0,0,0,0,0,0,0,1,1,0,0,1,0,0,0,0,0,0,0,0,0,0,0,0,0,0,0,0,0,0,1,0,0,2,0,0,0,0,5,5,5,5,0,5,0,0,3,3,3,3,3,3,3,3,3,3,0,5,5,5,0,0,0,4,4,4,4,4,4,4,4,4,4,4,4,4,4,4,4,4,4,4,4,4,4,4,4,4,4,0,0,0,0,4,0,4,4,4,4,4,4,4,4,4,4,4,4,4,4,4,4,4,4,4,4,4,4,4,4,4,4,5,0,5,0,0,0,0,0,0,0,0,0,0,0,0,0,0,0,0,0,0,0,0,0,0,0,0,0,0,0,0,0,0,0,0,0,0,0,0,0,0,0,0,0,0,0,0,0,0,0,0,0,0,0,0,0,0,0,0,0,0,0,0,0,0,0,0,0,0,0,0,0,0,0,0,0,0,0,0,0,0,0,0,0,0,0,0,0,0,0,0,0,0,0,0,0,0,0,0,0,0,0,0,0,0,0,0,0,0,0,0,0,0,0,0,0,0,0,0,0,0,0,0,0,0,0,0,0,0,0,0,0,0]) 241 ],[],.lit 0⟩)]⟩
def aqN:FE:=⟨14000,28,[],[],some (⟨11,[(0,.agg [aD 0 3,aD 1 4]),(1,.ptr 0 0),(2,aI 2)],[.cells [aD 3 7,aV 1 4 8] 34,
 .vec (.aC 4) 8 92 [(.aC 2,[aI 5,aV 2 6 0,aU 7,aI 8,aI 9,aI 10])],
 .vec (.aC 6) 0 2 []],[],.lit 0⟩,[.cells [aD 3 7,aV 1 4 8] 34,.vec (.aC 4) 8 92 [(.aC 2,[aI 5,aV 2 6 0,aU 7,aI 8,aI 9,aI 10])],.vec (.aC 6) 0 2 []],11),[⟨13,[],[.cells [aD 3 7,aV 1 4 8] 34,
 .vec (.aC 4) 8 92 [(.aC 2,[aI 11,aV 2 12 0,aU 7,aI 8,aI 9,aI 10])],
 .vec (.aC 12) 0 2 []],[],.lit 0⟩],[],[],11,[],[],
 []⟩
def aqL:FE:=⟨14500,29,[],[],some (⟨15,[(0,.agg [aD 0 3,aD 1 4]),(1,.ptr 0 0),(2,aI 2),(3,.agg [aU 3,aI 4,aI 5,aI 6])],[.cells [aD 7 7,aV 1 8 8] 34,
 .vec (.aC 8) 8 92 [(.aC 2,[aI 9,aV 2 10 0,aU 11,aI 12,aI 13,aI 14])],
 .vec (.aC 10) 0 2 []],[],.lit 0⟩,[.cells [aD 7 7,aV 1 8 8] 34,.vec (.aC 8) 8 92 [(.aC 2,[aI 9,aV 2 10 0,aU 11,aI 12,aI 13,aI 14])],.vec (.aC 10) 0 2 []],15),[⟨28,[(0,.agg [aI 15,aU 16,aI 17,aI 18,aI 19]),(1,aU 20)],[.cells [aD 21 7,aV 1 8 8] 34,
 .vec (.aC 8) 8 92 [(.aC 2,[aI 22,aV 2 23 0,aU 24,aI 25,aI 26,aI 27])],
 .vec (.aC 23) 0 2 []],[],.lit 0⟩],[],[],15,[],[],
 []⟩
def aqM:FE:=⟨14050,28,[],[],some (⟨11,[(0,.agg [aD 0 3,aD 1 4]),(1,.ptr 0 0),(2,aI 2)],[.cells [aD 3 7,aV 1 4 8] 34,
 .vec (.aC 4) 8 92 [(.aC 2,[aI 5,aE 6 0,aU 7,aI 8,aI 9,aI 10])]],[],.lit 0⟩,[.cells [aD 3 7,aV 1 4 8] 34,.vec (.aC 4) 8 92 [(.aC 2,[aI 5,aE 6 0,aU 7,aI 8,aI 9,aI 10])]],11),[⟨12,[],[.cells [aD 3 7,aV 1 4 8] 34,
 .vec (.aC 4) 8 92 [(.aC 2,[aI 11,aE 6 0,aU 7,aI 8,aI 9,aI 10])]],[],.lit 0⟩],[],[],11,[],[],
 []⟩
def aqK:FE:=⟨14550,29,[],[],some (⟨15,[(0,.agg [aD 0 3,aD 1 4]),(1,.ptr 0 0),(2,aI 2),(3,.agg [aU 3,aI 4,aI 5,aI 6])],[.cells [aD 7 7,aV 1 8 8] 34,
 .vec (.aC 8) 8 92 [(.aC 2,[aI 9,aE 10 0,aU 11,aI 12,aI 13,aI 14])]],[],.lit 0⟩,[.cells [aD 7 7,aV 1 8 8] 34,.vec (.aC 8) 8 92 [(.aC 2,[aI 9,aE 10 0,aU 11,aI 12,aI 13,aI 14])]],15),[⟨27,[(0,.agg [aI 15,aU 16,aI 17,aI 18,aI 19]),(1,aU 20)],[.cells [aD 21 7,aV 1 8 8] 34,
 .vec (.aC 8) 8 92 [(.aC 2,[aI 22,aE 10 0,aU 23,aI 24,aI 25,aI 26])]],[],.lit 0⟩],[],[],15,[],[],
 []⟩
def aqO:FE:=⟨12900,133,[],[],some (⟨2,[(0,.agg [.aA,.slice 0 0 1 (.exact 1)])],[.cells [aS 0,.aA,aI 1] 156 ],[],.lit 0⟩,[.cells [aS 0,.aA,aI 1] 156],2),[⟨2,[(0,.bool (.lit false))],[.cells [aS 0,.aA,aI 1] 156 ],[],.lit 0⟩,⟨2,[(0,.bool (.lit true))],[.cells [aS 0,.aA,aI 1] 156 ],[],.lit 0⟩],[],[],2,[],[],
 []⟩
def feT:Tr FE:=(.node none (.node none (.node (some aCA) (.node (some aCy) (.node (some aCq) (.node (some azW) (.node none (.node none (.node (some aqR) .nil .nil) .nil) .nil) .nil) (.node none .nil (.node (some azD) .nil .nil))) (.node (some aAe) (.node (some azR) .nil (.node (some azL) .nil .nil)) (.node none .nil (.node none .nil (.node (some aqZ) .nil .nil))))) (.node (some aCu) (.node (some aCm) (.node (some azT) .nil (.node none (.node none (.node (some aqK) .nil .nil) .nil) .nil)) (.node none .nil (.node none .nil (.node (some arD) .nil .nil)))) (.node (some aAa) (.node (some azP) .nil (.node (some azH) .nil .nil)) (.node none .nil (.node none .nil (.node (some aqV) .nil .nil)))))) (.node none (.node (some aCw) (.node (some aCo) (.node (some azU) (.node none (.node none (.node (some aqP) .nil .nil) .nil) .nil) .nil) (.node none .nil (.node none .nil (.node (some arF) .nil .nil)))) (.node (some aAc) (.node none .nil (.node (some azJ) .nil .nil)) (.node none (.node none (.node none (.node (some aqM) .nil .nil) .nil) .nil) (.node none .nil (.node (some aqX) .nil .nil))))) (.node (some aCs) (.node (some aAg) (.node none .nil (.node (some azN) .nil .nil)) (.node none .nil (.node none (.node (some azA) .nil .nil) (.node (some arB) .nil .nil)))) (.node (some azY) (.node none .nil (.node (some azF) .nil .nil)) (.node none .nil (.node none .nil (.node (some aqT) .nil .nil))))))) (.node (some aCB) (.node none (.node (some aCx) (.node (some aCp) (.node (some azV) (.node none (.node none (.node (some aqQ) .nil .nil) .nil) .nil) .nil) (.node none .nil (.node (some azC) .nil (.node (some arG) .nil .nil)))) (.node (some aAd) (.node (some azQ) .nil (.node (some azK) .nil .nil)) (.node none (.node none (.node none (.node (some aqN) .nil .nil) .nil) .nil) (.node none .nil (.node (some aqY) .nil .nil))))) (.node (some aCt) (.node (some aAh) (.node none .nil (.node (some azO) .nil .nil)) (.node none .nil (.node none (.node (some azB) .nil .nil) (.node (some arC) .nil .nil)))) (.node (some azZ) (.node (some ajS) .nil (.node (some azG) .nil .nil)) (.node none .nil (.node none .nil (.node (some aqU) .nil .nil)))))) (.node (some aCz) (.node (some aCv) (.node (some aCn) (.node none (.node none (.node none (.node (some aqO) .nil .nil) .nil) .nil) (.node none (.node none (.node (some aqL) .nil .nil) .nil) .nil)) (.node none .nil (.node none .nil (.node (some arE) .nil .nil)))) (.node (some aAb) (.node none .nil (.node (some azI) .nil .nil)) (.node none .nil (.node none .nil (.node (some aqW) .nil .nil))))) (.node (some aCr) (.node (some aAf) (.node (some azS) .nil (.node (some azM) .nil .nil)) (.node none .nil (.node none .nil (.node (some arA) .nil .nil)))) (.node (some azX) (.node none .nil (.node (some azE) .nil .nil)) (.node none .nil (.node none .nil (.node (some aqS) .nil .nil))))))))
def axT:Tr (List Nat):=(.node none (.node none (.node none (.node none (.node none (.node none .nil (.node none (.node (some [850]) .nil .nil) .nil)) (.node (some [1950]) (.node (some [700]) .nil .nil) .nil)) (.node none (.node (some [1500]) .nil .nil) .nil)) (.node none (.node none (.node none (.node none (.node (some [1000]) .nil .nil) .nil) .nil) (.node none (.node (some [800]) .nil (.node (some [1250]) .nil .nil)) .nil)) (.node (some [1750]) .nil (.node none .nil (.node none (.node (some [12850]) .nil .nil) .nil))))) (.node (some [2200]) (.node none (.node (some [150]) .nil (.node none (.node (some [5000]) (.node (some [5400]) .nil .nil) .nil) .nil)) (.node (some [1550]) (.node (some [450]) .nil .nil) (.node none (.node none .nil (.node (some [1200]) .nil .nil)) (.node none (.node (some [12800]) .nil .nil) .nil)))) (.node none (.node (some [1450]) (.node none (.node none (.node (some [12400,12450,12500,12550,12600,12650,12700,12750,12900]) .nil .nil) .nil) .nil) (.node (some [400]) (.node (some [9000,550]) .nil .nil) .nil)) (.node (some [14500,14550]) (.node none (.node (some [350]) .nil (.node (some [650]) .nil .nil)) .nil) (.node none .nil (.node (some [1350]) .nil .nil)))))) (.node none (.node none (.node none (.node (some [2150]) .nil (.node none (.node (some [750]) (.node (some [950]) .nil .nil) .nil) .nil)) (.node (some [9050,1900]) (.node none .nil .nil) (.node none (.node none .nil (.node (some [1150]) .nil .nil)) .nil))) (.node none (.node none (.node (some [2000]) .nil .nil) (.node none (.node none .nil (.node (some [1300]) .nil .nil)) .nil)) (.node (some [14000,14050]) .nil (.node none (.node (some [900]) .nil .nil) (.node none (.node (some [1100]) .nil .nil) .nil))))) (.node (some [100]) (.node none (.node none (.node none (.node none (.node (some [1400]) .nil .nil) .nil) .nil) (.node none (.node none (.node (some [5050]) .nil .nil) .nil) .nil)) (.node (some [1650]) (.node (some [300]) .nil .nil) (.node none (.node none .nil (.node (some [5150,5200,5300,5350,5500,5550,5600]) .nil .nil)) (.node (some [1050]) .nil .nil)))) (.node none (.node none (.node none (.node none .nil (.node (some [5100,5250,5450]) .nil .nil)) .nil) (.node none (.node (some [600]) .nil .nil) .nil)) (.node none (.node none (.node (some [1600]) (.node (some [500]) .nil .nil) (.node (some [12050,12150,12250,12350]) .nil .nil)) (.node none (.node (some [12000,12100,12200,12300]) .nil .nil) .nil)) .nil)))))
noncomputable def St:adX:=⟨Tryz.prog,base,ttE,ft,Ub ttE hints,QD ttE hints,XQ,lim 292 feT,fun g=>(lim 219 axT g).getD []⟩
noncomputable def S:Sys:=St.sys
theorem aCl:(List.range 292).all (fun k=>match feT.get k with | some f=>ajR ft k f | none=>true)=true:=by kernel_rfl
theorem axS:(List.range 219).all (fun g=>U3 ft (lim 292 feT) g ((axT.get g).getD []))=true:=by kernel_rfl
theorem axH:NU S:=by
 refine aoT aeN ayV (fun I call hc=>@F7 _ I _ aeN mixed _ _ hc) acP (fun k f hf=>?_) fun g=>?_
 ·have hf':lim 292 feT k=some f:=hf
  unfold lim at hf'
  split at hf'
  ·simp at hf'
  ·rename_i hle
   have hlt:k < 292:=by
    rcases Nat.lt_or_ge k 292 with h | h
    ·exact h
    ·rw [Nat.ble_eq_true_of_le h] at hle; simp at hle
   have:=List.all_eq_true.1 aCl k (List.mem_range.2 hlt)
   rw [hf'] at this
   exact this
 ·show U3 ft (lim 292 feT) g ((lim 219 axT g).getD [])=true
  unfold lim
  split
  ·rfl
  ·rename_i hle
   have hlt:g < 219:=by
    rcases Nat.lt_or_ge g 219 with h | h
    ·exact h
    ·rw [Nat.ble_eq_true_of_le h] at hle; simp at hle
   exact List.all_eq_true.1 axS g (List.mem_range.2 hlt)
end Go.As.Try
end
section
namespace Go.As.Try
open Go hiding Stat Spec shape
open Go.As Go.Proofs
set_option maxRecDepth 100000
noncomputable section
def b0:D:=.p (.i 0) (.p (.i 0) (.p (.i 0) (.p (.i 0) (.p (.i 0) (.p (.i 0) (.p (.i 0) (.p (.i 0) (.p (.i 0) (.p (.i 1) (.p (.i 1) (.p (.i 0) (.p (.i 0) (.p (.i 1) (.p (.i 0) (.p (.i 0) (.p (.i 0) (.p (.i 0) (.p (.i 0) (.p (.i 0) (.p (.i 0) (.p (.i 0) (.p (.i 0) (.p (.i 0) (.p (.i 0) (.p (.i 0) (.p (.i 0) (.p (.i 0) (.p (.i 0) (.p (.i 0) (.p (.i 0) (.p (.i 0) (.p (.i 1) (.p (.i 0) (.p (.i 0) (.p (.i 2) (.p (.i 0) (.p (.i 0) (.p (.i 0) (.p (.i 0) (.p (.i 5) (.p (.i 5) (.p (.i 5) (.p (.i 5) (.p (.i 0) (.p (.i 5) (.p (.i 0) (.p (.i 0) (.p (.i 3) (.p (.i 3) (.p (.i 3) (.p (.i 3) (.p (.i 3) (.p (.i 3) (.p (.i 3) (.p (.i 3) (.p (.i 3) (.p (.i 3) (.p (.i 0) (.p (.i 5) (.p (.i 5) (.p (.i 5) (.p (.i 0) (.p (.i 0) (.p (.i 0) (.p (.i 4) (.p (.i 4) (.p (.i 4) (.p (.i 4) (.p (.i 4) (.p (.i 4) (.p (.i 4) (.p (.i 4) (.p (.i 4) (.p (.i 4) (.p (.i 4) (.p (.i 4) (.p (.i 4) (.p (.i 4) (.p (.i 4) (.p (.i 4) (.p (.i 4) (.p (.i 4) (.p (.i 4) (.p (.i 4) (.p (.i 4) (.p (.i 4) (.p (.i 4) (.p (.i 4) (.p (.i 4) (.p (.i 4) (.p (.i 0) (.p (.i 0) (.p (.i 0) (.p (.i 0) (.p (.i 4) (.p (.i 0) (.p (.i 4) (.p (.i 4) (.p (.i 4) (.p (.i 4) (.p (.i 4) (.p (.i 4) (.p (.i 4) (.p (.i 4) (.p (.i 4) (.p (.i 4) (.p (.i 4) (.p (.i 4) (.p (.i 4) (.p (.i 4) (.p (.i 4) (.p (.i 4) (.p (.i 4) (.p (.i 4) (.p (.i 4) (.p (.i 4) (.p (.i 4) (.p (.i 4) (.p (.i 4) (.p (.i 4) (.p (.i 4) (.p (.i 4) (.p (.i 5) (.p (.i 0) (.p (.i 5) (.p (.i 0) (.p (.i 0) (.p (.i 0) (.p (.i 0) (.p (.i 0) (.p (.i 0) (.p (.i 0) (.p (.i 0) (.p (.i 0) (.p (.i 0) (.p (.i 0) (.p (.i 0) (.p (.i 0) (.p (.i 0) (.p (.i 0) (.p (.i 0) (.p (.i 0) (.p (.i 0) (.p (.i 0) (.p (.i 0) (.p (.i 0) (.p (.i 0) (.p (.i 0) (.p (.i 0) (.p (.i 0) (.p (.i 0) (.p (.i 0) (.p (.i 0) (.p (.i 0) (.p (.i 0) (.p (.i 0) (.p (.i 0) (.p (.i 0) (.p (.i 0) (.p (.i 0) (.p (.i 0) (.p (.i 0) (.p (.i 0) (.p (.i 0) (.p (.i 0) (.p (.i 0) (.p (.i 0) (.p (.i 0) (.p (.i 0) (.p (.i 0) (.p (.i 0) (.p (.i 0) (.p (.i 0) (.p (.i 0) (.p (.i 0) (.p (.i 0) (.p (.i 0) (.p (.i 0) (.p (.i 0) (.p (.i 0) (.p (.i 0) (.p (.i 0) (.p (.i 0) (.p (.i 0) (.p (.i 0) (.p (.i 0) (.p (.i 0) (.p (.i 0) (.p (.i 0) (.p (.i 0) (.p (.i 0) (.p (.i 0) (.p (.i 0) (.p (.i 0) (.p (.i 0) (.p (.i 0) (.p (.i 0) (.p (.i 0) (.p (.i 0) (.p (.i 0) (.p (.i 0) (.p (.i 0) (.p (.i 0) (.p (.i 0) (.p (.i 0) (.p (.i 0) (.p (.i 0) (.p (.i 0) (.p (.i 0) (.p (.i 0) (.p (.i 0) (.p (.i 0) (.p (.i 0) (.p (.i 0) (.p (.i 0) (.p (.i 0) (.p (.i 0) (.p (.i 0) (.p (.i 0) (.p (.i 0) (.p (.i 0) (.p (.i 0) (.p (.i 0) (.p (.i 0) (.p (.i 0) (.p (.i 0) (.p (.i 0) (.p (.i 0) (.p (.i 0) (.p (.i 0) (.p (.i 0) (.p (.i 0) (.p (.i 0) (.p (.i 0) (.p (.i 0) (.p (.i 0) (.p (.i 0) (.p (.i 0) (.p (.i 0) (.p (.i 0) (.p (.i 0) (.p (.i 0) (.p (.i 0) (.p (.i 0) (.p (.i 0) (.p (.i 0) (.p (.i 0) (.p (.i 0) (.p (.i 0) (.p (.i 0) (.p (.i 0) (.p (.i 0) (.p (.i 0) (.p (.i 0) (.p (.i 0) (.i 0))))))))))))))))))))))))))))))))))))))))))))))))))))))))))))))))))))))))))))))))))))))))))))))))))))))))))))))))))))))))))))))))))))))))))))))))))))))))))))))))))))))))))))))))))))))))))))))))))))))))))))))))))))))))))))))))))))))))))))))))))))))))))))))))
def b1:D:=.p (.i 32) (.p (.i 97) (.p (.i 99) (.p (.i 113) (.p (.i 117) (.p (.i 105) (.p (.i 114) (.p (.i 101) (.p (.i 32) (.p (.i 97) (.p (.i 100) (.p (.i 100) (.p (.i 32) (.p (.i 97) (.p (.i 114) (.p (.i 114) (.p (.i 105) (.p (.i 118) (.p (.i 101) (.p (.i 32) (.p (.i 98) (.p (.i 97) (.p (.i 114) (.p (.i 114) (.p (.i 105) (.p (.i 101) (.p (.i 114) (.p (.i 32) (.p (.i 98) (.p (.i 114) (.p (.i 111) (.p (.i 97) (.p (.i 100) (.p (.i 99) (.p (.i 97) (.p (.i 115) (.p (.i 116) (.p (.i 32) (.p (.i 99) (.p (.i 111) (.p (.i 110) (.p (.i 100) (.p (.i 32) (.p (.i 100) (.p (.i 111) (.p (.i 32) (.p (.i 100) (.p (.i 111) (.p (.i 110) (.p (.i 101) (.p (.i 32) (.p (.i 101) (.p (.i 108) (.p (.i 115) (.p (.i 101) (.p (.i 32) (.p (.i 105) (.p (.i 102) (.p (.i 32) (.p (.i 108) (.p (.i 111) (.p (.i 99) (.p (.i 107) (.p (.i 32) (.p (.i 108) (.p (.i 111) (.p (.i 99) (.p (.i 107) (.p (.i 102) (.p (.i 111) (.p (.i 114) (.p (.i 32) (.p (.i 108) (.p (.i 111) (.p (.i 111) (.p (.i 112) (.p (.i 32) (.p (.i 109) (.p (.i 117) (.p (.i 116) (.p (.i 101) (.p (.i 120) (.p (.i 32) (.p (.i 111) (.p (.i 110) (.p (.i 99) (.p (.i 101) (.p (.i 32) (.p (.i 112) (.p (.i 117) (.p (.i 116) (.p (.i 32) (.p (.i 113) (.p (.i 117) (.p (.i 101) (.p (.i 117) (.p (.i 101) (.p (.i 32) (.p (.i 114) (.p (.i 101) (.p (.i 97) (.p (.i 100) (.p (.i 32) (.p (.i 114) (.p (.i 101) (.p (.i 108) (.p (.i 101) (.p (.i 97) (.p (.i 115) (.p (.i 101) (.p (.i 32) (.p (.i 114) (.p (.i 108) (.p (.i 111) (.p (.i 99) (.p (.i 107) (.p (.i 32) (.p (.i 114) (.p (.i 117) (.p (.i 110) (.p (.i 108) (.p (.i 111) (.p (.i 99) (.p (.i 107) (.p (.i 32) (.p (.i 114) (.p (.i 119) (.p (.i 108) (.p (.i 111) (.p (.i 99) (.p (.i 107) (.p (.i 32) (.p (.i 115) (.p (.i 101) (.p (.i 109) (.p (.i 32) (.p (.i 115) (.p (.i 101) (.p (.i 116) (.p (.i 32) (.p (.i 115) (.p (.i 105) (.p (.i 103) (.p (.i 110) (.p (.i 97) (.p (.i 108) (.p (.i 32) (.p (.i 116) (.p (.i 97) (.p (.i 107) (.p (.i 101) (.p (.i 32) (.p (.i 116) (.p (.i 104) (.p (.i 114) (.p (.i 101) (.p (.i 97) (.p (.i 100) (.p (.i 32) (.p (.i 116) (.p (.i 114) (.p (.i 121) (.p (.i 97) (.p (.i 99) (.p (.i 113) (.p (.i 117) (.p (.i 105) (.p (.i 114) (.p (.i 101) (.p (.i 32) (.p (.i 116) (.p (.i 114) (.p (.i 121) (.p (.i 108) (.p (.i 111) (.p (.i 99) (.p (.i 107) (.p (.i 32) (.p (.i 117) (.p (.i 110) (.p (.i 108) (.p (.i 111) (.p (.i 99) (.p (.i 107) (.p (.i 32) (.p (.i 118) (.p (.i 97) (.p (.i 114) (.p (.i 32) (.p (.i 119) (.p (.i 97) (.p (.i 105) (.p (.i 116) (.p (.i 32) (.p (.i 119) (.p (.i 97) (.p (.i 105) (.p (.i 116) (.p (.i 102) (.p (.i 111) (.p (.i 114) (.p (.i 32) (.p (.i 119) (.p (.i 97) (.p (.i 105) (.p (.i 116) (.p (.i 111) (.p (.i 110) (.p (.i 32) (.p (.i 119) (.p (.i 108) (.p (.i 111) (.p (.i 99) (.p (.i 107) (.p (.i 32) (.p (.i 119) (.p (.i 114) (.p (.i 105) (.p (.i 116) (.p (.i 101) (.p (.i 32) (.p (.i 119) (.p (.i 117) (.p (.i 110) (.p (.i 108) (.p (.i 111) (.p (.i 99) (.p (.i 107) (.p (.i 32) (.i 0)))))))))))))))))))))))))))))))))))))))))))))))))))))))))))))))))))))))))))))))))))))))))))))))))))))))))))))))))))))))))))))))))))))))))))))))))))))))))))))))))))))))))))))))))))))))))))))))))))))))))))))))))))))))))))))))))))))
abbrev Qa:SE:=.lit 0
abbrev Qb:SE:=.aC 1
abbrev Qc:SE:=ln Qb
abbrev Qd:SB:=.lt Qa Qc
abbrev Qe:SB:=.lt Qc (.lit 1759218604441)
abbrev Qf:SE:=.aC 0
abbrev Qg:SE:=.op .norm Qb Qa
abbrev Qh:SE:=.dat (.i 1)
abbrev Qi:SB:=.eq Qg Qh
abbrev Qj:List SE:=[Qf]
abbrev Qk:SE:=.dat (.i 2)
abbrev Ql:SB:=.eq Qg Qk
def Ot:T Lf:=sp Qd (sp Qe (ju 9001 [Qf,Qb,Qc,Qa]) fl) (sp Qi (ju 9002 Qj) (sp Ql (ju 9003 Qj) fl))
abbrev Qm:SE:=.aC 3
abbrev Qn:SB:=.eq Qm Qf
abbrev Qo:SE:=.aC 2
abbrev Qp:SB:=.lt Qm Qo
abbrev Qq:SB:=.lt Qm Qa
abbrev Qr:SB:=.lt Qm Qc
abbrev Qs:SE:=el Qb Qm
abbrev Qt:SE:=ce 4 Qs
abbrev Qu:SB:=.lt Qa (ln Qt)
abbrev Qv:SE:=.lit 17592186044416
abbrev Qw:SB:=.lt (ln Qt) Qv
abbrev Qx:SE:=ce 5 Qs
abbrev Qy:SB:=.lt Qa (ln Qx)
abbrev Qz:SB:=.lt (ln Qx) Qv
abbrev Q0:SE:=.lit 1
abbrev Q1:SE:=wr (.add Qm Q0)
abbrev Q2:SE:=el Qb Qf
abbrev Q3:SE:=nm (ce 0 Q2)
abbrev Q4:SE:=nm (ce 1 Q2)
abbrev Q5:SE:=nm (ce 2 Q2)
abbrev Q6:SE:=nm (ce 3 Q2)
abbrev Q7:SB:=.eq Qx Qh
abbrev Q8:SB:=.eq Qx Qk
abbrev Q9:SB:=.eq Qt Qh
abbrev Qba:SB:=.eq Qt Qk
abbrev Qbb:T Lf:=ou [Qa,Qf,Qb]
abbrev WU:SE:=mk Qm
abbrev Qbd:SE:=.dat (.i 4)
abbrev Qbe:SE:=.op .set Qb (cn WU (.op .set Qs (cn Qbd Qt)))
abbrev Qbf:SE:=.dat (.i 5)
abbrev Qbg:SE:=.op .set Qbe (cn WU (.op .set (el Qbe Qm) (cn Qbf Qx)))
abbrev Qbh:SE:=cn Qbf Qh
abbrev Qbi:SE:=.op .set Qbe (cn WU (.op .set (el Qbe Qm) Qbh))
abbrev Qbj:SE:=cn Qbf Qk
abbrev Qbk:SE:=.op .set Qbe (cn WU (.op .set (el Qbe Qm) Qbj))
abbrev Qbl:SE:=cn Qbd Qh
abbrev Qbm:SE:=.op .set Qb (cn WU (.op .set Qs Qbl))
abbrev Qbn:SE:=.op .set Qbm (cn WU (.op .set (el Qbm Qm) (cn Qbf Qx)))
abbrev Qbo:SE:=.op .set Qbm (cn WU (.op .set (el Qbm Qm) Qbh))
abbrev Qbp:SE:=.op .set Qbm (cn WU (.op .set (el Qbm Qm) Qbj))
abbrev Qbq:SE:=cn Qbd Qk
abbrev Qbr:SE:=.op .set Qb (cn WU (.op .set Qs Qbq))
abbrev Qbs:SE:=.op .set Qbr (cn WU (.op .set (el Qbr Qm) (cn Qbf Qx)))
abbrev Qbt:SE:=.op .set Qbr (cn WU (.op .set (el Qbr Qm) Qbh))
abbrev Qbu:SE:=.op .set Qbr (cn WU (.op .set (el Qbr Qm) Qbj))
def uZ:T Lf:=sp Qn (sp Qp (sp Qq fl (sp Qr (sp Qu (sp Qw (sp Qy (sp Qz (ju 9004 [Qf,Qb,Qo,Q1,Q3,Q4,Q5,Q6,Qt,Qx]) fl) (sp Q7 (ju 9005 [Qf,Qb,Qo,Q1,Q3,Q4,Q5,Q6,Qt,Qh]) (sp Q8 (ju 9005 [Qf,Qb,Qo,Q1,Q3,Q4,Q5,Q6,Qt,Qk]) fl))) fl) (sp Q9 (sp Qy (sp Qz (ju 9006 [Qf,Qb,Qo,Q1,Q3,Q4,Q5,Q6,Qh,Qx]) fl) (sp Q7 (ju 9007 [Qf,Qb,Qo,Q1,Q3,Q4,Q5,Q6,Qh,Qh]) (sp Q8 (ju 9007 [Qf,Qb,Qo,Q1,Q3,Q4,Q5,Q6,Qh,Qk]) fl))) (sp Qba (sp Qy (sp Qz (ju 9006 [Qf,Qb,Qo,Q1,Q3,Q4,Q5,Q6,Qk,Qx]) fl) (sp Q7 (ju 9007 [Qf,Qb,Qo,Q1,Q3,Q4,Q5,Q6,Qk,Qh]) (sp Q8 (ju 9007 [Qf,Qb,Qo,Q1,Q3,Q4,Q5,Q6,Qk,Qk]) fl))) fl))) fl)) Qbb) (sp Qp (sp Qq fl (sp Qr (sp Qu (sp Qw (sp Qy (sp Qz (ju 9001 [Qf,Qbg,Qo,Q1]) fl) (sp Q7 (ju 9001 [Qf,Qbi,Qo,Q1]) (sp Q8 (ju 9001 [Qf,Qbk,Qo,Q1]) fl))) fl) (sp Q9 (sp Qy (sp Qz (ju 9001 [Qf,Qbn,Qo,Q1]) fl) (sp Q7 (ju 9001 [Qf,Qbo,Qo,Q1]) (sp Q8 (ju 9001 [Qf,Qbp,Qo,Q1]) fl))) (sp Qba (sp Qy (sp Qz (ju 9001 [Qf,Qbs,Qo,Q1]) fl) (sp Q7 (ju 9001 [Qf,Qbt,Qo,Q1]) (sp Q8 (ju 9001 [Qf,Qbu,Qo,Q1]) fl))) fl))) fl)) Qbb)
abbrev Qbv:SB:=.eq Qa Qf
def afA:T Lf:=sp Qbv (ou [Q0,Qf]) (ou [Q0,Qf])
abbrev pI:SE:=.lit 2
def aeZ:T Lf:=sp Qbv (ou [pI,Qf]) (ou [pI,Qf])
abbrev Qbx:T Lf:=sp Qq fl (sp Qr fl fl)
abbrev Ar:SE:=.lit 3
abbrev bC:SE:=.aC 4
abbrev bU:SE:=.aC 5
abbrev dO:SE:=.aC 6
abbrev fE:SE:=.aC 7
abbrev fZ:SE:=.aC 8
abbrev gU:SE:=.aC 9
abbrev Qb5:T Lf:=ou [Ar,Qf,Qb,bC,bU,dO,fE,fZ,gU]
abbrev Qb6:List SE:=[Qf,Qbg,Qo,Q1,bC,bU,dO,fE,fZ,gU]
abbrev Qb7:List SE:=[Qf,Qbi,Qo,Q1,bC,bU,dO,fE,fZ,gU]
abbrev Qb8:List SE:=[Qf,Qbk,Qo,Q1,bC,bU,dO,fE,fZ,gU]
abbrev Qb9:List SE:=[Qf,Qbn,Qo,Q1,bC,bU,dO,fE,fZ,gU]
abbrev Qca:List SE:=[Qf,Qbo,Qo,Q1,bC,bU,dO,fE,fZ,gU]
abbrev Qcb:List SE:=[Qf,Qbp,Qo,Q1,bC,bU,dO,fE,fZ,gU]
abbrev Qcc:List SE:=[Qf,Qbs,Qo,Q1,bC,bU,dO,fE,fZ,gU]
abbrev Qcd:List SE:=[Qf,Qbt,Qo,Q1,bC,bU,dO,fE,fZ,gU]
abbrev Qce:List SE:=[Qf,Qbu,Qo,Q1,bC,bU,dO,fE,fZ,gU]
def Y4:T Lf:=sp Qn (sp Qp Qbx Qb5) (sp Qp (sp Qq fl (sp Qr (sp Qu (sp Qw (sp Qy (sp Qz (ju 9004 Qb6) fl) (sp Q7 (ju 9004 Qb7) (sp Q8 (ju 9004 Qb8) fl))) fl) (sp Q9 (sp Qy (sp Qz (ju 9004 Qb9) fl) (sp Q7 (ju 9004 Qca) (sp Q8 (ju 9004 Qcb) fl))) (sp Qba (sp Qy (sp Qz (ju 9004 Qcc) fl) (sp Q7 (ju 9004 Qcd) (sp Q8 (ju 9004 Qce) fl))) fl))) fl)) Qb5)
abbrev wQ:SE:=.lit 4
abbrev Qcg:T Lf:=ou [wQ,Qf,Qb,bC,bU,dO,fE,fZ,gU]
def Y3:T Lf:=sp Qn (sp Qp Qbx Qcg) (sp Qp (sp Qq fl (sp Qr (sp Qu (sp Qw (sp Qy (sp Qz (ju 9005 Qb6) fl) (sp Q7 (ju 9005 Qb7) (sp Q8 (ju 9005 Qb8) fl))) fl) (sp Q9 (sp Qy (sp Qz (ju 9005 Qb9) fl) (sp Q7 (ju 9005 Qca) (sp Q8 (ju 9005 Qcb) fl))) (sp Qba (sp Qy (sp Qz (ju 9005 Qcc) fl) (sp Q7 (ju 9005 Qcd) (sp Q8 (ju 9005 Qce) fl))) fl))) fl)) Qcg)
abbrev YN:SE:=.lit 5
abbrev Qci:T Lf:=ou [YN,Qf,Qb,bC,bU,dO,fE,fZ,gU]
def Y2:T Lf:=sp Qn (sp Qp Qbx Qci) (sp Qp (sp Qq fl (sp Qr (sp Qu (sp Qw (sp Qy (sp Qz (ju 9006 Qb6) fl) (sp Q7 (ju 9006 Qb7) (sp Q8 (ju 9006 Qb8) fl))) fl) (sp Q9 (sp Qy (sp Qz (ju 9006 Qb9) fl) (sp Q7 (ju 9006 Qca) (sp Q8 (ju 9006 Qcb) fl))) (sp Qba (sp Qy (sp Qz (ju 9006 Qcc) fl) (sp Q7 (ju 9006 Qcd) (sp Q8 (ju 9006 Qce) fl))) fl))) fl)) Qci)
abbrev WT:SE:=.lit 6
abbrev Qck:T Lf:=ou [WT,Qf,Qb,bC,bU,dO,fE,fZ,gU]
def Y1:T Lf:=sp Qn (sp Qp Qbx Qck) (sp Qp (sp Qq fl (sp Qr (sp Qu (sp Qw (sp Qy (sp Qz (ju 9007 Qb6) fl) (sp Q7 (ju 9007 Qb7) (sp Q8 (ju 9007 Qb8) fl))) fl) (sp Q9 (sp Qy (sp Qz (ju 9007 Qb9) fl) (sp Q7 (ju 9007 Qca) (sp Q8 (ju 9007 Qcb) fl))) (sp Qba (sp Qy (sp Qz (ju 9007 Qcc) fl) (sp Q7 (ju 9007 Qcd) (sp Q8 (ju 9007 Qce) fl))) fl))) fl)) Qck)
abbrev WA:SE:=ln Qo
abbrev Qcm:SB:=.lt WA (.lit 2199023255552)
abbrev Qcn:SB:=.eq (.op .norm Qo Qa) Qh
abbrev Qco:List SE:=[Qf,Qc,Qa,Qb]
abbrev Qcp:SB:=.eq (.op .norm Qo Qa) Qk
def Iu:T Lf:=sp Qd (sp Qe (sp (.lt Qa WA) (sp Qcm (ju 9051 [Qf,Qc,Qa,Qb,Qo]) fl) (sp Qcn (ju 9052 Qco) (sp Qcp (ju 9053 Qco) fl))) fl) (sp Qi (sp (.lt Qa WA) (sp Qcm (ju 9054 [Qf,Qo]) fl) (sp Qcn (ju 9055 Qj) (sp Qcp (ju 9056 Qj) fl))) (sp Ql (sp (.lt Qa WA) (sp Qcm (ju 9057 [Qf,Qo]) fl) (sp Qcn (ju 9058 Qj) (sp Qcp (ju 9059 Qj) fl))) fl))
abbrev yL:SB:=.lt Qo Qb
abbrev wP:SB:=.lt Qo Qa
abbrev Uk:SE:=ln Qm
abbrev Qct:SB:=.lt Qo Uk
abbrev YL:SE:=el Qm Qo
abbrev Qcv:SE:=ce 4 YL
abbrev Qcw:SB:=.lt Qa (ln Qcv)
abbrev Qcx:SB:=.lt (ln Qcv) Qv
abbrev Qcy:SE:=ce 5 YL
abbrev Qcz:SB:=.lt Qa (ln Qcy)
abbrev Qc0:SB:=.lt (ln Qcy) Qv
abbrev mJ:SE:=wr (.add Qo Q0)
abbrev EH:SE:=mk Qo
abbrev Qc3:SE:=.op .set Qm (cn EH (.op .set YL (cn Qbd Qcv)))
abbrev Qc4:SE:=.op .set Qc3 (cn EH (.op .set (el Qc3 Qo) (cn Qbf Qcy)))
abbrev Qc5:SB:=.eq Qcy Qh
abbrev Qc6:SE:=.op .set Qc3 (cn EH (.op .set (el Qc3 Qo) Qbh))
abbrev Qc7:SB:=.eq Qcy Qk
abbrev Qc8:SE:=.op .set Qc3 (cn EH (.op .set (el Qc3 Qo) Qbj))
abbrev Qc9:SE:=.op .set Qm (cn EH (.op .set YL Qbl))
abbrev Qda:SE:=.op .set Qc9 (cn EH (.op .set (el Qc9 Qo) (cn Qbf Qcy)))
abbrev Qdb:SE:=.op .set Qc9 (cn EH (.op .set (el Qc9 Qo) Qbh))
abbrev Qdc:SE:=.op .set Qc9 (cn EH (.op .set (el Qc9 Qo) Qbj))
abbrev Qdd:SE:=.op .set Qm (cn EH (.op .set YL Qbq))
abbrev Qde:SE:=.op .set Qdd (cn EH (.op .set (el Qdd Qo) (cn Qbf Qcy)))
abbrev Qdf:SE:=.op .set Qdd (cn EH (.op .set (el Qdd Qo) Qbh))
abbrev Qdg:SE:=.op .set Qdd (cn EH (.op .set (el Qdd Qo) Qbj))
abbrev Qdh:SE:=ln bC
def Y0:T Lf:=sp yL (sp wP fl (sp Qct (sp Qcw (sp Qcx (sp Qcz (sp Qc0 (ju 9051 [Qf,Qb,mJ,Qc4,bC]) fl) (sp Qc5 (ju 9051 [Qf,Qb,mJ,Qc6,bC]) (sp Qc7 (ju 9051 [Qf,Qb,mJ,Qc8,bC]) fl))) fl) (sp (.eq Qcv Qh) (sp Qcz (sp Qc0 (ju 9051 [Qf,Qb,mJ,Qda,bC]) fl) (sp Qc5 (ju 9051 [Qf,Qb,mJ,Qdb,bC]) (sp Qc7 (ju 9051 [Qf,Qb,mJ,Qdc,bC]) fl))) (sp (.eq Qcv Qk) (sp Qcz (sp Qc0 (ju 9051 [Qf,Qb,mJ,Qde,bC]) fl) (sp Qc5 (ju 9051 [Qf,Qb,mJ,Qdf,bC]) (sp Qc7 (ju 9051 [Qf,Qb,mJ,Qdg,bC]) fl))) fl))) fl)) (ju 9060 [Qf,Qdh,Qa,Qm,bC])
def YZ:T Lf:=sp yL (sp wP fl (sp Qct (sp Qcw (sp Qcx (sp Qcz (sp Qc0 (ju 9052 [Qf,Qb,mJ,Qc4]) fl) (sp Qc5 (ju 9052 [Qf,Qb,mJ,Qc6]) (sp Qc7 (ju 9052 [Qf,Qb,mJ,Qc8]) fl))) fl) (sp (.eq Qcv Qh) (sp Qcz (sp Qc0 (ju 9052 [Qf,Qb,mJ,Qda]) fl) (sp Qc5 (ju 9052 [Qf,Qb,mJ,Qdb]) (sp Qc7 (ju 9052 [Qf,Qb,mJ,Qdc]) fl))) (sp (.eq Qcv Qk) (sp Qcz (sp Qc0 (ju 9052 [Qf,Qb,mJ,Qde]) fl) (sp Qc5 (ju 9052 [Qf,Qb,mJ,Qdf]) (sp Qc7 (ju 9052 [Qf,Qb,mJ,Qdg]) fl))) fl))) fl)) (ju 9061 [Qf,Qm])
def asZ:T Lf:=sp yL (sp wP fl (sp Qct (sp Qcw (sp Qcx (sp Qcz (sp Qc0 (ju 9053 [Qf,Qb,mJ,Qc4]) fl) (sp Qc5 (ju 9053 [Qf,Qb,mJ,Qc6]) (sp Qc7 (ju 9053 [Qf,Qb,mJ,Qc8]) fl))) fl) (sp (.eq Qcv Qh) (sp Qcz (sp Qc0 (ju 9053 [Qf,Qb,mJ,Qda]) fl) (sp Qc5 (ju 9053 [Qf,Qb,mJ,Qdb]) (sp Qc7 (ju 9053 [Qf,Qb,mJ,Qdc]) fl))) (sp (.eq Qcv Qk) (sp Qcz (sp Qc0 (ju 9053 [Qf,Qb,mJ,Qde]) fl) (sp Qc5 (ju 9053 [Qf,Qb,mJ,Qdf]) (sp Qc7 (ju 9053 [Qf,Qb,mJ,Qdg]) fl))) fl))) fl)) (ju 9062 [Qf,Qm])
def aeY:T Lf:=ju 9063 Qco
def asY:T Lf:=ju 9064 Qj
def asX:T Lf:=ju 9065 Qj
def asW:T Lf:=ju 9066 Qco
def asV:T Lf:=ju 9067 Qj
def asU:T Lf:=ju 9068 Qj
abbrev Qdi:SB:=.eq Qo Qf
abbrev Qdj:SB:=.lt Qo Qdh
abbrev Qdk:SE:=el bC Qo
abbrev Qdl:SE:=ce 1 Qdk
abbrev Qdm:SB:=.lt Qa (ln Qdl)
abbrev Qdn:SB:=.lt (ln Qdl) Qv
abbrev Qdo:SE:=el bC Qf
abbrev Qdp:SE:=nm (ce 0 Qdo)
abbrev Qdq:SE:=nm (ce 2 Qdo)
abbrev Qdr:SE:=nm (ce 3 Qdo)
abbrev Qds:SE:=nm (ce 4 Qdo)
abbrev Qdt:SE:=nm (ce 5 Qdo)
abbrev Qdu:SB:=.eq Qdl Qh
abbrev Qdv:SB:=.eq Qdl Qk
abbrev Qdw:SE:=.op .set bC (cn EH (.op .set Qdk (cn Qh Qdl)))
abbrev Qdx:SE:=cn Qh Qh
abbrev Qdy:SE:=.op .set bC (cn EH (.op .set Qdk Qdx))
abbrev Qdz:SE:=cn Qh Qk
abbrev Qd0:SE:=.op .set bC (cn EH (.op .set Qdk Qdz))
def EO:T Lf:=sp Qdi (sp yL (sp wP fl (sp Qdj (sp Qdm (sp Qdn (ju 9069 [Qf,Qb,mJ,Qm,bC,Qdp,Qdl,Qdq,Qdr,Qds,Qdt]) fl) (sp Qdu (ju 9070 [Qf,Qb,mJ,Qm,bC,Qdp,Qh,Qdq,Qdr,Qds,Qdt]) (sp Qdv (ju 9070 [Qf,Qb,mJ,Qm,bC,Qdp,Qk,Qdq,Qdr,Qds,Qdt]) fl))) fl)) (ou [Qa,Qf,Qm,bC])) (sp yL (sp wP fl (sp Qdj (sp Qdm (sp Qdn (ju 9060 [Qf,Qb,mJ,Qm,Qdw]) fl) (sp Qdu (ju 9060 [Qf,Qb,mJ,Qm,Qdy]) (sp Qdv (ju 9060 [Qf,Qb,mJ,Qm,Qd0]) fl))) fl)) (ou [Qa,Qf,Qm,bC]))
abbrev Qd1:T Lf:=ou [Q0,Qf,Qb]
def aeX:T Lf:=sp Qbv Qd1 Qd1
def asT:T Lf:=sp Qbv (ou [pI,Qf,Qb]) (ou [pI,Qf,Qb])
abbrev Qd2:SE:=ce 1 YL
abbrev Qd3:SB:=.lt Qa (ln Qd2)
abbrev Qd4:SB:=.lt (ln Qd2) Qv
abbrev Qd5:SE:=el Qm Qf
abbrev Qd6:SE:=nm (ce 0 Qd5)
abbrev Qd7:SE:=nm (ce 2 Qd5)
abbrev Qd8:SE:=nm (ce 3 Qd5)
abbrev Qd9:SE:=nm (ce 4 Qd5)
abbrev Qea:SE:=nm (ce 5 Qd5)
abbrev Qeb:List SE:=[Qf,Qb,mJ,Qm,Qd6,Qd2,Qd7,Qd8,Qd9,Qea]
abbrev Qec:SB:=.eq Qd2 Qh
abbrev Qed:List SE:=[Qf,Qb,mJ,Qm,Qd6,Qh,Qd7,Qd8,Qd9,Qea]
abbrev Qee:SB:=.eq Qd2 Qk
abbrev Qef:List SE:=[Qf,Qb,mJ,Qm,Qd6,Qk,Qd7,Qd8,Qd9,Qea]
abbrev Qeg:SE:=.op .set Qm (cn EH (.op .set YL (cn Qh Qd2)))
abbrev Qeh:SE:=.op .set Qm (cn EH (.op .set YL Qdx))
abbrev Qei:SE:=.op .set Qm (cn EH (.op .set YL Qdz))
def EN:T Lf:=sp Qdi (sp yL (sp wP fl (sp Qct (sp Qd3 (sp Qd4 (ju 9071 Qeb) fl) (sp Qec (ju 9072 Qed) (sp Qee (ju 9072 Qef) fl))) fl)) (ou [Qa,Qf,Qh,Qm])) (sp yL (sp wP fl (sp Qct (sp Qd3 (sp Qd4 (ju 9063 [Qf,Qb,mJ,Qeg]) fl) (sp Qec (ju 9063 [Qf,Qb,mJ,Qeh]) (sp Qee (ju 9063 [Qf,Qb,mJ,Qei]) fl))) fl)) (ou [Qa,Qf,Qh,Qm]))
def aeW:T Lf:=sp Qbv (ou [Q0,Qf,Qh]) (ou [Q0,Qf,Qh])
def asR:T Lf:=sp Qbv (ou [pI,Qf,Qh]) (ou [pI,Qf,Qh])
def asQ:T Lf:=sp Qdi (sp yL (sp wP fl (sp Qct (sp Qd3 (sp Qd4 (ju 9073 Qeb) fl) (sp Qec (ju 9074 Qed) (sp Qee (ju 9074 Qef) fl))) fl)) (ou [Qa,Qf,Qk,Qm])) (sp yL (sp wP fl (sp Qct (sp Qd3 (sp Qd4 (ju 9066 [Qf,Qb,mJ,Qeg]) fl) (sp Qec (ju 9066 [Qf,Qb,mJ,Qeh]) (sp Qee (ju 9066 [Qf,Qb,mJ,Qei]) fl))) fl)) (ou [Qa,Qf,Qk,Qm]))
def asP:T Lf:=sp Qbv (ou [Q0,Qf,Qk]) (ou [Q0,Qf,Qk])
def asO:T Lf:=sp Qbv (ou [pI,Qf,Qk]) (ou [pI,Qf,Qk])
abbrev Qej:T Lf:=sp wP fl (sp Qdj fl fl)
abbrev kJ:SE:=.aC 10
abbrev Qel:T Lf:=ou [Ar,Qf,Qm,bC,bU,dO,fE,fZ,gU,kJ]
abbrev Qem:List SE:=[Qf,Qb,mJ,Qm,Qdw,bU,dO,fE,fZ,gU,kJ]
abbrev Qen:List SE:=[Qf,Qb,mJ,Qm,Qdy,bU,dO,fE,fZ,gU,kJ]
abbrev Qeo:List SE:=[Qf,Qb,mJ,Qm,Qd0,bU,dO,fE,fZ,gU,kJ]
def YX:T Lf:=sp Qdi (sp yL Qej Qel) (sp yL (sp wP fl (sp Qdj (sp Qdm (sp Qdn (ju 9069 Qem) fl) (sp Qdu (ju 9069 Qen) (sp Qdv (ju 9069 Qeo) fl))) fl)) Qel)
abbrev Qep:T Lf:=ou [wQ,Qf,Qm,bC,bU,dO,fE,fZ,gU,kJ]
def YW:T Lf:=sp Qdi (sp yL Qej Qep) (sp yL (sp wP fl (sp Qdj (sp Qdm (sp Qdn (ju 9070 Qem) fl) (sp Qdu (ju 9070 Qen) (sp Qdv (ju 9070 Qeo) fl))) fl)) Qep)
abbrev Qeq:T Lf:=sp wP fl (sp Qct fl fl)
abbrev Qer:T Lf:=ou [Ar,Qf,Qh,Qm,bC,bU,dO,fE,fZ,gU]
abbrev Qes:List SE:=[Qf,Qb,mJ,Qeg,bC,bU,dO,fE,fZ,gU]
abbrev Qet:List SE:=[Qf,Qb,mJ,Qeh,bC,bU,dO,fE,fZ,gU]
abbrev Qeu:List SE:=[Qf,Qb,mJ,Qei,bC,bU,dO,fE,fZ,gU]
def YV:T Lf:=sp Qdi (sp yL Qeq Qer) (sp yL (sp wP fl (sp Qct (sp Qd3 (sp Qd4 (ju 9071 Qes) fl) (sp Qec (ju 9071 Qet) (sp Qee (ju 9071 Qeu) fl))) fl)) Qer)
abbrev Qev:T Lf:=ou [wQ,Qf,Qh,Qm,bC,bU,dO,fE,fZ,gU]
def YU:T Lf:=sp Qdi (sp yL Qeq Qev) (sp yL (sp wP fl (sp Qct (sp Qd3 (sp Qd4 (ju 9072 Qes) fl) (sp Qec (ju 9072 Qet) (sp Qee (ju 9072 Qeu) fl))) fl)) Qev)
abbrev Qew:T Lf:=ou [Ar,Qf,Qk,Qm,bC,bU,dO,fE,fZ,gU]
def asN:T Lf:=sp Qdi (sp yL Qeq Qew) (sp yL (sp wP fl (sp Qct (sp Qd3 (sp Qd4 (ju 9073 Qes) fl) (sp Qec (ju 9073 Qet) (sp Qee (ju 9073 Qeu) fl))) fl)) Qew)
abbrev Qex:T Lf:=ou [wQ,Qf,Qk,Qm,bC,bU,dO,fE,fZ,gU]
def asM:T Lf:=sp Qdi (sp yL Qeq Qex) (sp yL (sp wP fl (sp Qct (sp Qd3 (sp Qd4 (ju 9074 Qes) fl) (sp Qec (ju 9074 Qet) (sp Qee (ju 9074 Qeu) fl))) fl)) Qex)
abbrev sZ:SE:=ln Qf
def aBq:T Lf:=ju 101 [wr (.add sZ Qc),Qc,Qa,Qf,Qb]
abbrev qB:T Lf:=ou [Q0]
abbrev dK:T Lf:=ou [Qa]
def aBp:T Lf:=sp yL (sp wP fl (sp Qdj (ju 102 [wr (.add Qf (wr (.add (ln Qdl) (ln (ce 2 Qdk))))),Qo,Qa,Qb,Qm,bC]) fl)) (sp (.lt (.lit 6000) Qf) qB dK)
abbrev Qe1:SB:=.lt Qb Qa
abbrev Qe2:SE:=el bU Qb
abbrev wO:SE:=wr (.add Qb Q0)
abbrev Qe4:T Lf:=ju 101 [Qf,Qm,wO,bC,bU]
abbrev Qe5:SE:=ce 6 (el (ce 2 Qe2) Qo)
def aBo:T Lf:=sp Qe1 fl (sp (.lt Qb (ln bU)) (sp (.lt Qo (ln (ce 2 Qe2))) (sp (.lt (.lit 6000) Qf) Qe4 (sp wP fl (ju 103 [Qf,Qb,Qo,Qm,Qe5,ln Qe5,Qa,bC,bU]))) Qe4) fl)
abbrev Qe6:SE:=el bC dO
abbrev Qe7:List SE:=[nm (ce 0 Qe6),ce 1 Qe6,nm (ce 2 Qe6),ce 3 Qe6,.lit 60]
def aBn:T Lf:=sp (.lt dO bU) (sp (.lt dO Qa) fl (sp (.lt dO Qdh) (sp (.eq (a0 150 Qe7) Q0) (ju 103 [wr (.add Qf (rr 150 Qe7 0)),Qb,Qo,Qm,bC,bU,wr (.add dO Q0),fE,fZ]) fl) fl)) (ju 102 [Qf,Qb,mJ,Qm,fE,fZ])
abbrev Qe8:SB:=.lt bC Q0
def aBm:T Lf:=sp Qe8 (ou [.lit 10000]) (ju 151 [bC,wr (.add Q0 (wr (.quo Qc (.lit 100)))),Qa,Qf,Qb,Qo,Qm])
abbrev Qe9:SE:=el dO Qo
abbrev Qfa:List SE:=[nm (ce 0 Qe9),ce 1 Qe9,nm (ce 2 Qe9),ce 3 Qe9,wr (.sub Qf Q0)]
def aBl:T Lf:=sp (.lt Qo (ln dO)) (sp (.lt (.lit 10000) Qb) (ou [Qb]) (sp wP fl (sp (.eq (a0 150 Qfa) Q0) (ju 151 [Qf,wr (.add Qb (rr 150 Qfa 0)),mJ,Qm,bC,bU,dO]) fl))) (ou [Qb])
abbrev Qfb:SE:=el Qf Qm
abbrev Qfc:SE:=nm (ce 0 Qs)
abbrev Qfd:SB:=.not (.eq (nm (ce 2 Qfb)) Qa)
abbrev Qfe:SE:=nm (ce 2 Qs)
abbrev Qff:SB:=.lt bU Qa
abbrev lN:SE:=.aC 11
abbrev Qfh:SE:=.aC 17
abbrev Qfi:SE:=wr (.add bU Q0)
abbrev qW:SE:=.aC 12
abbrev oQ:SE:=.aC 13
abbrev qU:SE:=.aC 14
abbrev WS:SE:=.aC 15
abbrev Qfn:SE:=.aC 16
abbrev Qfo:List SE:=[Qf,Qb,Qo,Q1]
abbrev Wy:SB:=.lt Qo sZ
abbrev Qfq:SB:=.lt Qo Qc
abbrev YK:SE:=el Qf Qo
abbrev Du:List SE:=[Qf,Qb]
abbrev Qft:SB:=.eq (a0 450 Du) Q0
abbrev Qfu:SB:=.eq (rr 450 Du 0) Qa
def afU:T Lf:=sp Qft (sp Qfu (ju 301 [Qf,sZ]) (ou [Qh])) fl
abbrev Qfv:SB:=.lt Qa Qb
abbrev Qfw:SB:=.lt Qa sZ
abbrev lW:SE:=.dat (.i 0)
abbrev Qfy:SE:=.dat (.i (-1))
abbrev Qfz:SE:=cn lW (cn lW (cn Qh (cn Qh lW)))
abbrev Qf0:T Lf:=ju 302 [.op .snoc lW (cn Qfy (cn (mk (nm (ce 2 (el Qf Qa)))) Qfz)),Qf,Qb,Q0]
abbrev Qf1:SE:=.lit 9
def WZ:T Lf:=sp Qfv (sp Qfw (sp (.eq (nm (ce 0 (el Qf Qa))) Ar) Qf0 (sp (.eq (nm (ce 0 (el Qf Qa))) Qf1) Qf0 (ju 302 [.op .snoc lW (cn Qfy (cn lW Qfz)),Qf,Qb,Q0]))) fl) (ou [Qh])
abbrev Qf2:SB:=.lt sZ (.lit 1759218604440)
abbrev Qf3:T Lf:=sp Qf2 (ju 302 [.op .snoc Qf (cn Qfy (cn (mk Qfe) Qfz)),Qb,Qo,Q1]) fl
def aoS:T Lf:=sp Qp (sp Qq fl (sp Qr (sp (.eq Qfc Ar) Qf3 (sp (.eq Qfc Qf1) Qf3 (sp Qf2 (ju 302 [.op .snoc Qf (cn Qfy (cn lW Qfz)),Qb,Qo,Q1]) fl))) fl)) (ou Qj)
def afT:T Lf:=sp Qft (sp Qfu (sp (.eq WA sZ) (ju 351 [Qo,WA,Qa,Qf,Qb]) dK) dK) fl
abbrev Qf4:SE:=nm (ce 2 YK)
abbrev Qf5:SE:=nm (ce 0 YK)
abbrev Un:SE:=ce 1 YK
abbrev Qf7:SE:=ce 3 YK
abbrev Qf8:SE:=ce 4 YK
abbrev Qf9:SE:=ce 5 YK
abbrev Qga:List SE:=[nm (ce 0 YL),Qd2,nm (ce 2 YL),ce 3 YL,nm Qcv,Qf5,nm Un,Qa,nm Qf7,Qf8,Qf9,Qdh]
abbrev Qgb:T Lf:=ju 351 [Qf,Qb,mJ,Qm,bC]
abbrev Qgc:List SE:=[nm (ce 0 YL),Qd2,nm (ce 2 YL),ce 3 YL,nm Qcv,Qf5,nm Un,Q0,nm Qf7,Qf8,Qf9,Qdh]
def WY:T Lf:=sp yL (sp wP fl (sp Wy (sp Qct (sp (.eq Qf4 Qa) (sp (.eq (a0 500 Qga) Q0) (sp (.eq (rr 500 Qga 0) Qa) dK Qgb) fl) (sp (.eq (a0 500 Qgc) Q0) (sp (.eq (rr 500 Qgc 0) Qa) dK Qgb) fl)) fl) fl)) qB
abbrev Qgd:List SE:=[bU,Qo]
abbrev Qge:SE:=rr 9000 Qgd 0
abbrev Qgf:SB:=.eq (a0 350 [Qf,Qb,Qo]) Q0
abbrev Qgg:SB:=.eq (rr 350 [Qf,Qb,Qo] 0) Qa
abbrev EI:SE:=rr 9000 Qgd 2
abbrev Qgi:T Lf:=ou [EI,Qa,Qa,Qa,Qa,Qa,Qa]
abbrev Qgj:T Lf:=sp Qgf (sp Qgg Qgi (sp Qq Qgi (sp Qr Qgi Qgi))) fl
abbrev Qgk:SB:=.lt bU (ln EI)
abbrev Qgl:T Lf:=ou [Qh,Qa,Qa,Qa,Qa,Qa,Qa]
abbrev Qgm:T Lf:=ou [Qk,Qa,Qa,Qa,Qa,Qa,Qa]
abbrev Jr:SE:=mk bU
abbrev Qgo:SE:=rr 9000 Qgd 3
abbrev Um:SE:=mk Qgo
abbrev Wx:SE:=rr 9000 Qgd 4
abbrev WR:SE:=mk Wx
abbrev Qgs:SE:=rr 9000 Qgd 5
abbrev Qgt:SE:=.op .bit (mk Qgs) Qa
abbrev Qgu:SE:=rr 9000 Qgd 6
abbrev Qgv:SE:=mk Qgu
abbrev Uj:SE:=rr 9000 Qgd 7
abbrev Qgx:SE:=rr 9000 Qgd 8
abbrev Qgy:SE:=cn Qgx lW
abbrev Qgz:SE:=cn Qgt (cn Qgv (cn Uj Qgy))
abbrev Qg0:SE:=cn Jr (cn Um (cn WR Qgz))
abbrev Qg1:SE:=.op .set EI Qg0
abbrev J4:T Lf:=ou [Qg1,Qa,Qa,Qa,Qa,Qa,Qa]
abbrev Qg3:SB:=.eq (a0 600 [bC]) Q0
abbrev Qg4:SB:=.lt bU sZ
abbrev Qg5:SB:=.eq (rr 600 [bC] 0) (nm (ce 0 (el Qf bU)))
abbrev Qg6:SB:=.eq bC Q0
abbrev Qg7:SB:=.eq Qgo Qm
abbrev Jh:T Lf:=sp (.eq (a0 550 [Qo]) Q0) (ou [rr 550 [Qo] 0,Qm,.lit 27,bU,wr bC,Qa,pI]) fl
abbrev Qg9:SB:=.eq (a0 900 [Uj,Qm]) Q0
abbrev Qha:SB:=.eq (rr 900 [Uj,Qm] 0) Qa
abbrev Qhb:SB:=.lt Qgo Qa
abbrev Qhc:SE:=.op .set EI (cn Jr (cn WU (cn WR Qgz)))
abbrev WQ:T Lf:=sp (.eq (a0 550 [Qo]) Q0) (ou [rr 550 [Qo] 0,Qa,Qa,Qa,Qa,Qa,Qa]) fl
abbrev Qhe:T Lf:=sp Qhb (ou [Qhc,Qm,bC,bU,Qa,Qa,pI]) WQ
abbrev Qhf:T Lf:=sp Qg7 Jh (sp Qg9 (sp Qha Qhe Jh) fl)
abbrev Qhg:SB:=.eq bC pI
abbrev Qhh:T Lf:=sp Qg7 (ou [.op .set EI (cn Jr (cn Qfy (cn WR Qgz))),Qm,bC,bU,Qa,Qa,pI]) Jh
abbrev Qhi:SB:=.eq bC (.lit 8)
abbrev Qhj:SB:=.eq bC Ar
abbrev Qhk:T Lf:=ou [Qhc,Qm,bC,bU,Q0,Qa,pI]
abbrev Qhl:T Lf:=ou [Qg1,Qm,bC,bU,Qa,Qa,pI]
abbrev Qhm:T Lf:=sp Qhb Qhk Qhl
abbrev Qhn:SB:=.eq bC wQ
abbrev Qho:T Lf:=sp Qhb Qhk (sp (.lt fE dO) WQ Qhl)
abbrev Qhp:SB:=.eq bC YN
abbrev Ui:SE:=ln Uj
abbrev Qhr:SB:=.lt Ui (.lit 17592186044415)
abbrev Qhs:SE:=cn WR (cn Qgt (cn Qgv (cn (.op .snoc Uj WU) Qgy)))
abbrev Qht:T Lf:=sp Qg7 Jh (sp Qg9 (sp Qha (sp Qhb (sp Qhr (ou [.op .set EI (cn Jr (cn Um Qhs)),Qm,bC,bU,Qa,Qa,pI]) fl) WQ) Jh) fl)
abbrev Qhu:SB:=.eq bC WT
abbrev Qhv:SB:=.eq (a0 850 [Uj,Qm]) Q0
abbrev Qhw:SE:=rr 850 [Uj,Qm] 0
abbrev Qhx:SE:=wr (.add Qhw Q0)
abbrev Qhy:SE:=.sub Ui Qhx
abbrev Qhz:SE:=.add Qhw Qhy
abbrev Qh0:SE:=.op .cat (.op .cat (.op .take Uj Qhw) (.op .drop (.op .take Uj (.add Qhx Qhy)) Qhx)) (.op .drop Uj Qhz)
abbrev Qh1:SE:=.op .fill Qh0 (cn (mk Qhz) lW)
abbrev Qh2:T Lf:=sp (.lt (.sub Ui Qhz) Qa) fl (sp (.eq (.add Qhz (.sub Ui Qhz)) (ln Qh0)) (sp (.lt (ln Qh1) Qhz) fl (ou [.op .set EI (cn Jr (cn Um (cn WR (cn Qgt (cn Qgv (cn (.op .take Qh1 Qhz) Qgy)))))),Qm,bC,bU,Qa,Qa,pI])) fl)
abbrev Qh3:T Lf:=sp Qhv (sp (.lt Qhw Qa) Jh (sp (.lt Qhx Qhw) fl (sp (.lt Ui Qhx) fl (sp (.lt Ui Ui) fl (sp (.eq Qhw Qhx) Qhl (sp (.lt Ui Qhw) fl (sp (.lt Qhx Qa) fl (sp (.lt Qhy Qa) fl (sp (.lt Ui (.add Qhx Qhy)) fl (sp (.lt Ui Qhz) fl (sp (.lt Qhz Qa) fl (sp (.lt Qhz Ui) (sp (.lt (ln Qh0) Ui) fl Qh2) Qh2)))))))))))) fl
abbrev Qh4:SE:=.lit 7
abbrev Qh5:SB:=.eq bC Qh4
abbrev Qh6:T Lf:=sp Qg7 Jh (sp Qg9 (sp Qha (sp (.eq Ui Qa) Qhe WQ) Jh) fl)
abbrev Qh7:SB:=.eq bC Qf1
abbrev Qh8:SE:=.op .set EI (cn Jr (cn Um (cn (mk (wr (.sub Wx Q0))) Qgz)))
abbrev Qh9:T Lf:=sp (.lt Qa Wx) (ou [Qh8,Qm,bC,bU,Qa,Qa,pI]) WQ
abbrev Qia:SB:=.eq bC (.lit 11)
abbrev Qib:T Lf:=sp (.lt Qa Wx) (ou [Qh8,Qm,bC,bU,Q0,Qa,pI]) Qhl
abbrev Qic:SE:=.lit 10
abbrev Qid:SB:=.eq bC Qic
abbrev Qie:SE:=nm (ce 2 (el Qf bU))
abbrev Qif:SE:=.op .set EI (cn Jr (cn Um (cn (mk (wr (.add Wx Q0))) Qgz)))
abbrev Qig:T Lf:=sp (.lt Wx Qie) (ou [Qif,Qm,bC,bU,Qa,Qa,pI]) Jh
abbrev Qih:SB:=.eq bC (.lit 17)
abbrev Qii:T Lf:=sp (.lt dO (wr (.sub Qa Wx))) Jh (sp (.lt (wr (.sub (.lit 1099511627776) Wx)) dO) Jh (ou [.op .set EI (cn Jr (cn Um (cn (mk (wr (.add Wx dO))) Qgz))),Qm,bC,bU,wr (.add Wx dO),Qa,pI]))
abbrev Qij:SB:=.eq bC (.lit 18)
abbrev Qik:T Lf:=sp (.lt Qa Wx) (ou [Qh8,Qm,bC,bU,wr (.sub Wx Q0),Qa,pI]) Jh
abbrev Qil:SB:=.eq bC (.lit 19)
abbrev Qim:T Lf:=sp (.eq Wx Qa) Qhl WQ
abbrev Qin:SB:=.eq bC (.lit 22)
abbrev Qio:T Lf:=ou [Qg1,Qm,bC,bU,Wx,Qa,pI]
abbrev Qip:SB:=.eq bC (.lit 23)
abbrev Qiq:T Lf:=ou [.op .set EI (cn Jr (cn Um (cn (mk dO) Qgz))),Qm,bC,bU,dO,Qa,pI]
abbrev WO:SE:=.lit 20
abbrev Qis:SB:=.eq bC WO
abbrev Qit:T Lf:=sp (.lt (ln Qgx) Qie) (sp (.lt (ln Qgx) (.lit 17592186044415)) (ou [.op .set EI (cn Jr (cn Um (cn WR (cn Qgt (cn Qgv (cn Uj (cn (.op .snoc Qgx (mk dO)) lW))))))),Qm,bC,bU,dO,Qa,pI]) fl) WQ
abbrev Qiu:SB:=.eq bC (.lit 21)
abbrev Qiv:SE:=.add Q0 (.sub (ln Qgx) Q0)
abbrev Qiw:T Lf:=sp (.eq (ln Qgx) Qa) WQ (sp (.lt (.sub (ln Qgx) Q0) Qa) fl (sp (.lt (ln Qgx) Qiv) fl (ou [.op .set EI (cn Jr (cn Um (cn WR (cn Qgt (cn Qgv (cn Uj (cn (.op .drop (.op .take Qgx Qiv) Q0) lW))))))),Qm,bC,bU,nm (el Qgx Qa),Qa,pI])))
abbrev Qix:SB:=.eq bC (.lit 12)
abbrev Qiy:SB:=.lt Qie Qa
abbrev Qiz:SB:=.lt Qie (ln EI)
abbrev Qi0:SB:=.eq Qie bU
abbrev Qi1:SE:=.lit (-1)
abbrev Qi2:List SE:=[Uj,Qm,bU,Qie,EI,bC,dO,fE,Qi1,Wx,Qgs,Qgu,Qgx]
abbrev Qi3:T Lf:=sp Qhr (ou [.op .set EI (cn Jr (cn Qfy Qhs)),Qm,bC,bU,Qa,Qa,Ar]) fl
abbrev Qi4:SE:=rr 12000 Qi2 14
abbrev Qi5:SE:=rr 12000 Qi2 15
abbrev Qi6:SE:=.add Qi4 Q0
abbrev Qi7:SE:=.op .snoc lW WU
abbrev Qi8:SE:=.op .cat (.op .cat (.op .take Qi5 Qi4) Qi7) (.op .drop Qi5 Qi6)
abbrev Qi9:SE:=nm (ce 0 (el EI Qie))
abbrev Qja:SB:=.eq Qi9 Qm
abbrev Qjb:SE:=.op .set EI (cn (mk Qie) (.op .set (el EI Qie) (cn lW Qfy)))
abbrev Qjc:List SE:=[Uj,Qm,bU,Qie,Qjb,bC,dO,fE,Qgo,Wx,Qgs,Qgu,Qgx]
abbrev Qjd:T Lf:=sp Qhr (ou [.op .set Qjb (cn Jr (cn Um Qhs)),Qm,bC,bU,Qa,Qa,Ar]) fl
abbrev Qje:SE:=rr 12000 Qjc 14
abbrev Qjf:SE:=rr 12000 Qjc 15
abbrev Qjg:SE:=.add Qje Q0
abbrev Qjh:SE:=.op .cat (.op .cat (.op .take Qjf Qje) Qi7) (.op .drop Qjf Qjg)
abbrev Qji:SE:=.op .set EI (cn Jr (cn Um (cn WR (cn Qgt (cn Qgv (cn Qh Qgy))))))
abbrev Qjj:SE:=.lit 24
abbrev Qjk:SE:=.lit 4611686018427387904
abbrev Qjl:SE:=.lit 25
abbrev YJ:SE:=.lit 16
abbrev Qjn:T Lf:=sp (.eq bC Qjj) (sp Qiy fl (sp Qiz (sp Qg9 (sp Qha (sp Qi0 Qhe (sp (.lt Qi9 Qa) (ou [.op .set (.op .set EI (cn (mk Qie) (.op .set (el EI Qie) (cn lW WU)))) Qg0,Qm,bC,bU,Qa,Qa,pI]) WQ)) WQ) fl) fl)) (sp (.eq bC (.lit 15)) (sp (.lt Qgu Qjk) (sp (.eq (wr (.add Wx Q0)) Qie) (ou [.op .set EI (cn Jr (cn Um (cn lW (cn Qgt (cn (mk (wr (.add Qgu Q0))) (cn Uj Qgy)))))),Qm,bC,bU,Qgu,Qa,Ar]) (ou [Qif,Qm,bC,bU,Qgu,Qa,Ar])) Jh) (sp (.eq bC Qjl) (sp (.lt dO Qgu) (ou [Qg1,Qm,bC,bU,dO,Qa,pI]) WQ) (sp (.eq bC YJ) (sp (.eq Qgs Qa) (sp Qg7 Jh (sp Qhb Qhk WQ)) Qhl) (sp (.eq bC (.lit 26)) (sp Qg7 (ou [.op .set EI (cn Jr (cn Qfy (cn WR (cn Qh (cn Qgv (cn Uj Qgy)))))),Qm,bC,bU,Qa,Qa,pI]) Jh) fl))))
abbrev Qjo:T Lf:=sp (.eq bC (.lit 13)) (sp (.eq Ui Qa) Qhl (sp (.lt (.sub Ui Q0) Qa) fl (sp (.lt Ui (.add Q0 (.sub Ui Q0))) fl (ou [.op .set EI (cn Jr (cn Um (cn WR (cn Qgt (cn Qgv (cn (.op .drop (.op .take Uj (.add Q0 (.sub Ui Q0))) Q0) Qgy)))))),Qm,bC,bU,wr (.add (nm (el Uj Qa)) Q0),Qa,pI])))) (sp (.eq bC (.lit 14)) (ou [Qji,Qm,bC,bU,Ui,Qa,pI]) Qjn)
abbrev Qjp:T Lf:=sp (.lt Qa Qie) (ou [.op .set EI (cn Jr (cn Um (cn WR (cn Qgt (cn Qgv (cn Uj (cn (.op .snoc lW (mk dO)) lW))))))),Qm,bC,bU,dO,Qa,pI]) WQ
abbrev Qjq:SE:=rr 12100 Qi2 14
abbrev Qjr:SE:=rr 12100 Qi2 15
abbrev Qjs:SE:=.add Qjq Q0
abbrev Qjt:SE:=.op .cat (.op .cat (.op .take Qjr Qjq) Qi7) (.op .drop Qjr Qjs)
abbrev Qju:SE:=rr 12100 Qjc 14
abbrev Qjv:SE:=rr 12100 Qjc 15
abbrev Qjw:SE:=.add Qju Q0
abbrev Qjx:SE:=.op .cat (.op .cat (.op .take Qjv Qju) Qi7) (.op .drop Qjv Qjw)
abbrev Qjy:SE:=cn WR (cn Qgt (cn Qgv (cn Qi7 Qgy)))
abbrev Qjz:T Lf:=sp Qg7 Jh (sp Qg9 (sp Qha (sp Qhb (ou [.op .set EI (cn Jr (cn Um Qjy)),Qm,bC,bU,Qa,Qa,pI]) WQ) Jh) fl)
abbrev Qj0:T Lf:=sp Qhv (sp (.lt Qhw Qa) Jh fl) fl
abbrev Qj1:T Lf:=ou [.op .set EI (cn Jr (cn Qfy Qjy)),Qm,bC,bU,Qa,Qa,Ar]
abbrev Qj2:T Lf:=ou [.op .set Qjb (cn Jr (cn Um Qjy)),Qm,bC,bU,Qa,Qa,Ar]
abbrev Qj3:T Lf:=sp (.eq bC (.lit 13)) Qhl (sp (.eq bC (.lit 14)) (ou [Qji,Qm,bC,bU,Qa,Qa,pI]) Qjn)
def kE:T Lf:=sp (.eq (a0 9000 Qgd) Q0) (sp (.eq Qge Qa) (sp Qff Qgj (sp Qgk fl Qgj)) (sp (.eq Qge Q0) (sp Qgf (sp Qgg Qgl (sp Qq Qgl (sp Qr (sp Qff Qgl Qgl) Qgl))) fl) (sp (.eq Qge pI) (sp Qgf (sp Qgg Qgm (sp Qq Qgm (sp Qr (sp Qff Qgm Qgm) Qgm))) fl) (sp (.eq Qge Ar) (sp Qgf (sp Qgg J4 (sp Qq J4 (sp Qr (sp Qff J4 (sp Qgk (sp Qg3 (sp Qg4 (sp Qg5 (sp Qg6 Qhf (sp Qhg Qhh (sp Qhi Qhh (sp Qhj Qhm (sp Qhn Qho (sp Qhp Qht (sp Qhu Qh3 (sp Qh5 Qh6 (sp Qh7 Qh9 (sp Qia Qib (sp Qid Qig (sp Qih Qii (sp Qij Qik (sp Qil Qim (sp Qin Qio (sp Qip Qiq (sp Qis Qit (sp Qiu Qiw (sp Qix (sp Qiy fl (sp Qiz (sp Qi0 (sp Qg7 (sp (.eq (a0 12000 Qi2) Q0) (sp (.eq (rr 12000 Qi2 0) Qa) Qi3 (sp (.eq (rr 12000 Qi2 0) Q0) (sp (.lt Qi4 Qa) fl (sp (.lt (ln Qi5) Qi6) fl (sp (.lt Qi6 Qa) fl (sp (.lt (ln Qi8) Qi6) fl (ou [.op .set EI (cn Jr (cn Qfy (cn WR (cn Qgt (cn Qgv (cn (.op .take Qi8 Qi6) Qgy)))))),Qm,bC,bU,Qa,Qa,Ar]))))) fl)) fl) Jh) (sp Qja (sp (.eq (a0 12000 Qjc) Q0) (sp (.eq (rr 12000 Qjc 0) Qa) Qjd (sp (.eq (rr 12000 Qjc 0) Q0) (sp (.lt Qje Qa) fl (sp (.lt (ln Qjf) Qjg) fl (sp (.lt Qjg Qa) fl (sp (.lt (ln Qjh) Qjg) fl (ou [.op .set Qjb (cn Jr (cn Um (cn WR (cn Qgt (cn Qgv (cn (.op .take Qjh Qjg) Qgy)))))),Qm,bC,bU,Qa,Qa,Ar]))))) fl)) fl) Jh)) fl)) Qjo))))))))))))))))))) J4) fl) fl) J4)) J4))) fl) (sp (.eq Qge wQ) (sp Qgf (sp Qgg J4 (sp Qq J4 (sp Qr (sp Qff J4 (sp Qgk (sp Qg3 (sp Qg4 (sp Qg5 (sp Qg6 Qhf (sp Qhg Qhh (sp Qhi Qhh (sp Qhj Qhm (sp Qhn Qho (sp Qhp Qht (sp Qhu Qh3 (sp Qh5 Qh6 (sp Qh7 Qh9 (sp Qia Qib (sp Qid Qig (sp Qih Qii (sp Qij Qik (sp Qil Qim (sp Qin Qio (sp Qip Qiq (sp Qis Qjp (sp Qiu WQ (sp Qix (sp Qiy fl (sp Qiz (sp Qi0 (sp Qg7 (sp (.eq (a0 12100 Qi2) Q0) (sp (.eq (rr 12100 Qi2 0) Qa) Qi3 (sp (.eq (rr 12100 Qi2 0) Q0) (sp (.lt Qjq Qa) fl (sp (.lt (ln Qjr) Qjs) fl (sp (.lt Qjs Qa) fl (sp (.lt (ln Qjt) Qjs) fl (ou [.op .set EI (cn Jr (cn Qfy (cn WR (cn Qgt (cn Qgv (cn (.op .take Qjt Qjs) Qgy)))))),Qm,bC,bU,Qa,Qa,Ar]))))) fl)) fl) Jh) (sp Qja (sp (.eq (a0 12100 Qjc) Q0) (sp (.eq (rr 12100 Qjc 0) Qa) Qjd (sp (.eq (rr 12100 Qjc 0) Q0) (sp (.lt Qju Qa) fl (sp (.lt (ln Qjv) Qjw) fl (sp (.lt Qjw Qa) fl (sp (.lt (ln Qjx) Qjw) fl (ou [.op .set Qjb (cn Jr (cn Um (cn WR (cn Qgt (cn Qgv (cn (.op .take Qjx Qjw) Qgy)))))),Qm,bC,bU,Qa,Qa,Ar]))))) fl)) fl) Jh)) fl)) Qjo))))))))))))))))))) J4) fl) fl) J4)) J4))) fl) (sp (.eq Qge YN) (sp Qgf (sp Qgg J4 (sp Qq J4 (sp Qr (sp Qff J4 (sp Qgk (sp Qg3 (sp Qg4 (sp Qg5 (sp Qg6 Qhf (sp Qhg Qhh (sp Qhi Qhh (sp Qhj Qhm (sp Qhn Qho (sp Qhp Qjz (sp Qhu Qj0 (sp Qh5 Qhf (sp Qh7 Qh9 (sp Qia Qib (sp Qid Qig (sp Qih Qii (sp Qij Qik (sp Qil Qim (sp Qin Qio (sp Qip Qiq (sp Qis Qit (sp Qiu Qiw (sp Qix (sp Qiy fl (sp Qiz (sp Qi0 (sp Qg7 (sp (.eq (a0 12200 Qi2) Q0) (sp (.eq (rr 12200 Qi2 0) Qa) Qj1 fl) fl) Jh) (sp Qja (sp (.eq (a0 12200 Qjc) Q0) (sp (.eq (rr 12200 Qjc 0) Qa) Qj2 fl) fl) Jh)) fl)) Qj3))))))))))))))))))) J4) fl) fl) J4)) J4))) fl) (sp (.eq Qge WT) (sp Qgf (sp Qgg J4 (sp Qq J4 (sp Qr (sp Qff J4 (sp Qgk (sp Qg3 (sp Qg4 (sp Qg5 (sp Qg6 Qhf (sp Qhg Qhh (sp Qhi Qhh (sp Qhj Qhm (sp Qhn Qho (sp Qhp Qjz (sp Qhu Qj0 (sp Qh5 Qhf (sp Qh7 Qh9 (sp Qia Qib (sp Qid Qig (sp Qih Qii (sp Qij Qik (sp Qil Qim (sp Qin Qio (sp Qip Qiq (sp Qis Qjp (sp Qiu WQ (sp Qix (sp Qiy fl (sp Qiz (sp Qi0 (sp Qg7 (sp (.eq (a0 12300 Qi2) Q0) (sp (.eq (rr 12300 Qi2 0) Qa) Qj1 fl) fl) Jh) (sp Qja (sp (.eq (a0 12300 Qjc) Q0) (sp (.eq (rr 12300 Qjc 0) Qa) Qj2 fl) fl) Jh)) fl)) Qj3))))))))))))))))))) J4) fl) fl) J4)) J4))) fl) fl))))))) fl
abbrev Qj4:T Lf:=ju 451 [Qf,sZ,Qa,Qb]
def axG:T Lf:=sp (.lt (.lit 64) sZ) Qj4 (sp (.lt YJ Qc) Qj4 (ju 452 [Qf,sZ,Qa,Qb]))
abbrev Qj5:T Lf:=ju 451 [Qf,Qb,mJ,Qm]
def aoR:T Lf:=sp yL (sp wP fl (sp Wy Qj5 fl)) (ju 453 [Qm,Uk,Qa,Qf])
abbrev Qj6:List SE:=[Qf,Qm,Qf5,Un,Qf4,Qf7,nm Qf8]
def aoQ:T Lf:=sp yL (sp wP fl (sp Wy (sp (.eq (a0 700 Qj6) Q0) (sp (.eq (rr 700 Qj6 0) Qa) Qj5 (ju 452 [Qf,Qb,mJ,Qm])) fl) fl)) (ju 454 [Qm,Uk,Qa,Qf])
abbrev Qj7:List SE:=[Qa,Qf,Qb,Qo,Qm,ce 0 YK,Un,ce 2 YK]
def aoP:T Lf:=sp yL (sp wP fl (sp Wy (ju 455 Qj7) fl)) (ou [.lit 120])
def aoO:T Lf:=sp yL (sp wP fl (sp Wy (sp (.lt (.lit 120) (ln Un)) (ju 455 Qj7) (sp (.lt (.lit 4000) (ln (ce 2 YK))) (ju 455 Qj7) (ju 456 Qj7))) fl)) dK
abbrev Qj8:T Lf:=ju 453 [Qb,Qo,Q1,bC]
def aoN:T Lf:=sp (.lt Qf (ln fE)) Qj8 Qj8
abbrev Qj9:SE:=el fE Qf
abbrev Qka:List SE:=[bC,Qb,bU,dO,fE,nm (ce 0 Qj9),nm (ce 1 Qj9),nm (ce 2 Qj9),nm (ce 3 Qj9),nm (ce 4 Qj9),nm (ce 5 Qj9),ce 6 Qj9]
abbrev Qkb:SE:=wr (.add Qf Q0)
abbrev Qkc:List SE:=[ce 6 Qj9,bU,dO,fE]
abbrev Qkd:List SE:=[Qkb,Qb,Qo,Qm,bC,rr 5000 Qkc 0,rr 5000 Qkc 1,rr 5000 Qkc 2]
def aoM:T Lf:=sp (.lt Qf (ln fE)) (sp (.lt Qf Qa) fl (sp (.eq (a0 750 Qka) Q0) (sp (.eq (rr 750 Qka 0) Qa) (ju 455 [Qkb,Qb,Qo,Qm,bC,bU,dO,fE]) (sp (.eq (a0 5000 Qkc) Q0) (sp (.eq (rr 5000 Qkc 3) Qa) (ju 456 Qkd) (ju 455 Qkd)) fl)) fl)) (ju 454 [Qb,Qo,Q1,bC])
abbrev Qke:List SE:=[Qf,Qb,Qo,Qm,bC]
abbrev Qkf:SB:=.lt fZ Qa
abbrev Qkg:SB:=.lt Qa (ln gU)
abbrev Qkh:SB:=.eq Qf wQ
abbrev Qki:SB:=.lt Qa (ln kJ)
abbrev Qkj:SB:=.eq fE Qa
abbrev Qkk:T Lf:=ju 501 [lN,gU,ln gU,Qa,Qf,Qb,Qo,Qm,bC,bU,dO,fE,fZ,kJ,lW]
abbrev Qkl:T Lf:=sp (.lt Qa fZ) dK Qkk
abbrev Qkm:T Lf:=sp Qki dK (sp Qkj Qkl dK)
abbrev Qkn:SB:=.eq Qf pI
abbrev Qko:SB:=.eq Qf (.lit 8)
abbrev Qkp:SB:=.eq Qf YN
abbrev Qkq:SB:=.eq Qf Q0
abbrev Qkr:T Lf:=sp (.lt bU Qi1) dK (sp (.lt bU lN) (sp Qkf dK (sp (.lt Qjk fZ) dK (sp Qff (sp Qkg (sp Qkh Qkm (sp Qkn Qkm dK)) (sp Qki (sp Qko (sp Qkj Qkl dK) dK) (sp Qkj (sp (.lt Qa fZ) (sp Qkp Qkk dK) Qkk) (sp (.eq Qf WT) Qkl dK)))) (sp Qkq (sp Qkg dK Qkm) (sp Qkn (sp Qkg Qkm Qkm) (sp (.eq Qf WT) (sp Qkg dK (sp Qki dK (sp Qkj Qkl Qkl))) dK)))))) dK)
def axF:T Lf:=sp (.eq (a0 650 Qke) Q0) (sp (.eq (rr 650 Qke 1) Qa) Qkr (sp (.lt dO Qa) dK (sp (.lt (rr 650 Qke 0) dO) dK Qkr))) fl
abbrev Qks:SE:=.op .norm (mk (nm Qs)) Qa
abbrev Qkt:T Lf:=ju 501 [Qf,Qb,Qo,Q1,bC,bU,dO,fE,fZ,gU,kJ,lN,qW,oQ,.op .Ei qU (cn Qks Qh)]
abbrev Qku:SE:=ln oQ
abbrev Qkv:SB:=.lt gU Qa
abbrev Qkw:T Lf:=sp Qkv qB (sp (.eq Qc Qa) (sp (.eq lN Qa) qB dK) dK)
def aoL:T Lf:=sp Qp (sp Qq fl (sp Qr (sp (.lt (nm Qs) Qa) dK (sp (.lt (nm Qs) Qf) (sp (.eq (.op .Lm qU Qks) Qa) Qkt (sp (.eq (nm (.op .Lp qU Qks)) Q0) dK Qkt)) dK)) fl)) (sp (.lt dO Qa) (sp (.lt Qa Qku) dK Qkw) (sp (.lt dO Qku) dK Qkw))
abbrev Qkx:SB:=.lt sZ (.lit 1759218604441)
abbrev Qky:SB:=.eq (.op .norm Qf Qa) Qh
abbrev Qkz:SB:=.eq (.op .norm Qf Qa) Qk
def afH:T Lf:=sp Qfw (sp Qkx (ju 551 [Qf,sZ,Qa]) fl) (sp Qky (ju 552 []) (sp Qkz (ju 553 []) fl))
abbrev Qk0:SB:=.lt Qa (ln Qf9)
abbrev Qk1:SB:=.lt (ln Qf9) Qv
abbrev Qk2:SE:=.op .set Qf (cn EH (.op .set YK (cn Qbd Qf8)))
abbrev Qk3:SE:=.op .set Qf (cn EH (.op .set YK Qbl))
abbrev Qk4:SE:=.op .set Qf (cn EH (.op .set YK Qbq))
def aoK:T Lf:=sp yL (sp wP fl (sp Wy (sp (.lt Qa (ln Qf8)) (sp (.lt (ln Qf8) Qv) (sp Qk0 (sp Qk1 (ju 551 [.op .set Qk2 (cn EH (.op .set (el Qk2 Qo) (cn Qbf Qf9))),Qb,mJ]) fl) (sp (.eq Qf9 Qh) (ju 551 [.op .set Qk2 (cn EH (.op .set (el Qk2 Qo) Qbh)),Qb,mJ]) (sp (.eq Qf9 Qk) (ju 551 [.op .set Qk2 (cn EH (.op .set (el Qk2 Qo) Qbj)),Qb,mJ]) fl))) fl) (sp (.eq Qf8 Qh) (sp Qk0 (sp Qk1 (ju 551 [.op .set Qk3 (cn EH (.op .set (el Qk3 Qo) (cn Qbf Qf9))),Qb,mJ]) fl) (sp (.eq Qf9 Qh) (ju 551 [.op .set Qk3 (cn EH (.op .set (el Qk3 Qo) Qbh)),Qb,mJ]) (sp (.eq Qf9 Qk) (ju 551 [.op .set Qk3 (cn EH (.op .set (el Qk3 Qo) Qbj)),Qb,mJ]) fl))) (sp (.eq Qf8 Qk) (sp Qk0 (sp Qk1 (ju 551 [.op .set Qk4 (cn EH (.op .set (el Qk4 Qo) (cn Qbf Qf9))),Qb,mJ]) fl) (sp (.eq Qf9 Qh) (ju 551 [.op .set Qk4 (cn EH (.op .set (el Qk4 Qo) Qbh)),Qb,mJ]) (sp (.eq Qf9 Qk) (ju 551 [.op .set Qk4 (cn EH (.op .set (el Qk4 Qo) Qbj)),Qb,mJ]) fl))) fl))) fl)) (ou Qj)
def aBk:T Lf:=ou [Qh]
def aBj:T Lf:=ou [Qk]
abbrev Qk5:SB:=.eq Qf Ar
abbrev Qk6:T Lf:=ou [pI]
abbrev Qk7:T Lf:=ou [wQ]
def axE:T Lf:=sp (.lt (wr Qf) (.lit 27)) (sp (.lt Qf Qa) fl (sp (.lt Qf (.lit 27)) (sp (.eq Qf Qa) dK (sp Qkq qB (sp Qkn qB (sp Qk5 qB (sp Qkh qB (sp Qkp Qk6 (sp (.eq Qf WT) Qk6 (sp (.eq Qf Qh4) Qk6 (sp Qko Qk6 (sp (.eq Qf Qf1) (ou [Ar]) (sp (.eq Qf Qic) (ou [Ar]) (sp (.eq Qf (.lit 11)) (ou [Ar]) (sp (.eq Qf (.lit 12)) Qk7 (sp (.eq Qf (.lit 13)) Qk7 (sp (.eq Qf (.lit 14)) Qk7 (sp (.eq Qf (.lit 15)) (ou [YN]) (sp (.eq Qf YJ) (ou [WT]) (sp (.eq Qf (.lit 17)) (ou [Qh4]) (sp (.eq Qf (.lit 18)) (ou [Qh4]) (sp (.eq Qf (.lit 19)) (ou [Qh4]) (sp (.eq Qf WO) (ou [.lit 8]) (sp (.eq Qf (.lit 21)) (ou [.lit 8]) (sp (.eq Qf (.lit 22)) (ou [Qf1]) (sp (.eq Qf (.lit 23)) (ou [Qf1]) (sp (.eq Qf Qjj) Qk7 (sp (.eq Qf Qjl) (ou [YN]) (ou [WT]))))))))))))))))))))))))))) fl)) dK
def axD:T Lf:=sp Qk5 (ou [Qo,Q0]) (sp Qkp (ou [wr (.sub Qo Q0),Q0]) (sp (.eq Qf Qh4) (ou [.lit 1099511627776,Q0]) (sp (.eq Qf Qf1) (ou [Qa,Qa]) (ou [Qa,Q0]))))
abbrev Qk8:T Lf:=sp (.eq bC Qa) qB dK
abbrev Qk9:T Lf:=sp Qe8 dK (sp (.lt (.lit 1048576) bC) dK qB)
abbrev Qla:SB:=.lt bC Qa
def axC:T Lf:=sp (.eq Qo Q0) Qk8 (sp (.eq Qo pI) Qk8 (sp (.eq Qo WT) Qk8 (sp (.eq Qo Qh4) Qk8 (sp (.eq Qo Ar) Qk9 (sp (.eq Qo (.lit 8)) Qk9 (sp (.eq Qo YN) (sp Qe8 dK (sp (.lt YJ bC) dK qB)) (sp (.eq Qo wQ) (sp Qla dK (sp (.lt bC sZ) (sp (.eq (nm (ce 0 (el Qf bC))) Q0) qB dK) dK)) (sp (.eq Qo Qf1) qB dK))))))))
abbrev Qlb:SB:=.lt fE Qa
abbrev Qlc:SB:=.eq bU Q0
abbrev Qld:SB:=.eq bU pI
abbrev Qle:SB:=.eq bU Ar
abbrev Qlf:SB:=.eq bU wQ
abbrev Qlg:SB:=.eq bU YN
abbrev Qlh:T Lf:=sp (.eq bU WT) dK (sp (.eq bU Qh4) dK dK)
abbrev Qli:T Lf:=sp Qle dK (sp Qlf dK (sp Qlg dK Qlh))
abbrev Qlj:SB:=.lt fE sZ
abbrev Qlk:SE:=nm (ce 0 (el Qf fE))
abbrev Qll:List SE:=[Qlk,bU,dO,fE,fZ,gU,kJ,lN,Qa]
abbrev Qlm:T Lf:=sp (.eq dO YJ) dK qB
abbrev Qln:T Lf:=sp (.eq (a0 950 Qll) Q0) (sp (.eq (rr 950 Qll 0) Qa) dK Qlm) fl
abbrev Qlo:T Lf:=sp Qlj (sp (.eq Qlk WT) qB dK) dK
abbrev Qlp:T Lf:=sp (.eq (ln lN) Q0) qB dK
abbrev Qlq:T Lf:=sp (.lt Qdh gU) dK Qlp
abbrev Qlr:T Lf:=sp (.lt Qdh gU) dK qB
abbrev Qls:T Lf:=sp Qle dK (sp Qlf Qlq (sp Qlg Qlr Qlh))
abbrev Qlt:T Lf:=sp (.eq dO YJ) Qlr qB
abbrev Qlu:T Lf:=sp (.eq (a0 950 Qll) Q0) (sp (.eq (rr 950 Qll 0) Qa) dK Qlt) fl
abbrev Qlv:SB:=.lt fZ Uk
abbrev Qlw:T Lf:=sp Qle (sp Qlv Qlp dK) (sp Qlf dK (sp Qlg dK (sp (.eq bU WT) (sp Qlv qB dK) (sp (.eq bU Qh4) (sp Qlv dK dK) dK))))
abbrev Qlx:List SE:=[Qlk,bU,dO,fE,fZ,gU,kJ,lN,Q0]
abbrev Qly:T Lf:=sp Qle (sp Qlv Qlp dK) (sp Qlf Qlq (sp Qlg Qlr (sp (.eq bU WT) (sp Qlv qB dK) (sp (.eq bU Qh4) (sp Qlv Qlr dK) dK))))
def axB:T Lf:=sp Qkf (sp Qkv (sp Qlb (sp Qlc dK (sp Qld dK Qli)) (sp Qlc (sp Qlj Qln dK) (sp Qld Qlo Qli))) (sp Qlb (sp Qlc dK (sp Qld dK Qls)) (sp Qlc (sp Qlj Qlu dK) (sp Qld Qlo Qls)))) (sp Qkv (sp Qlb (sp Qlc dK (sp Qld dK Qlw)) (sp Qlc (sp Qlj (sp Qlv (sp (.eq (a0 950 Qlx) Q0) (sp (.eq (rr 950 Qlx 0) Qa) dK Qlm) fl) Qln) dK) (sp Qld Qlo Qlw))) (sp Qlb (sp Qlc dK (sp Qld dK Qly)) (sp Qlc (sp Qlj (sp Qlv (sp (.eq (a0 950 Qlx) Q0) (sp (.eq (rr 950 Qlx 0) Qa) dK Qlt) fl) Qlu) dK) (sp Qld Qlo Qly))))
abbrev Qlz:List SE:=[Qf,Qb,Qo,Qm,Q0,.lit 1000,bC]
def axA:T Lf:=sp (.eq (a0 5050 Qlz) Q0) (sp (.eq (rr 5050 Qlz 2) Qa) dK qB) fl
def awZ:T Lf:=ju 851 [Qf,Qb,sZ,Qa]
def afB:T Lf:=sp Qp (sp Qq fl (sp (.lt Qm sZ) (sp (.eq Qb (nm Qfb)) (ou [Qm]) (ju 851 Qfo)) fl)) (ou [Qi1])
def awY:T Lf:=sp (.eq (a0 850 Du) Q0) (sp (.lt (rr 850 Du 0) Qa) dK qB) fl
abbrev Wv:SB:=.eq fZ Qa
abbrev Ql1:List SE:=[Qf,ln fE,Qb,Qo,Qm,bC,bU,dO,fE]
def awX:T Lf:=sp Wv (ju 951 Ql1) (ju 952 Ql1)
abbrev Ql2:SE:=cn Qh (cn lW (cn lW (cn Qh lW)))
abbrev Ql3:List SE:=[Qf,Qb,Q0,Qo,Qm,bC,bU,dO,fE,fZ,.op .snoc lW Ql2]
abbrev Ql4:List SE:=[Qf,Q0,Qa,Qa,Qm,Qa,Qa]
abbrev Ql5:SB:=.eq (a0 1200 [Qm]) Q0
abbrev Ql6:SB:=.eq Qf (rr 1200 [Qm] 0)
abbrev Ql7:List SE:=[Qf,lW]
abbrev Ql8:SB:=.eq (a0 5150 Ql7) Q0
abbrev Ql9:SB:=.eq (rr 5150 Ql7 2) Qa
abbrev Qma:T Lf:=sp (.eq Qm YJ) qB qB
abbrev Qmb:T Lf:=sp Ql5 (sp Ql6 (sp Ql8 (sp Ql9 dK (sp (.lt WO (ln (rr 5150 Ql7 1))) dK Qma)) fl) dK) fl
abbrev Qmc:T Lf:=sp (.eq (a0 12400 Ql4) Q0) (sp (.eq (rr 12400 Ql4 0) Qa) dK (sp (.eq (rr 12400 Ql4 0) Q0) Qmb fl)) fl
abbrev Qmd:List SE:=[Qa,Qa,Qf,Qa,Qa,Qa,Qm,Qa,Qa]
abbrev Qme:SB:=.eq (a0 5200 Ql7) Q0
abbrev Qmf:SB:=.eq (rr 5200 Ql7 3) Qa
abbrev Qmg:List SE:=[Qf,Qa,Qa,Qa,Qm,Qa,Qa]
abbrev Qmh:T Lf:=sp Qk5 Qmc (sp Qko Qmc (sp Qkp Qmc (sp Qkh (sp (.eq (a0 12450 Qmd) Q0) (sp (.eq (rr 12450 Qmd 0) Qa) dK (sp (.eq (rr 12450 Qmd 0) Q0) (sp Ql5 (sp Ql6 (sp Qme (sp Qmf dK (sp (.lt WO (ln (rr 5200 Ql7 2))) dK Qma)) fl) dK) fl) fl)) fl) (sp (.eq (a0 12400 Qmg) Q0) (sp (.eq (rr 12400 Qmg 0) Qa) dK (sp (.eq (rr 12400 Qmg 0) Q0) Qmb fl)) fl))))
abbrev Qmi:SB:=.eq (rr 12500 Ql4 0) Qa
abbrev Qmj:SB:=.eq (rr 12500 Ql4 0) Q0
abbrev Qmk:SE:=.dat (.p (.i 97) (.i 0))
abbrev Qml:SE:=cn Qmk Qh
abbrev Qmm:SB:=.lt WO (ln (.op .Ei (rr 5150 Ql7 1) Qml))
abbrev Qmn:T Lf:=sp Ql5 (sp Ql6 (sp Ql8 (sp Ql9 dK (sp Qmm dK (sp (.eq Qm YJ) dK dK))) fl) dK) fl
abbrev Qmo:T Lf:=sp (.eq (a0 12500 Ql4) Q0) (sp Qmi dK (sp Qmj Qmn fl)) fl
abbrev Qmp:SB:=.eq (rr 12550 Qmd 0) Qa
abbrev Qmq:SB:=.eq (rr 12550 Qmd 0) Q0
abbrev Qmr:SB:=.lt WO (ln (.op .Ei (rr 5200 Ql7 2) Qml))
abbrev Qms:SB:=.eq (rr 12500 Qmg 0) Qa
abbrev Qmt:SB:=.eq (rr 12500 Qmg 0) Q0
def aoJ:T Lf:=sp Qfv (ju 953 Ql3) (sp (.eq bU Qi1) Qmh (sp Qk5 Qmo (sp Qko Qmo (sp Qkp Qmo (sp Qkh (sp (.eq (a0 12550 Qmd) Q0) (sp Qmp dK (sp Qmq (sp Ql5 (sp Ql6 (sp Qme (sp Qmf dK (sp Qmr dK (sp (.eq Qm YJ) dK dK))) fl) dK) fl) fl)) fl) (sp (.eq (a0 12500 Qmg) Q0) (sp Qms dK (sp Qmt Qmn fl)) fl))))))
abbrev Qmu:T Lf:=sp Ql5 (sp Ql6 (sp Ql8 (sp Ql9 dK (sp Qmm dK Qma)) fl) dK) fl
abbrev Qmv:T Lf:=sp (.eq (a0 12500 Ql4) Q0) (sp Qmi dK (sp Qmj Qmu fl)) fl
def aoI:T Lf:=sp Qfv (ju 954 Ql3) (sp (.eq bU Qi1) Qmh (sp Qk5 Qmv (sp Qko Qmv (sp Qkp Qmv (sp Qkh (sp (.eq (a0 12550 Qmd) Q0) (sp Qmp dK (sp Qmq (sp Ql5 (sp Ql6 (sp Qme (sp Qmf dK (sp Qmr dK Qma)) fl) dK) fl) fl)) fl) (sp (.eq (a0 12500 Qmg) Q0) (sp Qms dK (sp Qmt Qmu fl)) fl))))))
abbrev Qmw:SB:=.lt (ln kJ) (.lit 2513169434915)
abbrev Qmx:List SE:=[Qf,Qb,mJ,Qm,bC,bU,dO,fE,fZ,gU,.op .snoc kJ Ql2]
abbrev Qmy:List SE:=[Qf,Q0,Qa,Qa,bC,Qa,kJ,Qa]
abbrev Qmz:SB:=.eq (a0 1200 [bC]) Q0
abbrev Qm0:SB:=.eq Qf (rr 1200 [bC] 0)
abbrev Qm1:List SE:=[rr 12600 Qmy 9,rr 12600 Qmy 10,Qf,lW]
abbrev Qm2:T Lf:=sp (.eq bC YJ) qB qB
abbrev Qm3:T Lf:=sp (.eq (a0 12600 Qmy) Q0) (sp (.eq (rr 12600 Qmy 0) Qa) dK (sp (.eq (rr 12600 Qmy 0) Q0) (sp Qmz (sp Qm0 (sp (.eq (a0 5300 Qm1) Q0) (sp (.eq (rr 5300 Qm1 3) Qa) dK (sp (.lt WO (ln (rr 5300 Qm1 2))) dK Qm2)) fl) dK) fl) fl)) fl
abbrev Qm4:List SE:=[Qa,Qa,Qf,Qa,Qa,Qa,bC,Qa,kJ,Qa]
abbrev Qm5:List SE:=[rr 12650 Qm4 11,rr 12650 Qm4 12,Qf,lW]
abbrev Qm6:List SE:=[Qf,Qa,Qa,Qa,bC,Qa,kJ,Qa]
abbrev Qm7:List SE:=[rr 12600 Qm6 9,rr 12600 Qm6 10,Qf,lW]
abbrev Qm8:T Lf:=sp Qk5 Qm3 (sp Qko Qm3 (sp Qkp Qm3 (sp Qkh (sp (.eq (a0 12650 Qm4) Q0) (sp (.eq (rr 12650 Qm4 0) Qa) dK (sp (.eq (rr 12650 Qm4 0) Q0) (sp Qmz (sp Qm0 (sp (.eq (a0 5350 Qm5) Q0) (sp (.eq (rr 5350 Qm5 4) Qa) dK (sp (.lt WO (ln (rr 5350 Qm5 3))) dK Qm2)) fl) dK) fl) fl)) fl) (sp (.eq (a0 12600 Qm6) Q0) (sp (.eq (rr 12600 Qm6 0) Qa) dK (sp (.eq (rr 12600 Qm6 0) Q0) (sp Qmz (sp Qm0 (sp (.eq (a0 5300 Qm7) Q0) (sp (.eq (rr 5300 Qm7 3) Qa) dK (sp (.lt WO (ln (rr 5300 Qm7 2))) dK Qm2)) fl) dK) fl) fl)) fl))))
abbrev Qm9:SB:=.eq (rr 12700 Qmy 0) Qa
abbrev Qna:SB:=.eq (rr 12700 Qmy 0) Q0
abbrev Qnb:List SE:=[rr 12700 Qmy 9,rr 12700 Qmy 10,Qf,lW]
abbrev Qnc:SB:=.eq (rr 5300 Qnb 3) Qa
abbrev Qnd:SB:=.lt WO (ln (.op .Ei (rr 5300 Qnb 2) Qml))
abbrev Qne:T Lf:=sp (.eq bC YJ) dK dK
abbrev Qnf:T Lf:=sp (.eq (a0 12700 Qmy) Q0) (sp Qm9 dK (sp Qna (sp Qmz (sp Qm0 (sp (.eq (a0 5300 Qnb) Q0) (sp Qnc dK (sp Qnd dK Qne)) fl) dK) fl) fl)) fl
abbrev Qng:SB:=.eq (rr 12750 Qm4 0) Qa
abbrev Qnh:SB:=.eq (rr 12750 Qm4 0) Q0
abbrev Qni:List SE:=[rr 12750 Qm4 11,rr 12750 Qm4 12,Qf,lW]
abbrev Qnj:SB:=.eq (rr 5350 Qni 4) Qa
abbrev Qnk:SB:=.lt WO (ln (.op .Ei (rr 5350 Qni 3) Qml))
abbrev Qnl:SB:=.eq (rr 12700 Qm6 0) Qa
abbrev Qnm:SB:=.eq (rr 12700 Qm6 0) Q0
abbrev Qnn:List SE:=[rr 12700 Qm6 9,rr 12700 Qm6 10,Qf,lW]
abbrev Qno:SB:=.eq (rr 5300 Qnn 3) Qa
abbrev Qnp:SB:=.lt WO (ln (.op .Ei (rr 5300 Qnn 2) Qml))
def uY:T Lf:=sp yL (sp Qmw (ju 953 Qmx) fl) (sp (.eq dO Qi1) Qm8 (sp Qk5 Qnf (sp Qko Qnf (sp Qkp Qnf (sp Qkh (sp (.eq (a0 12750 Qm4) Q0) (sp Qng dK (sp Qnh (sp Qmz (sp Qm0 (sp (.eq (a0 5350 Qni) Q0) (sp Qnj dK (sp Qnk dK Qne)) fl) dK) fl) fl)) fl) (sp (.eq (a0 12700 Qm6) Q0) (sp Qnl dK (sp Qnm (sp Qmz (sp Qm0 (sp (.eq (a0 5300 Qnn) Q0) (sp Qno dK (sp Qnp dK Qne)) fl) dK) fl) fl)) fl))))))
abbrev Qnq:T Lf:=sp (.eq (a0 12700 Qmy) Q0) (sp Qm9 dK (sp Qna (sp Qmz (sp Qm0 (sp (.eq (a0 5300 Qnb) Q0) (sp Qnc dK (sp Qnd dK Qm2)) fl) dK) fl) fl)) fl
def uX:T Lf:=sp yL (sp Qmw (ju 954 Qmx) fl) (sp (.eq dO Qi1) Qm8 (sp Qk5 Qnq (sp Qko Qnq (sp Qkp Qnq (sp Qkh (sp (.eq (a0 12750 Qm4) Q0) (sp Qng dK (sp Qnh (sp Qmz (sp Qm0 (sp (.eq (a0 5350 Qni) Q0) (sp Qnj dK (sp Qnk dK Qm2)) fl) dK) fl) fl)) fl) (sp (.eq (a0 12700 Qm6) Q0) (sp Qnl dK (sp Qnm (sp Qmz (sp Qm0 (sp (.eq (a0 5300 Qnn) Q0) (sp Qno dK (sp Qnp dK Qm2)) fl) dK) fl) fl)) fl))))))
def agH:T Lf:=sp (.eq (a0 1050 [Qf,Qa]) Q0) (sp (.eq (rr 1050 [Qf,Qa] 6) Qa) (sp (.eq (rr 1050 [Qf,Qa] 0) pI) (sp (.eq (wr (.sub (rr 1050 [Qf,Qa] 5) (rr 1050 [Qf,Qa] 4))) sZ) qB dK) dK) dK) fl
abbrev Qnr:T Lf:=ou [Qa,lW,Qa,Qa,Qa,Qa,pI,Qa]
abbrev YI:SE:=rr 12800 Du 3
abbrev Qnt:SE:=wr (.add (.op .cnt (.op .sub Qf (cn lW (cn (mk YI) lW))) Qic) Q0)
abbrev Qnu:SE:=rr 12850 [Qf,YI] 3
abbrev Qnv:SE:=.op .sub Qf (cn (mk YI) (cn (mk Qnu) lW))
abbrev Qnw:SE:=nm (el Qnv Qa)
abbrev Qnx:SE:=.lit 256
abbrev Qny:SE:=nm (el (.dat b0) Qnw)
abbrev Qnz:T Lf:=ou [Qa,lW,Qa,Qa,Qa,Qa,.lit 100,Qnt]
abbrev Qn0:SE:=.dat (.p (.i 32) (.i 0))
abbrev Qn1:SB:=.eq (.op .norm Qnv Qa) (.dat (.p (.i 61) (.i 0)))
def UG:T Lf:=sp (.lt (.lit 16384) sZ) (ou [Qa,lW,Qa,Qa,Qa,Qa,Ar,Qa]) (sp Qe1 Qnr (sp (.lt sZ Qb) Qnr (sp (.eq (a0 12800 Du) Q0) (sp (.eq (rr 12800 Du 0) Qa) (sp (.lt YI Qa) fl (sp (.lt sZ YI) fl (sp (.eq YI sZ) (ou [YN,lW,Qa,Qnt,YI,YI,Qa,Qa]) (sp (.eq (a0 12850 [Qf,YI]) Q0) (sp (.eq (rr 12850 [Qf,YI] 0) Qa) (sp (.lt Qnu YI) fl (sp (.lt sZ Qnu) fl (sp (.lt Qa (ln Qnv)) (sp (.lt Qnw Qa) fl (sp (.lt Qnw Qnx) (sp (.eq Qny Ar) (sp (.eq (a0 1100 [Qnv]) Q0) (sp (.eq (rr 1100 [Qnv] 1) Qa) Qnz (ou [Q0,lW,rr 1100 [Qnv] 0,Qnt,YI,Qnu,Qa,Qa])) fl) (sp (.eq Qny wQ) (sp (.lt (ln Qnv) (.lit 1000000000)) (sp (.lt (ln (.op .cat Qn0 Qnv)) (.lit 1000000000)) (sp (.eq (.op .con (.dat b1) (.op .cat (.op .cat Qn0 Qnv) Qn0)) Qa) (sp Qn1 Qnz (ou [pI,Qnv,Qa,Qnt,YI,Qnu,Qa,Qa])) (sp Qn1 Qnz (ou [Ar,Qnv,Qa,Qnt,YI,Qnu,Qa,Qa]))) fl) fl) (sp (.eq Qny YN) (sp Qn1 Qnz (ou [wQ,Qnv,Qa,Qnt,YI,Qnu,Qa,Qa])) Qnz))) fl)) fl))) fl) fl)))) fl) fl)))
def agG:T Lf:=sp (.eq sZ Qa) (ju 1101 []) (ju 1102 [Qa,Qf,sZ,Qa])
def atW:T Lf:=ou [Qa,Q0]
abbrev Qn2:SE:=wr (.wrap .u8 (.sub (nm Qs) (.lit 48)))
def Zj:T Lf:=sp Qp (sp Qq fl (sp Qr (sp (.lt (wr (.quo (wr (.sub (.lit 9223372036854775807) Qn2)) Qic)) Qf) (ou [Qa,Qa]) (ju 1102 [wr (.add (wr (.mul Qf Qic)) Qn2),Qb,Qo,Q1])) fl)) (ou [Qf,Q0])
abbrev Qn3:SB:=.eq (rr 1000 [Qb] 0) Qa
abbrev Qn4:SE:=wr (.sub Uk Q0)
abbrev Qn5:SE:=.dat (.p (.i 45) (.i 0))
abbrev Qn6:SE:=.dat (.p (.i 43) (.i 0))
abbrev Qn7:SE:=.dat (.p (.i 42) (.i 0))
abbrev Qn8:SE:=.dat (.p (.i 61) (.p (.i 61) (.i 0)))
abbrev Qn9:SE:=.dat (.p (.i 60) (.i 0))
def agF:T Lf:=sp Qkq (sp wP dK (sp (.eq Qg lW) (sp (.eq Uk Qa) qB dK) dK)) (sp Qkn (sp (.eq Qo Qa) (sp (.eq Uk Qa) (sp (.eq (a0 1000 [Qb]) Q0) (sp Qn3 dK qB) fl) dK) dK) (sp Qk5 (sp (.eq Qo Qa) (sp (.lt Uk Q0) dK (sp (.lt pI Uk) dK (sp (.lt Qn4 Qa) fl (sp (.lt Qn4 pI) (sp (.eq Qn4 Qa) (sp (.eq Qg Qn5) qB dK) (sp (.eq Qg Qn6) qB (sp (.eq Qg Qn5) qB (sp (.eq Qg Qn7) qB (sp (.eq Qg Qn8) qB (sp (.eq Qg Qn9) qB dK)))))) fl)))) dK) dK))
def agE:T Lf:=sp (.lt wQ Qf) (sp (.lt (.lit 8) Qf) (sp (.lt (.lit 11) Qf) (sp (.lt (.lit 14) Qf) (sp (.eq Qf (.lit 15)) (ou [YN]) (sp (.eq Qf YJ) (ou [WT]) (sp (.lt (.lit 19) Qf) (sp (.lt (.lit 21) Qf) (ou [Qf1]) (ou [.lit 8])) (ou [Qh4])))) Qk7) (ou [Ar])) Qk6) qB
def agD:T Lf:=sp Qkh qB (sp (.eq Qf (.lit 17)) qB (sp (.eq Qf WO) qB (sp (.eq Qf (.lit 23)) qB dK)))
def agC:T Lf:=sp Qk5 qB (sp Qkh qB (sp (.eq Qf (.lit 11)) qB (sp (.eq Qf (.lit 21)) qB (sp (.eq Qf (.lit 22)) qB dK))))
def agB:T Lf:=sp Qk5 qB (sp Qkp qB (sp Qko qB (sp (.eq Qf Qf1) qB dK)))
abbrev Qoa:T Lf:=sp Qkh (sp (.eq (a0 1000 [Qm]) Q0) (sp (.eq (rr 1000 [Qm] 0) Qa) dK qB) fl) (sp (.eq (.op .norm Qm Qa) lW) qB dK)
def agA:T Lf:=sp (.lt Qf Q0) dK (sp (.lt Qf1 Qf) dK (sp (.eq (a0 1000 [Qb]) Q0) (sp Qn3 dK (sp wP dK (sp (.lt Qa Qo) (sp (.eq (a0 1350 Qj) Q0) (sp (.eq (rr 1350 Qj 0) Qa) dK Qoa) fl) Qoa))) fl))
def Zi:T Lf:=sp Qft (sp Qfu (sp (.eq (a0 300 Du) Q0) (ju 1451 [Qb,Qc,rr 300 Du 0]) fl) (ou [Qh,Qh,rr 450 Du 0])) fl
abbrev Qob:SE:=ln (ce 1 (el Qf Qa))
abbrev Qoc:SE:=cn lW (cn lW (cn lW (cn lW lW)))
def UF:T Lf:=sp Qfv (sp Qfw (sp (.eq Qob Qa) (ju 1452 [Qf,Qb,Q0,Qo,.op .snoc lW (cn lW (cn Qk Qoc))]) (sp (.lt Qob Qv) (ju 1452 [Qf,Qb,Q0,Qo,.op .snoc lW (cn lW (cn (.op .rep Qob lW) Qoc))]) fl)) fl) (ou [Qo,Qh,Qa])
abbrev Qod:SB:=.lt Qdh (.lit 2199023255551)
abbrev Qoe:T Lf:=ou [Qm,bC,Qa]
def UE:T Lf:=sp yL (sp wP fl (sp Wy (sp (.eq (ln Un) Qa) (sp Qod (ju 1452 [Qf,Qb,mJ,Qm,.op .snoc bC (cn lW (cn Qk Qoc))]) fl) (sp (.lt (ln Un) Qv) (sp Qod (ju 1452 [Qf,Qb,mJ,Qm,.op .snoc bC (cn lW (cn (.op .rep (ln Un) lW) Qoc))]) fl) fl)) fl)) Qoe
def afZ:T Lf:=sp Qgf (sp Qgg dK (sp (.eq Uk Qc) (ju 1501 [Qm,Uk,Qa,Qf,Qb]) dK)) fl
abbrev Qof:List SE:=[Qm,bC,ce 0 Qdk,Qdl,ce 2 Qdk,Qf5,Un,Qf4,nm Qf7,nm Qf8,nm Qf9]
def Zh:T Lf:=sp yL (sp wP fl (sp Wy (sp Qdj (sp (.eq (a0 1600 Qof) Q0) (sp (.eq (rr 1600 Qof 0) Qa) dK (ju 1501 [Qf,Qb,mJ,Qm,bC])) fl) fl) fl)) qB
abbrev Qog:List SE:=[Qf,Qb,Qo,Qm]
def afY:T Lf:=sp Qla dK (sp (.lt bC Qc) (sp (.eq (a0 1500 Qog) Q0) (sp (.eq (rr 1500 Qog 0) Qa) dK qB) fl) dK)
def afX:T Lf:=sp Qff dK (sp (.lt Qdh bU) dK (sp (.eq (ln dO) Uk) (sp (.lt kJ Qa) dK (sp (.lt Qjk kJ) dK (sp Qkj (sp Wv (sp (.eq gU Qa) qB dK) dK) (sp (.eq fE Qjj) (sp Qkf dK (sp (.lt fZ sZ) (sp (.eq (nm (ce 0 (el Qf fZ))) wQ) qB dK) dK)) (sp (.eq fE Qjl) (sp Qkf dK (sp (.lt fZ sZ) (sp (.eq (nm (ce 0 (el Qf fZ))) YN) qB dK) dK)) dK))))) dK))
abbrev Qoh:SE:=el Qm bC
abbrev Qoi:SE:=nm (ce 2 Qoh)
abbrev Qoj:SE:=nm (ce 0 Qoh)
def afW:T Lf:=sp Qla fl (sp (.lt bC Uk) (sp (.eq Qoi Qa) (sp (.lt bC Qc) (sp (.eq Qoj (ln (ce 2 (el Qb bC)))) qB dK) fl) dK) fl)
abbrev Qok:SB:=.eq (a0 1550 Qke) Q0
abbrev Qol:SB:=.eq (rr 1550 Qke 0) Qa
abbrev Qom:SB:=.eq (rr 1650 Qke 0) Qa
abbrev Qon:SE:=el (ce 2 (el Qb bC)) Qoj
abbrev Qoo:T Lf:=ou [Qa,Qa,Qa,Qa,Qa]
def Ko:T Lf:=sp Qla fl (sp (.lt bC Uk) (sp (.eq Qoi Qa) (sp (.eq (a0 1650 Qke) Q0) (sp Qom (sp (.lt bC Qc) (sp (.lt Qoj Qa) fl (sp (.lt Qoj (ln (ce 2 (el Qb bC)))) (sp (.eq (nm (ce 0 Qon)) Q0) (ju 1751 [ce 6 Qon,ln (ce 6 Qon),Qa,Qoj,ce 1 Qoh,Qoi,nm (ce 3 Qoh),nm (ce 4 Qoh),nm (ce 5 Qoh),nm (ce 1 Qon),nm (ce 2 Qon),Qa]) (sp (.eq (nm (ce 0 Qon)) pI) (ou [.lit 26,nm (ce 2 Qon),Qa,Qa,Q0]) Qoo)) fl)) fl) Qoo) fl) (ou [Qoi,nm (ce 3 Qoh),nm (ce 4 Qoh),Qa,Q0])) fl)
def Zg:T Lf:=sp yL (sp wP fl (sp Wy (sp (.eq (a0 1950 [Qf5,Un,Qf4,Qf7,bC]) Q0) (ju 1751 [Qf,Qb,mJ,Qm,bC,bU,dO,fE,fZ,gU,kJ,rr 1950 [Qf5,Un,Qf4,Qf7,bC] 0]) fl) fl)) (ou [gU,kJ,lN,fZ,Q0])
abbrev WM:List SE:=[bC,Qo,Qm]
abbrev Jg:SE:=rr 9050 WM 0
abbrev QY:SE:=rr 9050 WM 2
abbrev Qos:SE:=rr 9050 WM 3
abbrev Qot:List SE:=[Qf,Qb,QY,Qos,bC]
abbrev Qou:List SE:=[Qf,Qb,QY,Qh,bC]
abbrev Qov:List SE:=[Qf,Qb,QY,Qk,bC]
abbrev Qow:SE:=rr 9050 WM 4
abbrev Qox:SE:=rr 9050 WM 5
abbrev Qoy:SE:=rr 9050 WM 6
abbrev Qoz:SE:=rr 9050 WM 7
abbrev Qo0:SE:=rr 9050 WM 8
abbrev Qo1:SE:=rr 9050 WM 9
abbrev Qo2:SE:=cn (mk Qoy) (cn (mk Qoz) (cn (mk Qo0) (cn (mk Qo1) lW)))
abbrev Qo3:SE:=.op .set Qos (cn (mk bC) (cn (mk Qow) (cn Qox Qo2)))
abbrev Qo4:T Lf:=ou [QY,Qo3,Qa,Qa,Qa,Qa,Qa,Qa]
abbrev Qo5:List SE:=[Qf,Qb,QY,Qo3,bC]
abbrev Qo6:SB:=.eq (rr 1650 Qo5 0) Qa
abbrev Qo7:SB:=.eq (rr 1750 Qo5 4) Qa
abbrev Qo8:List SE:=[Qf,Qb,bC,QY,Qos,Qow,Qox,Qoy,Qoz,Qo0,Qo1]
abbrev Qo9:List SE:=[Qf,Qb,bC,rr 1750 Qo5 0,rr 1750 Qo5 1,rr 1750 Qo5 2,rr 1750 Qo5 3,QY,Qos,Qow,Qox,Qoy,Qoz,Qo0,Qo1]
abbrev Qpa:T Lf:=ou [QY,Qo3,Qa,Qa,Qa,Qa,Qa,wQ]
abbrev Qpb:SB:=.lt Qc (.lit 2199023255552)
abbrev Qpc:List SE:=[sZ,Qa,Qf]
def Ox:T Lf:=sp Qfw (sp Qkx (sp Qd (sp Qpb (ju 1901 [sZ,Qa,Qf,Qb]) fl) (sp Qi (ju 1902 Qpc) (sp Ql (ju 1903 Qpc) fl))) fl) (sp Qky (sp Qd (sp Qpb (ju 1904 [Qb]) fl) (sp Qi (ju 1905 []) (sp Ql (ju 1906 []) fl))) (sp Qkz (sp Qd (sp Qpb (ju 1907 [Qb]) fl) (sp Qi (ju 1908 []) (sp Ql (ju 1909 []) fl))) fl))
abbrev Qpd:SB:=.lt Qb Qf
abbrev Qpe:SB:=.lt Qb WA
abbrev Qpf:SE:=el Qo Qb
abbrev Qpg:SE:=ce 4 Qpf
abbrev Qph:SB:=.lt Qa (ln Qpg)
abbrev Qpi:SB:=.lt (ln Qpg) Qv
abbrev Qpj:SE:=ce 5 Qpf
abbrev Qpk:SB:=.lt Qa (ln Qpj)
abbrev Qpl:SB:=.lt (ln Qpj) Qv
abbrev QW:SE:=mk Qb
abbrev Qpn:SE:=.op .set Qo (cn QW (.op .set Qpf (cn Qbd Qpg)))
abbrev Qpo:SE:=.op .set Qpn (cn QW (.op .set (el Qpn Qb) (cn Qbf Qpj)))
abbrev Qpp:SB:=.eq Qpj Qh
abbrev Qpq:SE:=.op .set Qpn (cn QW (.op .set (el Qpn Qb) Qbh))
abbrev Qpr:SB:=.eq Qpj Qk
abbrev Qps:SE:=.op .set Qpn (cn QW (.op .set (el Qpn Qb) Qbj))
abbrev Qpt:SE:=.op .set Qo (cn QW (.op .set Qpf Qbl))
abbrev Qpu:SE:=.op .set Qpt (cn QW (.op .set (el Qpt Qb) (cn Qbf Qpj)))
abbrev Qpv:SE:=.op .set Qpt (cn QW (.op .set (el Qpt Qb) Qbh))
abbrev Qpw:SE:=.op .set Qpt (cn QW (.op .set (el Qpt Qb) Qbj))
abbrev Qpx:SE:=.op .set Qo (cn QW (.op .set Qpf Qbq))
abbrev Qpy:SE:=.op .set Qpx (cn QW (.op .set (el Qpx Qb) (cn Qbf Qpj)))
abbrev Qpz:SE:=.op .set Qpx (cn QW (.op .set (el Qpx Qb) Qbh))
abbrev Qp0:SE:=.op .set Qpx (cn QW (.op .set (el Qpx Qb) Qbj))
def Zf:T Lf:=sp Qpd (sp Qe1 fl (sp Qpe (sp Qph (sp Qpi (sp Qpk (sp Qpl (ju 1901 [Qf,wO,Qpo,Qm]) fl) (sp Qpp (ju 1901 [Qf,wO,Qpq,Qm]) (sp Qpr (ju 1901 [Qf,wO,Qps,Qm]) fl))) fl) (sp (.eq Qpg Qh) (sp Qpk (sp Qpl (ju 1901 [Qf,wO,Qpu,Qm]) fl) (sp Qpp (ju 1901 [Qf,wO,Qpv,Qm]) (sp Qpr (ju 1901 [Qf,wO,Qpw,Qm]) fl))) (sp (.eq Qpg Qk) (sp Qpk (sp Qpl (ju 1901 [Qf,wO,Qpy,Qm]) fl) (sp Qpp (ju 1901 [Qf,wO,Qpz,Qm]) (sp Qpr (ju 1901 [Qf,wO,Qp0,Qm]) fl))) fl))) fl)) (ju 1910 [Uk,Qa,Qo,Qm])
def Ze:T Lf:=sp Qpd (sp Qe1 fl (sp Qpe (sp Qph (sp Qpi (sp Qpk (sp Qpl (ju 1902 [Qf,wO,Qpo]) fl) (sp Qpp (ju 1902 [Qf,wO,Qpq]) (sp Qpr (ju 1902 [Qf,wO,Qps]) fl))) fl) (sp (.eq Qpg Qh) (sp Qpk (sp Qpl (ju 1902 [Qf,wO,Qpu]) fl) (sp Qpp (ju 1902 [Qf,wO,Qpv]) (sp Qpr (ju 1902 [Qf,wO,Qpw]) fl))) (sp (.eq Qpg Qk) (sp Qpk (sp Qpl (ju 1902 [Qf,wO,Qpy]) fl) (sp Qpp (ju 1902 [Qf,wO,Qpz]) (sp Qpr (ju 1902 [Qf,wO,Qp0]) fl))) fl))) fl)) (ju 1911 [Qo])
def atV:T Lf:=sp Qpd (sp Qe1 fl (sp Qpe (sp Qph (sp Qpi (sp Qpk (sp Qpl (ju 1903 [Qf,wO,Qpo]) fl) (sp Qpp (ju 1903 [Qf,wO,Qpq]) (sp Qpr (ju 1903 [Qf,wO,Qps]) fl))) fl) (sp (.eq Qpg Qh) (sp Qpk (sp Qpl (ju 1903 [Qf,wO,Qpu]) fl) (sp Qpp (ju 1903 [Qf,wO,Qpv]) (sp Qpr (ju 1903 [Qf,wO,Qpw]) fl))) (sp (.eq Qpg Qk) (sp Qpk (sp Qpl (ju 1903 [Qf,wO,Qpy]) fl) (sp Qpp (ju 1903 [Qf,wO,Qpz]) (sp Qpr (ju 1903 [Qf,wO,Qp0]) fl))) fl))) fl)) (ju 1912 [Qo])
def afV:T Lf:=ju 1913 Qpc
def atU:T Lf:=ju 1914 []
def atT:T Lf:=ju 1915 []
def atS:T Lf:=ju 1916 Qpc
def atQ:T Lf:=ju 1917 []
def atP:T Lf:=ju 1918 []
abbrev Qp1:SE:=el Qm Qb
abbrev Qp2:SE:=ce 1 Qp1
def Zd:T Lf:=sp Qpd (sp Qe1 fl (sp (.lt Qb Uk) (sp (.lt Qa (ln Qp2)) (sp (.lt (ln Qp2) Qv) (ju 1910 [Qf,wO,Qo,.op .set Qm (cn QW (.op .set Qp1 (cn Qh Qp2)))]) fl) (sp (.eq Qp2 Qh) (ju 1910 [Qf,wO,Qo,.op .set Qm (cn QW (.op .set Qp1 Qdx))]) (sp (.eq Qp2 Qk) (ju 1910 [Qf,wO,Qo,.op .set Qm (cn QW (.op .set Qp1 Qdz))]) fl))) fl)) (ou [Qo,Qm])
def atO:T Lf:=ou [Qf,Qh]
def atN:T Lf:=ou [Qf,Qk]
abbrev Qp3:SE:=ce 1 Qpf
abbrev Qp4:List SE:=[Qf,wO,.op .set Qo (cn QW (.op .set Qpf (cn Qh Qp3)))]
abbrev Qp5:List SE:=[Qf,wO,.op .set Qo (cn QW (.op .set Qpf Qdx))]
abbrev Qp6:List SE:=[Qf,wO,.op .set Qo (cn QW (.op .set Qpf Qdz))]
def Zc:T Lf:=sp Qpd (sp Qe1 fl (sp Qpe (sp (.lt Qa (ln Qp3)) (sp (.lt (ln Qp3) Qv) (ju 1913 Qp4) fl) (sp (.eq Qp3 Qh) (ju 1913 Qp5) (sp (.eq Qp3 Qk) (ju 1913 Qp6) fl))) fl)) (ou [Qh,Qo])
def atM:T Lf:=ou [Qh,Qh]
def atL:T Lf:=ou [Qh,Qk]
def atK:T Lf:=sp Qpd (sp Qe1 fl (sp Qpe (sp (.lt Qa (ln Qp3)) (sp (.lt (ln Qp3) Qv) (ju 1916 Qp4) fl) (sp (.eq Qp3 Qh) (ju 1916 Qp5) (sp (.eq Qp3 Qk) (ju 1916 Qp6) fl))) fl)) (ou [Qk,Qo])
def atJ:T Lf:=ou [Qk,Qh]
def atI:T Lf:=ou [Qk,Qk]
abbrev Qp7:SE:=el Qm Qa
abbrev Qp8:List SE:=[nm (ce 0 Qp7),ce 1 Qp7,nm (ce 2 Qp7),ce 3 Qp7,bC]
abbrev Qp9:SE:=rr 1950 Qp8 0
abbrev Qqa:SE:=el Qm Q0
abbrev Qqb:List SE:=[nm (ce 0 Qqa),ce 1 Qqa,nm (ce 2 Qqa),ce 3 Qqa,bC]
abbrev Qqc:SE:=rr 1950 Qqb 0
abbrev Qqd:SE:=.op .Ei (.op .Ei (.op .Ei lW (cn Qn6 (mk (wr (.add Qp9 Qqc))))) (cn Qn5 (mk (wr (.sub Qp9 Qqc))))) (cn Qn7 (mk (wr (.mul Qp9 Qqc))))
abbrev Qqe:T Lf:=sp (.eq (.op .Lm Qqd Qg) Qa) dK (ou [nm (.op .Lp Qqd Qg)])
def UD:T Lf:=sp Qkq (ou [Qo]) (sp Qkn (sp wP dK (sp Qdj (ou [nm Qdk]) dK)) (sp Qk5 (sp (.eq Uk Q0) (sp (.eq Qg Qn5) (sp (.eq (a0 1950 Qp8) Q0) (ou [wr (.sub Qa Qp9)]) fl) dK) (sp (.eq Uk pI) (sp (.eq (a0 1950 Qp8) Q0) (sp (.eq (a0 1950 Qqb) Q0) (sp (.eq Qg Qn8) (sp (.eq Qp9 Qqc) qB Qqe) (sp (.eq Qg Qn9) (sp (.lt Qp9 Qqc) qB Qqe) Qqe)) fl) fl) dK)) dK))
abbrev Qqf:List SE:=[bC,Qf,Qb,Qo,Qm,bU,dO,fE,fZ,QY]
abbrev Qqg:List SE:=[bC,Qa,Qf,Qb,Qo,Qm,bU,dO,fE,fZ,QY,Qos,Qow,Qox,Qoy,Qoz,Qo0,Qo1]
def J9:T Lf:=sp (.eq (a0 9050 WM) Q0) (sp (.eq Jg Qa) (sp Qok (sp Qol (ou [QY,Qos,Qa]) (ju 2001 [bC,Qf,Qb,Qo,Qm,bU,dO,fE,fZ,QY,Qos])) fl) (sp (.eq Jg Q0) (sp Qok (sp Qol (ou [QY,Qh,Qa]) (ju 2002 Qqf)) fl) (sp (.eq Jg pI) (sp Qok (sp Qol (ou [QY,Qk,Qa]) (ju 2003 Qqf)) fl) (sp (.eq Jg Ar) (sp Qok (sp Qol (ou [QY,Qo3,Qa]) (ju 2004 Qqg)) fl) (sp (.eq Jg wQ) (sp Qok (sp Qol (ou [QY,Qo3,Qa]) (ju 2005 Qqg)) fl) fl))))) fl
abbrev Qqh:List SE:=[Qb,Qo,gU,kJ,Qf]
abbrev Qqi:T Lf:=sp Qlf (sp Qkj fl fl) fl
abbrev Qqj:T Lf:=sp (.eq (a0 1900 [Qm,bC]) Q0) (ou [rr 1900 [Qm,bC] 0,rr 1900 [Qm,bC] 1,Qa]) fl
def atH:T Lf:=sp (.eq (a0 1650 Qqh) Q0) (sp (.eq (rr 1650 Qqh 0) Qa) (sp (.eq (a0 1750 Qqh) Q0) (sp (.eq (rr 1750 Qqh 4) Qa) fl Qqi) fl) Qqj) fl
abbrev Qqk:List SE:=[Qb,Qo,gU,Qh,Qf]
def atG:T Lf:=sp (.eq (a0 1650 Qqk) Q0) (sp (.eq (rr 1650 Qqk 0) Qa) (sp (.eq (a0 1750 Qqk) Q0) (sp (.eq (rr 1750 Qqk 4) Qa) fl Qqi) fl) Qqj) fl
abbrev Qql:List SE:=[Qb,Qo,gU,Qk,Qf]
def atF:T Lf:=sp (.eq (a0 1650 Qql) Q0) (sp (.eq (rr 1650 Qql 0) Qa) (sp (.eq (a0 1750 Qql) Q0) (sp (.eq (rr 1750 Qql 4) Qa) fl Qqi) fl) Qqj) fl
abbrev Qqm:T Lf:=sp (.eq (a0 1900 [bC,bU]) Q0) (ou [rr 1900 [bC,bU] 0,rr 1900 [bC,bU] 1,Qa]) fl
abbrev rV:List SE:=[Qo,Qm,kJ,.op .set lN (cn (mk Qf) (cn (mk qW) (cn oQ (cn (mk qU) (cn (mk WS) (cn (mk Qfn) (cn (mk Qfh) lW))))))),Qf]
abbrev J3:SB:=.eq (rr 1650 rV 0) Qa
abbrev Oa:SB:=.eq (rr 1750 rV 4) Qa
abbrev Qqq:List SE:=[Qo,Qm,Qf,kJ,lN,qW,oQ,qU,WS,Qfn,Qfh]
abbrev lC:List SE:=[Qo,Qm,Qf,rr 1750 rV 0,rr 1750 rV 1,rr 1750 rV 2,Qjk,kJ,lN,qW,oQ,qU,WS,Qfn,Qfh]
abbrev fU:List SE:=[Qo,Qm,Qf,rr 1750 rV 0,rr 1750 rV 1,rr 1750 rV 2,Qa,kJ,lN,qW,oQ,qU,WS,Qfn,Qfh]
abbrev Qqt:T Lf:=sp (.eq (a0 14500 fU) Q0) (sp (.eq (rr 14500 fU 0) Qa) (sp (.eq (rr 14500 fU 21) Qa) Qqm (sp (.and (.eq (rr 14500 fU 16) Qf) (.and (.eq (rr 14500 fU 17) dO) (.and (.eq (rr 14500 fU 18) fE) (.and (.eq (rr 14500 fU 19) fZ) (.eq (rr 14500 fU 20) gU))))) (ou [rr 14500 fU 22,.op .set lN (cn (mk Qf) (cn (mk (rr 14500 fU 23)) (cn (rr 14500 fU 24) (cn (mk (rr 14500 fU 25)) (cn (mk (rr 14500 fU 26)) (cn (mk (rr 14500 fU 27)) (cn (mk (rr 14500 fU 28)) lW))))))),Q0]) Qqm)) fl) fl
def Ov:T Lf:=sp (.lt (.lit 20000) Qb) Qqm (sp (.eq (a0 1650 rV) Q0) (sp J3 (sp (.eq (a0 1750 rV) Q0) (sp Oa (sp (.eq (a0 14000 Qqq) Q0) (sp (.eq (rr 14000 Qqq 0) Qa) (ju 2004 [Qf,wO,Qo,Qm,bC,bU,dO,fE,fZ,gU,kJ,lN,rr 14000 Qqq 12,rr 14000 Qqq 13,qU,WS,Qfn,Qfh]) fl) fl) (sp (.eq dO wQ) (sp Wv (sp (.eq (a0 14500 lC) Q0) (sp (.eq (rr 14500 lC 0) Qa) (sp (.eq (rr 14500 lC 21) Qa) Qqm (sp (.and (.eq (rr 14500 lC 16) Qf) (.and (.eq (rr 14500 lC 17) dO) (.and (.eq (rr 14500 lC 18) fE) (.and (.eq (rr 14500 lC 19) fZ) (.eq (rr 14500 lC 20) gU))))) (ou [rr 14500 lC 22,.op .set lN (cn (mk Qf) (cn (mk (rr 14500 lC 23)) (cn (rr 14500 lC 24) (cn (mk (rr 14500 lC 25)) (cn (mk (rr 14500 lC 26)) (cn (mk (rr 14500 lC 27)) (cn (mk (rr 14500 lC 28)) lW))))))),Q0]) Qqm)) fl) fl) Qqt) Qqt)) fl) Qqm) fl)
abbrev Qqu:T Lf:=sp (.eq (a0 14550 fU) Q0) (sp (.eq (rr 14550 fU 0) Qa) (sp (.eq (rr 14550 fU 21) Qa) Qqm (sp (.and (.eq (rr 14550 fU 16) Qf) (.and (.eq (rr 14550 fU 17) dO) (.and (.eq (rr 14550 fU 18) fE) (.and (.eq (rr 14550 fU 19) fZ) (.eq (rr 14550 fU 20) gU))))) (ou [rr 14550 fU 22,.op .set lN (cn (mk Qf) (cn (mk (rr 14550 fU 23)) (cn oQ (cn (mk (rr 14550 fU 24)) (cn (mk (rr 14550 fU 25)) (cn (mk (rr 14550 fU 26)) (cn (mk (rr 14550 fU 27)) lW))))))),Q0]) Qqm)) fl) fl
def Ou:T Lf:=sp (.lt (.lit 20000) Qb) Qqm (sp (.eq (a0 1650 rV) Q0) (sp J3 (sp (.eq (a0 1750 rV) Q0) (sp Oa (sp (.eq (a0 14050 Qqq) Q0) (sp (.eq (rr 14050 Qqq 0) Qa) (ju 2005 [Qf,wO,Qo,Qm,bC,bU,dO,fE,fZ,gU,kJ,lN,rr 14050 Qqq 12,oQ,qU,WS,Qfn,Qfh]) fl) fl) (sp (.eq dO wQ) (sp Wv (sp (.eq (a0 14550 lC) Q0) (sp (.eq (rr 14550 lC 0) Qa) (sp (.eq (rr 14550 lC 21) Qa) Qqm (sp (.and (.eq (rr 14550 lC 16) Qf) (.and (.eq (rr 14550 lC 17) dO) (.and (.eq (rr 14550 lC 18) fE) (.and (.eq (rr 14550 lC 19) fZ) (.eq (rr 14550 lC 20) gU))))) (ou [rr 14550 lC 22,.op .set lN (cn (mk Qf) (cn (mk (rr 14550 lC 23)) (cn oQ (cn (mk (rr 14550 lC 24)) (cn (mk (rr 14550 lC 25)) (cn (mk (rr 14550 lC 26)) (cn (mk (rr 14550 lC 27)) lW))))))),Q0]) Qqm)) fl) fl) Qqu) Qqu)) fl) Qqm) fl)
def Zb:T Lf:=sp (.eq (a0 1450 Du) Q0) (sp (.eq (rr 1450 Du 2) Qa) (ju 2151 [Qo,WA,Qa,Qf,Qb,rr 1450 Du 0,rr 1450 Du 1]) (ou [Qh,Qh,Qa])) fl
abbrev Qqv:List SE:=[Qm,bC,bU,dO,Qf5,nm Un,Qf4,nm Qf7,nm Qf8]
def UC:T Lf:=sp yL (sp wP fl (sp Wy (sp (.eq (a0 2000 Qqv) Q0) (sp (.eq (rr 2000 Qqv 2) Qa) (ou [bU,dO,Qo]) (ju 2151 [Qf,Qb,mJ,Qm,bC,rr 2000 Qqv 0,rr 2000 Qqv 1])) fl) fl)) (ou [bU,dO,sZ])
abbrev Qqw:SE:=.op .take Qo (.lit 80)
abbrev Qqx:SE:=.op .take Qo WA
def UA:T Lf:=sp (.eq (a0 100 Du) Q0) (sp (.eq (rr 100 Du 0) Qa) (sp (.lt (.lit 80) WA) (sp (.eq (a0 2150 [Qf,Qb,Qqw]) Q0) (ju 2201 [Qqw,rr 2150 [Qf,Qb,Qqw] 2,wr (.add (ln Qqw) Q0),Qa,Qf,Qb]) fl) (sp (.lt WA WA) fl (sp (.eq (a0 2150 [Qf,Qb,Qqx]) Q0) (ju 2201 [Qqx,rr 2150 [Qf,Qb,Qqx] 2,wr (.add (ln Qqx) Q0),Qa,Qf,Qb]) fl))) qB) fl
abbrev Qqy:SE:=rr 2150 [bC,bU,.op .take Qf Qm] 2
abbrev Qqz:T Lf:=ju 2201 [Qf,Qb,Qo,Q1,bC,bU]
def Za:T Lf:=sp Qp (sp (.lt sZ Qm) fl (sp Qq fl (sp (.eq (a0 2150 [bC,bU,.op .take Qf Qm]) Q0) (sp (.lt Qm Qb) (sp (.eq Qqy Qm) Qqz dK) (sp (.eq Qqy Qb) Qqz dK)) fl))) (sp (.lt sZ Qb) dK qB)
def afS:T Lf:=sp (.eq (a0 5400 Qog) Q0) (sp (.lt (rr 5400 Qog 3) Qa) (ou [rr 5400 Qog 0,rr 5400 Qog 1,rr 5400 Qog 2,Qa]) (ou [rr 5400 Qog 0,rr 5400 Qog 1,rr 5400 Qog 2,Q0])) fl
abbrev Qq0:SE:=wr (.sub bU Q0)
def afR:T Lf:=sp (.lt Qq0 Qa) (ou [Qq0,dO,Qa]) (sp (.lt WO bC) (ou [Qq0,dO,Qa]) (ju 5051 [bC,Qm,Uk,Qa,Qq0,dO,Qf,Qb,Qo]))
abbrev Qq1:List SE:=[Qfc,ce 1 Qs,Qfe,ce 3 Qs,Qkb,bC,bU]
abbrev Qq2:SE:=.op .norm fE Qa
abbrev Qq3:T Lf:=ou [bC,bU,Qa]
abbrev Qq4:T Lf:=ou [bC,bU,Q0]
def Y9:T Lf:=sp Qp (sp Qq fl (sp Qr (sp (.eq (a0 5050 Qq1) Q0) (sp (.eq (rr 5050 Qq1 2) Qa) (ou [rr 5050 Qq1 0,rr 5050 Qq1 1,Qa]) (ju 5051 [Qf,Qb,Qo,Q1,rr 5050 Qq1 0,rr 5050 Qq1 1,dO,fE,fZ])) fl) fl)) (sp (.eq dO Q0) (sp (.eq Qc Qa) (sp (.eq Qq2 lW) (sp Qkf Qq3 Qq4) Qq3) Qq3) (sp (.eq dO pI) (sp (.eq Qc Qa) (sp Qkf Qq3 (sp (.lt fZ bU) (sp (.eq (a0 12900 [fE,Qa]) Q0) (sp (.eq (rr 12900 [fE,Qa] 0) Qa) Qq3 (sp (.eq (rr 12900 [fE,Qa] 0) Q0) Qq4 fl)) fl) Qq3)) Qq3) (sp (.eq dO Ar) (sp Wv (sp (.eq Qc Q0) (sp (.eq Qq2 Qn5) Qq4 Qq3) (sp (.eq Qc pI) (sp (.eq Qq2 Qn6) Qq4 (sp (.eq Qq2 Qn5) Qq4 (sp (.eq Qq2 Qn7) Qq4 (sp (.eq Qq2 Qn8) Qq4 (sp (.eq Qq2 Qn9) Qq4 Qq3))))) Qq3)) Qq3) Qq3)))
def afQ:T Lf:=ju 5101 Du
def atE:T Lf:=ou [Qb]
def afP:T Lf:=ju 5151 Du
def atD:T Lf:=ou [Qf,Qb,Q0]
def afO:T Lf:=ju 5201 Du
def atC:T Lf:=ou [Q0,Qf,Qb,Q0]
def afN:T Lf:=ju 5251 [Qb,Qf,sZ,Qa,Qo]
abbrev Qq5:SB:=.lt (.lit 1000) (wr (.add bC Q0))
abbrev Qq6:SB:=.eq (a0 1150 [Qfc,ce 1 Qs,Qfe,ce 3 Qs]) Q0
abbrev Qq7:SB:=.eq (rr 1150 [Qfc,ce 1 Qs,Qfe,ce 3 Qs] 0) Qa
abbrev Qq8:List SE:=[ce 3 Qs,Qkb,wr (.add bC Q0)]
abbrev Qq9:List SE:=[Qf,Qb,Qo,Q1,rr 5450 Qq8 0]
def Y8:T Lf:=sp Qp (sp Qq fl (sp Qr (sp Qq5 fl (sp (.lt WO Qf) fl (sp Qq6 (sp Qq7 fl (sp (.eq (a0 5450 Qq8) Q0) (ju 5251 Qq9) fl)) fl))) fl)) (ou [bC,Qb])
def afM:T Lf:=ju 5301 [Qf,Qa,Qb,Qo,Qm]
abbrev Qra:SB:=.eq (nm (ce 0 Qpf)) pI
abbrev Qrb:List SE:=[ce 3 Qpf,Qm,bC]
abbrev Qrc:T Lf:=sp (.eq (a0 5500 Qrb) Q0) (sp (.eq (rr 5500 Qrb 2) Qa) (ou [Qo,rr 5500 Qrb 0,rr 5500 Qrb 1,Qa]) (ju 5301 [Qf,wO,Qo,rr 5500 Qrb 0,rr 5500 Qrb 1])) fl
def Y7:T Lf:=sp Qpd (sp Qe1 fl (sp Qpe (sp Qra (sp (.eq (.op .Lm bC Qp3) Qa) (ou [Qo,Qm,bC,Qa]) (sp (.eq (nm (.op .Lp bC Qp3)) Qa) (ou [Qo,Qm,bC,Qa]) Qrc)) Qrc) fl)) (ou [Qo,Qm,bC,Q0])
def afL:T Lf:=ju 5351 [Qf,Qa,Qb,Q0,Qo,Qm]
abbrev Qrd:T Lf:=ou [Qo,Qm,bC,bU,Qa]
abbrev Qre:List SE:=[ce 3 Qpf,Qm,bC,bU]
abbrev Qrf:T Lf:=sp (.eq (a0 5600 Qre) Q0) (sp (.eq (rr 5600 Qre 3) Qa) (ou [Qo,rr 5600 Qre 0,rr 5600 Qre 1,rr 5600 Qre 2,Qa]) (ju 5351 [Qf,wO,Qo,rr 5600 Qre 0,rr 5600 Qre 1,rr 5600 Qre 2])) fl
def Y6:T Lf:=sp Qpd (sp Qe1 fl (sp Qpe (sp Qra (sp (.eq (.op .Lm bU Qp3) Qa) Qrd (sp (.eq (nm (.op .Lp bU Qp3)) Qa) Qrd Qrf)) Qrf) fl)) (ou [Qo,Qm,bC,bU,Q0])
def afK:T Lf:=ju 5401 [Qf,sZ,Qa,Qb,Qo,Qm]
def Y5:T Lf:=sp yL (sp wP fl (sp Wy (sp (.eq (a0 800 [Qf5,Un,Qf4,Qf7,Qdh]) Q0) (sp (.eq (rr 800 [Qf5,Un,Qf4,Qf7,Qdh] 0) Qa) (ou [Qm,bC,bU,Qo]) (ju 5401 [Qf,Qb,mJ,Qm,bC,bU])) fl) fl)) (ou [Qm,bC,bU,Qi1])
def afJ:T Lf:=ju 5451 [Qb,Qf,sZ,Qa,Qo]
def afI:T Lf:=sp Qp (sp Qq fl (sp Qr (sp Qq5 fl (sp (.lt WO Qf) fl (sp Qq6 (sp Qq7 fl (sp (.eq (a0 5450 Qq8) Q0) (ju 5451 Qq9) fl)) fl))) fl)) (ou [bC])
def afG:T Lf:=ju 5501 [Qf,sZ,Qa,Qb,Qo]
abbrev Qrg:List SE:=[Qf7,Qm,bC]
abbrev Qrh:T Lf:=sp (.eq (a0 5500 Qrg) Q0) (sp (.eq (rr 5500 Qrg 2) Qa) (ou [rr 5500 Qrg 0,rr 5500 Qrg 1,Qa]) (ju 5501 [Qf,Qb,mJ,rr 5500 Qrg 0,rr 5500 Qrg 1])) fl
def afF:T Lf:=sp yL (sp wP fl (sp Wy (sp (.eq Qf5 pI) (sp (.eq (.op .Lm bC Un) Qa) Qoe (sp (.eq (nm (.op .Lp bC Un)) Qa) Qoe Qrh)) Qrh) fl)) (ou [Qm,bC,Q0])
def atB:T Lf:=ju 5551 [Qf,sZ,Qa,Q0,Qb,Qo]
abbrev Qri:SB:=.eq (.op .Lm bU Un) Qa
abbrev Qrj:T Lf:=ou [Qm,bC,bU,Qa]
abbrev Qrk:SB:=.eq (nm (.op .Lp bU Un)) Qa
abbrev Qrl:List SE:=[Qf7,Qm,bC,bU]
abbrev Qrm:SB:=.eq (rr 5600 Qrl 3) Qa
abbrev Qrn:T Lf:=ou [rr 5600 Qrl 0,rr 5600 Qrl 1,rr 5600 Qrl 2,Qa]
abbrev Qro:List SE:=[Qf,Qb,mJ,rr 5600 Qrl 0,rr 5600 Qrl 1,rr 5600 Qrl 2]
abbrev Qrp:T Lf:=sp (.eq (a0 5600 Qrl) Q0) (sp Qrm Qrn (ju 5551 Qro)) fl
def atA:T Lf:=sp yL (sp wP fl (sp Wy (sp (.eq Qf5 pI) (sp Qri Qrj (sp Qrk Qrj Qrp)) Qrp) fl)) (ou [Qm,bC,bU,Q0])
def afD:T Lf:=ju 5601 [Qf,sZ,Qa,Qb,Qo,Qm]
abbrev Qrq:T Lf:=sp (.eq (a0 5600 Qrl) Q0) (sp Qrm Qrn (ju 5601 Qro)) fl
def afC:T Lf:=sp yL (sp wP fl (sp Wy (sp (.eq Qf5 pI) (sp Qri Qrj (sp Qrk Qrj Qrq)) Qrq) fl)) (ou [Qm,bC,bU,Q0])
abbrev Qrr:List SE:=[Qf,Qb,Qo,Qm,bC,bU,dO,fE,fZ,gU,kJ,lN,qW]
abbrev Qrs:SE:=rr 12050 Qrr 14
abbrev Qrt:T Lf:=ou [Qa,Qf,Qb,Qo,Qm,bC,bU,dO,fE,fZ,gU,kJ,lN,qW]
def RD:T Lf:=sp (.eq (a0 12050 Qrr) Q0) (sp (.eq (rr 12050 Qrr 0) Qa) (sp (.eq Qrs Qi1) Qrt (ju 12001 [Qf,Qb,Qo,Qm,bC,bU,dO,fE,fZ,gU,kJ,lN,qW,Qf,Qrs,wr (.add Qrs Q0)])) fl) fl
abbrev Qru:SB:=.eq (nm (el oQ WS)) Qb
abbrev Qrv:List SE:=[Qf,Qb,Qo,Qm,bC,bU,dO,fE,fZ,gU,kJ,lN,qW,oQ,qU,wr (.add WS Q0)]
abbrev Qrw:SB:=.lt qU Qa
abbrev Qrx:SE:=wr (.add qU Q0)
abbrev Qry:List SE:=[Qf,Qb,Qo,Qm,bC,bU,dO,fE,fZ,gU,kJ,lN,qW,.op .set oQ (cn (mk qU) (mk (nm (el oQ WS)))),Qrx,wr (.add WS Q0)]
abbrev Qrz:T Lf:=sp Qrw fl (sp (.lt Qku qU) fl (sp (.lt (.sub Qku qU) Qa) fl (sp (.eq (.add qU (.sub Qku qU)) Qku) (ou [Q0,Qf,Qb,Qo,Qm,bC,bU,dO,fE,fZ,gU,kJ,lN,qW,qU,.op .fill oQ (cn (mk qU) lW),Qku]) fl)))
def Kw:T Lf:=sp (.lt WS Qku) (sp (.lt WS Qa) fl (sp Qru (ju 12001 Qrv) (sp Qrw fl (sp (.lt qU Qku) (ju 12001 Qry) fl)))) Qrz
abbrev Qr0:List SE:=[Qf,Qb,Qo,Qm,bC,bU,dO,fE,fZ,gU,kJ,lN,qW,sZ,Qa]
def Xn:T Lf:=ju 12051 Qr0
abbrev Qr1:SB:=.eq (nm (el Qf qU)) Qb
abbrev Qr2:T Lf:=ou [Qa,Qf,Qb,Qo,Qm,bC,bU,dO,fE,fZ,gU,kJ,lN,qW,qU]
abbrev Qr3:List SE:=[Qf,Qb,Qo,Qm,bC,bU,dO,fE,fZ,gU,kJ,lN,qW,oQ,Qrx]
abbrev Qr4:T Lf:=ou [Qa,Qf,Qb,Qo,Qm,bC,bU,dO,fE,fZ,gU,kJ,lN,qW,Qi1]
def Kv:T Lf:=sp (.lt qU oQ) (sp Qrw fl (sp (.lt qU sZ) (sp Qr1 Qr2 (ju 12051 Qr3)) fl)) Qr4
abbrev Qr5:SE:=rr 12150 Qrr 14
def Rz:T Lf:=sp (.eq (a0 12150 Qrr) Q0) (sp (.eq (rr 12150 Qrr 0) Qa) (sp (.eq Qr5 Qi1) Qrt (ju 12101 [Qf,Qb,Qo,Qm,bC,bU,dO,fE,fZ,gU,kJ,lN,qW,Qf,Qr5,wr (.add Qr5 Q0)])) fl) fl
def Ku:T Lf:=sp (.lt WS Qku) (sp (.lt WS Qa) fl (sp Qru (ju 12101 Qrv) (sp Qrw fl (sp (.lt qU Qku) (ju 12101 Qry) fl)))) Qrz
def Xm:T Lf:=ju 12151 Qr0
def Kr:T Lf:=sp (.lt qU oQ) (sp Qrw fl (sp (.lt qU sZ) (sp Qr1 Qr2 (ju 12151 Qr3)) fl)) Qr4
def Xl:T Lf:=sp (.eq (a0 12250 Qrr) Q0) (sp (.eq (rr 12250 Qrr 0) Qa) Qrt fl) fl
def Xk:T Lf:=ju 12251 Qrr
def Xj:T Lf:=ou [Qa,Qf,Qb,Qo,Qm,bC,bU,dO,fE,fZ,gU,kJ,lN,qW]
def Xi:T Lf:=sp (.eq (a0 12350 Qrr) Q0) (sp (.eq (rr 12350 Qrr 0) Qa) Qrt fl) fl
def Xh:T Lf:=ju 12351 Qrr
def Xg:T Lf:=ou [Qa,Qf,Qb,Qo,Qm,bC,bU,dO,fE,fZ,gU,kJ,lN,qW]
abbrev Qr6:SB:=.eq (a0 1400 [Qf,Qmk,Qb,lW,Qo]) Q0
abbrev Qr7:SB:=.eq (rr 1400 [Qf,Qmk,Qb,lW,Qo] 0) Qa
abbrev Qr8:T Lf:=ou [Qa,Qf,Qb,Qo,Qm,bC,bU,dO]
abbrev Qr9:SB:=.lt (.lit 23) bC
abbrev Qsa:SB:=.eq bU Qa
abbrev Qsb:SB:=.eq (a0 1250 [bC]) Q0
abbrev Qsc:SB:=.eq (rr 1250 [bC] 0) Qa
abbrev Qsd:SB:=.eq (a0 1300 [bC]) Q0
abbrev Qse:SB:=.eq (rr 1300 [bC] 0) Qa
abbrev Qsf:SB:=.eq (a0 5100 [pI,Q0]) Q0
abbrev Qsg:T Lf:=sp Qsf (ou [Q0,Qf,Qb,Qo,Qm,bC,bU,dO]) fl
abbrev Qsh:SB:=.eq (a0 1000 [lW]) Q0
abbrev Qsi:SB:=.eq (rr 1000 [lW] 0) Qa
def Xf:T Lf:=sp Qr6 (sp Qr7 Qr8 (sp Qe8 Qr8 (sp Qr9 Qr8 (sp Qsa (sp Qsb (sp Qsc (sp Qsd (sp Qse Qsg (sp Qsh (sp Qsi Qr8 Qsg) fl)) fl) Qr8) fl) Qr8)))) fl
abbrev Qsj:SE:=.dat (.p (.i 98) (.i 0))
abbrev Qsk:SB:=.eq (a0 1400 [Q0,Qsj,Qf,lW,Qb]) Q0
abbrev Qsl:SB:=.eq (rr 1400 [Q0,Qsj,Qf,lW,Qb] 0) Qa
abbrev Qsm:T Lf:=ou [Qa,Qf,Qb,Qo,Qm,bC,bU,dO,fE,fZ]
abbrev Qsn:SB:=.eq (a0 1400 [Qo,Qmk,Qm,Qsj,bC]) Q0
abbrev Qso:SB:=.eq (rr 1400 [Qo,Qmk,Qm,Qsj,bC] 0) Qa
abbrev Qsp:SB:=.lt dO Q0
abbrev Qsq:SB:=.lt (.lit 23) dO
abbrev Qsr:SB:=.eq (a0 1250 [dO]) Q0
abbrev Qss:SB:=.eq (rr 1250 [dO] 0) Qa
abbrev Qst:SB:=.eq (a0 1300 [dO]) Q0
abbrev Qsu:SB:=.eq (rr 1300 [dO] 0) Qa
abbrev Qsv:T Lf:=sp Qsf (ou [Q0,Qf,Qb,Qo,Qm,bC,bU,dO,fE,fZ]) fl
def Xe:T Lf:=sp Qsk (sp Qsl Qsm (sp Qsn (sp Qso Qsm (sp Qsp Qsm (sp Qsq Qsm (sp Qkj (sp Qsr (sp Qss (sp Qst (sp Qsu Qsv (sp Qsh (sp Qsi Qsm Qsv) fl)) fl) Qsm) fl) Qsm)))) fl)) fl
def Xd:T Lf:=sp Qr6 (sp Qr7 Qr8 (sp Qe8 Qr8 (sp Qr9 Qr8 (sp Qsa (sp Qsb (sp Qsc (sp Qsd (sp Qse Qr8 Qsg) fl) Qr8) fl) Qr8)))) fl
def Xc:T Lf:=sp Qsk (sp Qsl Qsm (sp Qsn (sp Qso Qsm (sp Qsp Qsm (sp Qsq Qsm (sp Qkj (sp Qsr (sp Qss (sp Qst (sp Qsu Qsm Qsv) fl) Qsm) fl) Qsm)))) fl)) fl
abbrev Qsw:T Lf:=ou [Qa,Qf,Qb,Qo,Qm,bC,bU,dO,fE]
abbrev Qsx:SB:=.eq (ln dO) (rr 1250 [bC] 0)
abbrev Qsy:T Lf:=sp (.eq (a0 5250 [dO,pI,Q0]) Q0) (ou [Q0,Qf,Qb,Qo,Qm,bC,bU,dO,fE,ln dO,rr 5250 [dO,pI,Q0] 1]) fl
def Ry:T Lf:=sp Qr6 (sp Qr7 Qsw (sp Qe8 Qsw (sp Qr9 Qsw (sp Qsa (sp Qsb (sp Qsx (sp Qsd (sp Qse Qsy (sp Qsh (sp Qsi Qsw Qsy) fl)) fl) Qsw) fl) Qsw)))) fl
abbrev Qsz:T Lf:=ou [Qa,Qf,Qb,Qo,Qm,bC,bU,dO,fE,fZ,gU]
abbrev Qs0:SB:=.eq (ln fZ) (rr 1250 [dO] 0)
abbrev Qs1:T Lf:=sp (.eq (a0 5250 [fZ,pI,Q0]) Q0) (ou [Q0,Qf,Qb,Qo,Qm,bC,bU,dO,fE,fZ,gU,ln fZ,rr 5250 [fZ,pI,Q0] 1]) fl
def Rx:T Lf:=sp Qsk (sp Qsl Qsz (sp Qsn (sp Qso Qsz (sp Qsp Qsz (sp Qsq Qsz (sp Qkj (sp Qsr (sp Qs0 (sp Qst (sp Qsu Qs1 (sp Qsh (sp Qsi Qsz Qs1) fl)) fl) Qsz) fl) Qsz)))) fl)) fl
def Rw:T Lf:=sp Qr6 (sp Qr7 Qsw (sp Qe8 Qsw (sp Qr9 Qsw (sp Qsa (sp Qsb (sp Qsx (sp Qsd (sp Qse Qsw Qsy) fl) Qsw) fl) Qsw)))) fl
def Ru:T Lf:=sp Qsk (sp Qsl Qsz (sp Qsn (sp Qso Qsz (sp Qsp Qsz (sp Qsq Qsz (sp Qkj (sp Qsr (sp Qs0 (sp Qst (sp Qsu Qsz Qs1) fl) Qsz) fl) Qsz)))) fl)) fl
def Xb:T Lf:=ju 12801 [Qf,Qb,Qb]
abbrev Qs2:SE:=nm (el (.dat b0) (nm YK))
abbrev Qs3:SE:=.op .idx (.op .sub Qf (cn EH (cn (mk sZ) lW))) Qic
def Rq:T Lf:=sp Wy (sp wP fl (sp (.lt (nm YK) Qa) fl (sp (.lt (nm YK) Qnx) (sp (.eq Qs2 Q0) (ju 12801 [Qf,Qb,mJ]) (sp (.eq Qs2 pI) (sp (.lt sZ sZ) fl (sp (.lt Qs3 Qa) (ou [Qa,Qf,Qb,sZ]) (ju 12801 [Qf,Qb,wr (.add Qo Qs3)]))) (ou [Qa,Qf,Qb,Qo]))) fl))) (ou [Qa,Qf,Qb,Qo])
abbrev Qs4:SE:=nm (el Qf Qb)
abbrev Qs5:SE:=wr (.add Qb pI)
abbrev Qs6:SE:=.op .norm (.op .sub Qf (cn QW (cn (mk sZ) lW))) Qa
abbrev Qs7:SE:=.dat (.p (.i 45) (.p (.i 62) (.i 0)))
abbrev Qs8:T Lf:=ou [Qa,Qf,Qb,wr (.add wO Q0)]
abbrev Qs9:SE:=.op .norm (.op .sub Qf (cn QW (cn (mk Qs5) lW))) Qa
def Xa:T Lf:=sp Qe1 fl (sp (.lt Qb sZ) (sp (.lt Qs4 Qa) fl (sp (.lt Qs4 Qnx) (sp (.eq (nm (el (.dat b0) Qs4)) YN) (sp (.lt sZ Qs5) (sp (.lt sZ sZ) fl (sp (.eq Qs6 Qs7) Qs8 (sp (.eq Qs6 Qn8) Qs8 (ou [Qa,Qf,Qb,wO])))) (sp (.lt Qs5 Qb) fl (sp (.eq Qs9 Qs7) Qs8 (sp (.eq Qs9 Qn8) Qs8 (ou [Qa,Qf,Qb,wO]))))) (ju 12851 [Qf,Qb,nm (el (.dat b0) Qs4),wO])) fl)) fl)
abbrev Qta:SE:=nm (el (.dat b0) (nm Qfb))
abbrev Qtb:T Lf:=ou [Qa,Qf,Qb,Qm]
def Ro:T Lf:=sp (.lt Qm sZ) (sp Qq fl (sp (.lt (nm Qfb) Qa) fl (sp (.lt (nm Qfb) Qnx) (sp (.eq Qta Ar) (ju 12851 Qfo) (sp (.eq Qta wQ) (sp (.eq Qo wQ) (ju 12851 Qfo) Qtb) Qtb)) fl))) Qtb
abbrev Qtc:SE:=ce 2 (el Qb Qo)
abbrev Qtd:SE:=el Qtc bU
abbrev Qte:SE:=nm (ce 0 Qtd)
abbrev Qtf:SB:=.lt Qa (ln (ce 6 Qtd))
abbrev Qtg:SE:=el (ce 6 Qtd) Qa
abbrev Qth:List SE:=[nm (ce 0 Qtg),ce 1 Qtg,nm (ce 2 Qtg),ce 3 Qtg,dO]
abbrev Qti:SB:=.eq (a0 1950 Qth) Q0
abbrev Qtj:SE:=nm (ce 3 Qtd)
abbrev Qtk:SB:=.lt Qtj (ln dO)
abbrev Qtl:SB:=.eq (rr 1950 Qth 0) Qa
abbrev Qtm:T Lf:=ou [Qa,Qf,Qb,Qo,Qm,bC,bU,dO,fE,fZ,gU,kJ,nm (ce 4 Qtd),dO]
def yO:T Lf:=sp wP fl (sp Qdj (sp Qfq (sp Qff fl (sp (.lt bU (ln Qtc)) (sp (.eq Qte Ar) (sp Qtf (sp Qti (sp (.lt Qtj Qa) fl (sp Qtk (ou [Qa,Qf,Qb,Qo,Qm,bC,bU,dO,fE,fZ,gU,kJ,Qfi,.op .set dO (cn (mk Qtj) (mk (rr 1950 Qth 0)))]) fl)) fl) fl) (sp (.eq Qte wQ) (sp Qtf (sp Qti (sp Qtl Qtm (ou [Qa,Qf,Qb,Qo,Qm,bC,bU,dO,fE,fZ,gU,kJ,Qfi,dO])) fl) fl) (sp (.eq Qte YN) Qtm (sp (.eq Qte WT) (sp (.lt Qtj Qa) fl (sp Qtk (ou [Qa,Qf,Qb,Qo,Qm,bC,bU,dO,fE,fZ,gU,kJ,Qfi,.op .set dO (cn (mk Qtj) (mk (nm (ce 5 Qtd))))]) fl)) (sp (.eq Qte Qh4) (sp (.lt Qtj Qa) fl (sp Qtk (sp (.lt Qa (nm (el dO Qtj))) (ou [Qa,Qf,Qb,Qo,Qm,bC,bU,dO,fE,fZ,gU,kJ,Qfi,.op .set dO (cn (mk Qtj) (mk (wr (.sub (nm (el dO Qtj)) Q0))))]) Qtm) fl)) fl))))) fl)) fl) fl)
abbrev Qtn:List SE:=[Qf,Qb,fE,Qo,Qm,bC,bU,dO]
abbrev Gy:SE:=rr 400 Qtn 6
abbrev Qtp:SE:=el Qtc gU
abbrev Qtq:SB:=.eq (nm (ce 0 Qtp)) Q0
abbrev Qtr:SB:=.eq (nm (ce 1 Qtp)) YJ
abbrev NW:SE:=rr 400 Qtn 2
abbrev Gx:SE:=rr 400 Qtn 4
abbrev Qtu:SE:=nm (ce 3 Qtp)
abbrev Qtv:SB:=.lt Qtu Qa
abbrev Qtw:SB:=.eq Gy Ar
abbrev QU:SE:=rr 400 Qtn 1
abbrev Qty:SE:=rr 400 Qtn 3
abbrev QT:SE:=rr 400 Qtn 5
abbrev QV:SE:=rr 400 Qtn 0
abbrev Qt1:SE:=wr (.add gU Q0)
abbrev Qt2:T Lf:=ou [Qa,Qf,Qb,Qo,Qm,bC,bU,dO,fE,fZ,gU,kJ,lN,qW,oQ,qU,QU,NW,Qty,Gx,QT,Gy,QV,Qt1,kJ,Qjj,Qty,oQ,Qa]
abbrev Qt3:T Lf:=ou [Qa,Qf,Qb,Qo,Qm,bC,bU,dO,fE,fZ,gU,kJ,lN,qW,oQ,qU,QU,NW,Qty,Gx,QT,Gy,QV,Qt1,kJ,lN,qW,oQ,Qa]
abbrev Qt4:SB:=.lt Qtu (ln kJ)
abbrev Qt5:SE:=.op .set kJ (cn (mk Qtu) (mk Gx))
abbrev Qt6:T Lf:=ou [Qa,Qf,Qb,Qo,Qm,bC,bU,dO,fE,fZ,gU,kJ,lN,qW,oQ,qU,QU,NW,Qty,Gx,QT,Gy,QV,Qt1,Qt5,Qjj,Qty,oQ,Qa]
abbrev Qt7:T Lf:=ou [Qa,Qf,Qb,Qo,Qm,bC,bU,dO,fE,fZ,gU,kJ,lN,qW,oQ,qU,QU,NW,Qty,Gx,QT,Gy,QV,Qt1,Qt5,lN,qW,oQ,Qa]
abbrev Qt8:SE:=nm (ce 4 Qtp)
abbrev Qt9:T Lf:=ou [Qa,Qf,Qb,Qo,Qm,bC,bU,dO,fE,fZ,gU,kJ,lN,qW,oQ,qU,QU,NW,Qty,Gx,QT,Gy,QV,Qt8,kJ,Qjj,Qty,oQ,Qa]
abbrev Qua:T Lf:=ou [Qa,Qf,Qb,Qo,Qm,bC,bU,dO,fE,fZ,gU,kJ,lN,qW,oQ,qU,QU,NW,Qty,Gx,QT,Gy,QV,Qt8,kJ,lN,qW,oQ,Qa]
abbrev Qub:T Lf:=ou [Qa,Qf,Qb,Qo,Qm,bC,bU,dO,fE,fZ,gU,kJ,lN,qW,oQ,qU,QU,NW,Qty,Gx,QT,Gy,QV,Qt8,Qt5,Qjj,Qty,oQ,Qa]
abbrev Quc:T Lf:=ou [Qa,Qf,Qb,Qo,Qm,bC,bU,dO,fE,fZ,gU,kJ,lN,qW,oQ,qU,QU,NW,Qty,Gx,QT,Gy,QV,Qt8,Qt5,lN,qW,oQ,Qa]
abbrev Qud:SB:=.eq NW (.lit 15)
abbrev Que:T Lf:=sp Qtw (sp Qud (ou [Qa,Qf,Qb,Qo,Qm,bC,bU,dO,fE,fZ,gU,kJ,lN,qW,oQ,qU,QU,NW,Qty,Gx,QT,Gy,QV,Qt1,kJ,Qjl,Qty,Gx,Qa]) Qt2) Qt3
def fD:T Lf:=sp (.eq (a0 400 Qtn) Q0) (sp wP fl (sp (.lt Qo (ln fZ)) (sp (.eq Gy Qa) (sp (.eq Qm wQ) (sp (.lt Qjk Qrx) (ou [Qa,Qf,Qb,Qo,Qm,bC,bU,dO,fE,fZ,gU,kJ,lN,qW,oQ,qU,Qa,Qa,Qa,Qa,Qa,Gy,fE,gU,kJ,lN,qW,oQ,Qjk]) (ou [Qa,Qf,Qb,Qo,Qm,bC,bU,dO,fE,fZ,gU,kJ,lN,qW,oQ,qU,Qa,Qa,Qa,Qa,Qa,Gy,fE,gU,kJ,lN,qW,oQ,Qrx])) (ou [Qa,Qf,Qb,Qo,Qm,bC,bU,dO,fE,fZ,gU,kJ,lN,qW,oQ,qU,Qa,Qa,Qa,Qa,Qa,Gy,fE,gU,kJ,lN,qW,oQ,qU])) (sp (.eq lN Qa) (sp Qfq (sp Qkv fl (sp (.lt gU (ln Qtc)) (sp Qtq (sp Qtr (sp (.eq NW YJ) (sp (.eq Gx Q0) (sp Qtv (sp Qtw Qt2 Qt3) (sp Qt4 (sp Qtw Qt6 Qt7) fl)) (sp Qtv (sp Qtw Qt9 Qua) (sp Qt4 (sp Qtw Qub Quc) fl))) (sp Qtv (sp Qtw (sp Qud (ou [Qa,Qf,Qb,Qo,Qm,bC,bU,dO,fE,fZ,gU,kJ,lN,qW,oQ,qU,QU,NW,Qty,Gx,QT,Gy,QV,Qt8,kJ,Qjl,Qty,Gx,Qa]) Qt9) Qua) (sp Qt4 (sp Qtw (sp Qud (ou [Qa,Qf,Qb,Qo,Qm,bC,bU,dO,fE,fZ,gU,kJ,lN,qW,oQ,qU,QU,NW,Qty,Gx,QT,Gy,QV,Qt8,Qt5,Qjl,Qty,Gx,Qa]) Qub) Quc) fl))) (sp Qtv Que (sp Qt4 (sp Qtw (sp Qud (ou [Qa,Qf,Qb,Qo,Qm,bC,bU,dO,fE,fZ,gU,kJ,lN,qW,oQ,qU,QU,NW,Qty,Gx,QT,Gy,QV,Qt1,Qt5,Qjl,Qty,Gx,Qa]) Qt6) Qt7) fl))) Que) fl)) fl) (ou [Qa,Qf,Qb,Qo,Qm,bC,bU,dO,fE,fZ,gU,kJ,lN,qW,oQ,qU,QU,NW,Qty,Gx,QT,Gy,QV,gU,kJ,Qa,Qa,Qa,Qa]))) fl)) fl
abbrev Quf:T Lf:=ou [Qa,Qf,Qb,Qo,Qm,bC,bU,dO,fE,fZ,gU,kJ,nm (ce 4 Qtd)]
def Kq:T Lf:=sp wP fl (sp Qdj (sp Qfq (sp Qff fl (sp (.lt bU (ln Qtc)) (sp (.eq Qte Ar) (sp Qtf (sp Qti fl fl) fl) (sp (.eq Qte wQ) (sp Qtf (sp Qti (sp Qtl Quf (ou [Qa,Qf,Qb,Qo,Qm,bC,bU,dO,fE,fZ,gU,kJ,Qfi])) fl) fl) (sp (.eq Qte YN) Quf (sp (.eq Qte WT) fl (sp (.eq Qte Qh4) fl fl))))) fl)) fl) fl)
abbrev Qug:T Lf:=ou [Qa,Qf,Qb,Qo,Qm,bC,bU,dO,fE,fZ,gU,kJ,lN,qW,oQ,qU,QU,NW,Qty,Gx,QT,Gy,QV,Qt1,Qjj,Qty,oQ,Qa]
abbrev Quh:T Lf:=ou [Qa,Qf,Qb,Qo,Qm,bC,bU,dO,fE,fZ,gU,kJ,lN,qW,oQ,qU,QU,NW,Qty,Gx,QT,Gy,QV,Qt1,lN,qW,oQ,Qa]
abbrev Qui:T Lf:=ou [Qa,Qf,Qb,Qo,Qm,bC,bU,dO,fE,fZ,gU,kJ,lN,qW,oQ,qU,QU,NW,Qty,Gx,QT,Gy,QV,Qt8,Qjj,Qty,oQ,Qa]
abbrev Quj:T Lf:=ou [Qa,Qf,Qb,Qo,Qm,bC,bU,dO,fE,fZ,gU,kJ,lN,qW,oQ,qU,QU,NW,Qty,Gx,QT,Gy,QV,Qt8,lN,qW,oQ,Qa]
abbrev Quk:T Lf:=sp Qtw (sp Qud (ou [Qa,Qf,Qb,Qo,Qm,bC,bU,dO,fE,fZ,gU,kJ,lN,qW,oQ,qU,QU,NW,Qty,Gx,QT,Gy,QV,Qt1,Qjl,Qty,Gx,Qa]) Qug) Quh
def jL:T Lf:=sp (.eq (a0 400 Qtn) Q0) (sp wP fl (sp (.lt Qo (ln fZ)) (sp (.eq Gy Qa) (sp (.eq Qm wQ) (sp (.lt Qjk Qrx) (ou [Qa,Qf,Qb,Qo,Qm,bC,bU,dO,fE,fZ,gU,kJ,lN,qW,oQ,qU,Qa,Qa,Qa,Qa,Qa,Gy,fE,gU,lN,qW,oQ,Qjk]) (ou [Qa,Qf,Qb,Qo,Qm,bC,bU,dO,fE,fZ,gU,kJ,lN,qW,oQ,qU,Qa,Qa,Qa,Qa,Qa,Gy,fE,gU,lN,qW,oQ,Qrx])) (ou [Qa,Qf,Qb,Qo,Qm,bC,bU,dO,fE,fZ,gU,kJ,lN,qW,oQ,qU,Qa,Qa,Qa,Qa,Qa,Gy,fE,gU,lN,qW,oQ,qU])) (sp (.eq lN Qa) (sp Qfq (sp Qkv fl (sp (.lt gU (ln Qtc)) (sp Qtq (sp Qtr (sp (.eq NW YJ) (sp (.eq Gx Q0) (sp Qtv (sp Qtw Qug Quh) fl) (sp Qtv (sp Qtw Qui Quj) fl)) (sp Qtv (sp Qtw (sp Qud (ou [Qa,Qf,Qb,Qo,Qm,bC,bU,dO,fE,fZ,gU,kJ,lN,qW,oQ,qU,QU,NW,Qty,Gx,QT,Gy,QV,Qt8,Qjl,Qty,Gx,Qa]) Qui) Quj) fl)) (sp Qtv Quk fl)) Quk) fl)) fl) (ou [Qa,Qf,Qb,Qo,Qm,bC,bU,dO,fE,fZ,gU,kJ,lN,qW,oQ,qU,QU,NW,Qty,Gx,QT,Gy,QV,gU,Qa,Qa,Qa,Qa]))) fl)) fl
def W9:T Lf:=sp (.eq (a0 1000 Qj) Q0) (sp (.eq (rr 1000 Qj 0) Qa) Qbb Qd1) fl
end
theorem akP:S.tree 9000=Ot:=by kernel_rfl
theorem VO:S.tree 9001=uZ:=by kernel_rfl
theorem auJ:S.tree 9002=afA:=by kernel_rfl
theorem auI:S.tree 9003=aeZ:=by kernel_rfl
theorem akO:S.tree 9004=Y4:=by kernel_rfl
theorem akN:S.tree 9005=Y3:=by kernel_rfl
theorem akM:S.tree 9006=Y2:=by kernel_rfl
theorem akL:S.tree 9007=Y1:=by kernel_rfl
theorem akK:S.tree 9050=Iu:=by kernel_rfl
theorem akJ:S.tree 9051=Y0:=by kernel_rfl
theorem akI:S.tree 9052=YZ:=by kernel_rfl
theorem aCZ:S.tree 9053=asZ:=by kernel_rfl
theorem auH:S.tree 9054=aeY:=by kernel_rfl
theorem auG:S.tree 9055=asY:=by kernel_rfl
theorem aCY:S.tree 9056=asX:=by kernel_rfl
theorem aCX:S.tree 9057=asW:=by kernel_rfl
theorem aCW:S.tree 9058=asV:=by kernel_rfl
theorem aCV:S.tree 9059=asU:=by kernel_rfl
theorem VN:S.tree 9060=EO:=by kernel_rfl
theorem auF:S.tree 9061=aeX:=by kernel_rfl
theorem aCU:S.tree 9062=asT:=by kernel_rfl
theorem VL:S.tree 9063=EN:=by kernel_rfl
theorem auE:S.tree 9064=aeW:=by kernel_rfl
theorem aCT:S.tree 9065=asR:=by kernel_rfl
theorem aCS:S.tree 9066=asQ:=by kernel_rfl
theorem aCR:S.tree 9067=asP:=by kernel_rfl
theorem aCQ:S.tree 9068=asO:=by kernel_rfl
theorem akH:S.tree 9069=YX:=by kernel_rfl
theorem akG:S.tree 9070=YW:=by kernel_rfl
theorem akF:S.tree 9071=YV:=by kernel_rfl
theorem akE:S.tree 9072=YU:=by kernel_rfl
theorem aCP:S.tree 9073=asN:=by kernel_rfl
theorem aCO:S.tree 9074=asM:=by kernel_rfl
theorem e100:S.tree 100=aBq:=by kernel_rfl
theorem arO:S.tree 101=aBp:=by kernel_rfl
theorem arN:S.tree 102=aBo:=by kernel_rfl
theorem aAU:S.tree 103=aBn:=by kernel_rfl
theorem aAT:S.tree 150=aBm:=by kernel_rfl
theorem arM:S.tree 151=aBl:=by kernel_rfl
theorem e300:S.tree 300=afU:=by kernel_rfl
theorem e301:S.tree 301=WZ:=by kernel_rfl
theorem e302:S.tree 302=aoS:=by kernel_rfl
theorem arL:S.tree 350=afT:=by kernel_rfl
theorem arK:S.tree 351=WY:=by kernel_rfl
theorem aAS:S.tree 400=kE:=by kernel_rfl
theorem aDd:S.tree 450=axG:=by kernel_rfl
theorem aAR:S.tree 451=aoR:=by kernel_rfl
theorem aAQ:S.tree 452=aoQ:=by kernel_rfl
theorem aAP:S.tree 453=aoP:=by kernel_rfl
theorem aAO:S.tree 454=aoO:=by kernel_rfl
theorem aAN:S.tree 455=aoN:=by kernel_rfl
theorem aAM:S.tree 456=aoM:=by kernel_rfl
theorem aDc:S.tree 500=axF:=by kernel_rfl
theorem aAL:S.tree 501=aoL:=by kernel_rfl
theorem aDb:S.tree 550=afH:=by kernel_rfl
theorem aAK:S.tree 551=aoK:=by kernel_rfl
theorem aDa:S.tree 552=aBk:=by kernel_rfl
theorem aC9:S.tree 553=aBj:=by kernel_rfl
theorem aC6:S.tree 600=axE:=by kernel_rfl
theorem aC5:S.tree 650=axD:=by kernel_rfl
theorem aC4:S.tree 700=axC:=by kernel_rfl
theorem aC3:S.tree 750=axB:=by kernel_rfl
theorem aC2:S.tree 800=axA:=by kernel_rfl
theorem aC1:S.tree 850=awZ:=by kernel_rfl
theorem aAJ:S.tree 851=afB:=by kernel_rfl
theorem aC0:S.tree 900=awY:=by kernel_rfl
theorem aCN:S.tree 950=awX:=by kernel_rfl
theorem aAI:S.tree 951=aoJ:=by kernel_rfl
theorem aAH:S.tree 952=aoI:=by kernel_rfl
theorem Jo:S.tree 953=uY:=by kernel_rfl
theorem Jm:S.tree 954=uX:=by kernel_rfl
theorem avW:S.tree 1000=agH:=by kernel_rfl
theorem avV:S.tree 1050=UG:=by kernel_rfl
theorem avU:S.tree 1100=agG:=by kernel_rfl
theorem avT:S.tree 1101=atW:=by kernel_rfl
theorem amF:S.tree 1102=Zj:=by kernel_rfl
theorem avS:S.tree 1150=agF:=by kernel_rfl
theorem avR:S.tree 1200=agE:=by kernel_rfl
theorem avQ:S.tree 1250=agD:=by kernel_rfl
theorem avP:S.tree 1300=agC:=by kernel_rfl
theorem avO:S.tree 1350=agB:=by kernel_rfl
theorem avN:S.tree 1400=agA:=by kernel_rfl
theorem alH:S.tree 1450=Zi:=by kernel_rfl
theorem alF:S.tree 1451=UF:=by kernel_rfl
theorem alE:S.tree 1452=UE:=by kernel_rfl
theorem avM:S.tree 1500=afZ:=by kernel_rfl
theorem alC:S.tree 1501=Zh:=by kernel_rfl
theorem avL:S.tree 1550=afY:=by kernel_rfl
theorem avK:S.tree 1600=afX:=by kernel_rfl
theorem avJ:S.tree 1650=afW:=by kernel_rfl
theorem avI:S.tree 1750=Ko:=by kernel_rfl
theorem alB:S.tree 1751=Zg:=by kernel_rfl
theorem avH:S.tree 1900=Ox:=by kernel_rfl
theorem alA:S.tree 1901=Zf:=by kernel_rfl
theorem akZ:S.tree 1902=Ze:=by kernel_rfl
theorem aDq:S.tree 1903=atV:=by kernel_rfl
theorem avG:S.tree 1904=afV:=by kernel_rfl
theorem avF:S.tree 1905=atU:=by kernel_rfl
theorem aDp:S.tree 1906=atT:=by kernel_rfl
theorem aDo:S.tree 1907=atS:=by kernel_rfl
theorem aDn:S.tree 1908=atQ:=by kernel_rfl
theorem aDm:S.tree 1909=atP:=by kernel_rfl
theorem akY:S.tree 1910=Zd:=by kernel_rfl
theorem avE:S.tree 1911=atO:=by kernel_rfl
theorem aDl:S.tree 1912=atN:=by kernel_rfl
theorem akX:S.tree 1913=Zc:=by kernel_rfl
theorem avD:S.tree 1914=atM:=by kernel_rfl
theorem aDk:S.tree 1915=atL:=by kernel_rfl
theorem aDj:S.tree 1916=atK:=by kernel_rfl
theorem aDi:S.tree 1917=atJ:=by kernel_rfl
theorem aDh:S.tree 1918=atI:=by kernel_rfl
theorem Z9:S.tree 1950=UD:=by kernel_rfl
theorem QB:S.tree 2000=J9:=by kernel_rfl
theorem aDg:S.tree 2001=atH:=by kernel_rfl
theorem aDf:S.tree 2002=atG:=by kernel_rfl
theorem aDe:S.tree 2003=atF:=by kernel_rfl
theorem VQ:S.tree 2004=Ov:=by kernel_rfl
theorem VP:S.tree 2005=Ou:=by kernel_rfl
theorem akW:S.tree 2150=Zb:=by kernel_rfl
theorem Z8:S.tree 2151=UC:=by kernel_rfl
theorem Z7:S.tree 2200=UA:=by kernel_rfl
theorem akV:S.tree 2201=Za:=by kernel_rfl
theorem avC:S.tree 5000=afS:=by kernel_rfl
theorem avA:S.tree 5050=afR:=by kernel_rfl
theorem akU:S.tree 5051=Y9:=by kernel_rfl
theorem auZ:S.tree 5100=afQ:=by kernel_rfl
theorem auY:S.tree 5101=atE:=by kernel_rfl
theorem auX:S.tree 5150=afP:=by kernel_rfl
theorem auW:S.tree 5151=atD:=by kernel_rfl
theorem auV:S.tree 5200=afO:=by kernel_rfl
theorem auU:S.tree 5201=atC:=by kernel_rfl
theorem auT:S.tree 5250=afN:=by kernel_rfl
theorem akT:S.tree 5251=Y8:=by kernel_rfl
theorem auS:S.tree 5300=afM:=by kernel_rfl
theorem akS:S.tree 5301=Y7:=by kernel_rfl
theorem auR:S.tree 5350=afL:=by kernel_rfl
theorem akR:S.tree 5351=Y6:=by kernel_rfl
theorem auQ:S.tree 5400=afK:=by kernel_rfl
theorem akQ:S.tree 5401=Y5:=by kernel_rfl
theorem auP:S.tree 5450=afJ:=by kernel_rfl
theorem auO:S.tree 5451=afI:=by kernel_rfl
theorem auN:S.tree 5500=afG:=by kernel_rfl
theorem auM:S.tree 5501=afF:=by kernel_rfl
theorem aC8:S.tree 5550=atB:=by kernel_rfl
theorem aC7:S.tree 5551=atA:=by kernel_rfl
theorem auL:S.tree 5600=afD:=by kernel_rfl
theorem auK:S.tree 5601=afC:=by kernel_rfl
theorem Yw:S.tree 12000=RD:=by kernel_rfl
theorem TP:S.tree 12001=Kw:=by kernel_rfl
theorem amE:S.tree 12050=Xn:=by kernel_rfl
theorem Yv:S.tree 12051=Kv:=by kernel_rfl
theorem Yu:S.tree 12100=Rz:=by kernel_rfl
theorem TN:S.tree 12101=Ku:=by kernel_rfl
theorem amD:S.tree 12150=Xm:=by kernel_rfl
theorem Yt:S.tree 12151=Kr:=by kernel_rfl
theorem amC:S.tree 12200=Xl:=by kernel_rfl
theorem amB:S.tree 12250=Xk:=by kernel_rfl
theorem amA:S.tree 12251=Xj:=by kernel_rfl
theorem alZ:S.tree 12300=Xi:=by kernel_rfl
theorem alY:S.tree 12350=Xh:=by kernel_rfl
theorem alX:S.tree 12351=Xg:=by kernel_rfl
theorem alW:S.tree 12400=Xf:=by kernel_rfl
theorem alV:S.tree 12450=Xe:=by kernel_rfl
theorem alU:S.tree 12500=Xd:=by kernel_rfl
theorem alT:S.tree 12550=Xc:=by kernel_rfl
theorem alS:S.tree 12600=Ry:=by kernel_rfl
theorem alR:S.tree 12650=Rx:=by kernel_rfl
theorem alQ:S.tree 12700=Rw:=by kernel_rfl
theorem alP:S.tree 12750=Ru:=by kernel_rfl
theorem alO:S.tree 12800=Xb:=by kernel_rfl
theorem alN:S.tree 12801=Rq:=by kernel_rfl
theorem alM:S.tree 12850=Xa:=by kernel_rfl
theorem alL:S.tree 12851=Ro:=by kernel_rfl
theorem alJ:S.tree 14000=yO:=by kernel_rfl
theorem alG:S.tree 14500=fD:=by kernel_rfl
theorem alI:S.tree 14050=Kq:=by kernel_rfl
theorem alD:S.tree 14550=jL:=by kernel_rfl
theorem alK:S.tree 12900=W9:=by kernel_rfl
end Go.As.Try
end
section
namespace Go.As.Try
open Go hiding Stat Spec shape
open Go.As Go.Proofs
set_option maxRecDepth 100000
def listed:List Nat:=[9000,9001,9002,9003,9004,9005,9006,9007,9050,9051,9052,9053,9054,9055,9056,9057,9058,9059,9060,9061,9062,9063,9064,9065,9066,9067,9068,9069,9070,9071,9072,9073,9074,100,101,102,103,150,151,300,301,302,350,351,400,450,451,452,453,454,455,456,500,501,550,551,552,553,600,650,700,750,800,850,851,900,950,951,952,953,954,1000,1050,1100,1101,1102,1150,1200,1250,1300,1350,1400,1450,1451,1452,1500,1501,1550,1600,1650,1750,1751,1900,1901,1902,1903,1904,1905,1906,1907,1908,1909,1910,1911,1912,1913,1914,1915,1916,1917,1918,1950,2000,2001,2002,2003,2004,2005,2150,2151,2200,2201,5000,5050,5051,5100,5101,5150,5151,5200,5201,5250,5251,5300,5301,5350,5351,5400,5401,5450,5451,5500,5501,5550,5551,5600,5601,12000,12001,12050,12051,12100,12101,12150,12151,12200,12250,12251,12300,12350,12351,12400,12450,12500,12550,12600,12650,12700,12750,12800,12801,12850,12851,14000,14500,14050,14550,12900]
noncomputable def trees:List (T Lf):=[Ot,uZ,afA,aeZ,Y4,Y3,Y2,Y1,Iu,Y0,YZ,asZ,aeY,asY,asX,asW,asV,asU,EO,aeX,asT,EN,aeW,asR,asQ,asP,asO,YX,YW,YV,YU,asN,asM,aBq,aBp,aBo,aBn,aBm,aBl,afU,WZ,aoS,afT,WY,kE,axG,aoR,aoQ,aoP,aoO,aoN,aoM,axF,aoL,afH,aoK,aBk,aBj,axE,axD,axC,axB,axA,awZ,afB,awY,awX,aoJ,aoI,uY,uX,agH,UG,agG,atW,Zj,agF,agE,agD,agC,agB,agA,Zi,UF,UE,afZ,Zh,afY,afX,afW,Ko,Zg,Ox,Zf,Ze,atV,afV,atU,atT,atS,atQ,atP,Zd,atO,atN,Zc,atM,atL,atK,atJ,atI,UD,J9,atH,atG,atF,Ov,Ou,Zb,UC,UA,Za,afS,afR,Y9,afQ,atE,afP,atD,afO,atC,afN,Y8,afM,Y7,afL,Y6,afK,Y5,afJ,afI,afG,afF,atB,atA,afD,afC,RD,Kw,Xn,Kv,Rz,Ku,Xm,Kr,Xl,Xk,Xj,Xi,Xh,Xg,Xf,Xe,Xd,Xc,Ry,Rx,Rw,Ru,Xb,Rq,Xa,Ro,yO,fD,Kq,jL,W9]
theorem acK:listed.map S.tree=trees:=by simp only [listed,trees,List.map,akP,VO,auJ,auI,akO,akN,akM,akL,akK,akJ,akI,aCZ,auH,auG,aCY,aCX,aCW,aCV,VN,auF,aCU,VL,auE,aCT,aCS,aCR,aCQ,akH,akG,akF,akE,aCP,aCO,e100,arO,arN,aAU,aAT,arM,e300,e301,e302,arL,arK,aAS,aDd,aAR,aAQ,aAP,aAO,aAN,aAM,aDc,aAL,aDb,aAK,aDa,aC9,aC6,aC5,aC4,aC3,aC2,aC1,aAJ,aC0,aCN,aAI,aAH,Jo,Jm,avW,avV,avU,avT,amF,avS,avR,avQ,avP,avO,avN,alH,alF,alE,avM,alC,avL,avK,avJ,avI,alB,avH,alA,akZ,aDq,avG,avF,aDp,aDo,aDn,aDm,akY,avE,aDl,akX,avD,aDk,aDj,aDi,aDh,Z9,QB,aDg,aDf,aDe,VQ,VP,akW,Z8,Z7,akV,avC,avA,akU,auZ,auY,auX,auW,auV,auU,auT,akT,auS,akS,auR,akR,auQ,akQ,auP,auO,auN,auM,aC8,aC7,auL,auK,Yw,TP,amE,Yv,Yu,TN,amD,Yt,amC,amB,amA,alZ,alY,alX,alW,alV,alU,alT,alS,alR,alQ,alP,alO,alN,alM,alL,alJ,alG,alI,alD,alK]
theorem aeQ:trees.all (WL [])=true:=by kernel_rfl
theorem aAX:avX (lim 292 feT) 292 listed=true:=by kernel_rfl
theorem aoA (j:Nat):WL [] (S.tree j)=true:=by
 cases h:Ap St.t j with
 | none=>exact abD (S:=St) h
 | some e=>
   have hm:S.tree j∈trees:=by
    rw [← acK]
    exact List.mem_map_of_mem (cov aAX (fun k hk=>aiF hk) h)
   exact List.all_eq_true.1 aeQ _ hm
noncomputable def L:GN:=lim' S.tree
theorem aX (j:Nat) (xs:List Int):L j xs=fin L (dU (dB L (low xs)) (S.tree j)):=ayA aoA j xs
end Go.As.Try
end

import Derived.Test.YtdcafdkkpdadbaaGreatDoorCards
import Derived.Test.YtdcafdkkpdadbaaGreatDoorTie
import Derived.ProofKit
import Derived.Deep.DeepHandedRow
import Derived.LaidLaws
import Derived.Test.YtdcafdkkpdadbaaGreatDoorAsZJ7
set_option linter.unusedSectionVars false
set_option linter.unusedVariables false
set_option linter.unusedSimpArgs false
section
namespace Go.As.Try
open Go hiding Stat Spec shape
open Go.As Go.Proofs
set_option maxRecDepth 100000
noncomputable section
def b0:D:=.p (.i 0) (.p (.i 0) (.p (.i 0) (.p (.i 0) (.p (.i 0) (.p (.i 0) (.p (.i 0) (.p (.i 0) (.p (.i 0) (.p (.i 1) (.p (.i 1) (.p (.i 0) (.p (.i 0) (.p (.i 1) (.p (.i 0) (.p (.i 0) (.p (.i 0) (.p (.i 0) (.p (.i 0) (.p (.i 0) (.p (.i 0) (.p (.i 0) (.p (.i 0) (.p (.i 0) (.p (.i 0) (.p (.i 0) (.p (.i 0) (.p (.i 0) (.p (.i 0) (.p (.i 0) (.p (.i 0) (.p (.i 0) (.p (.i 1) (.p (.i 0) (.p (.i 0) (.p (.i 2) (.p (.i 0) (.p (.i 0) (.p (.i 0) (.p (.i 0) (.p (.i 5) (.p (.i 5) (.p (.i 5) (.p (.i 5) (.p (.i 0) (.p (.i 5) (.p (.i 0) (.p (.i 0) (.p (.i 3) (.p (.i 3) (.p (.i 3) (.p (.i 3) (.p (.i 3) (.p (.i 3) (.p (.i 3) (.p (.i 3) (.p (.i 3) (.p (.i 3) (.p (.i 0) (.p (.i 5) (.p (.i 5) (.p (.i 5) (.p (.i 0) (.p (.i 0) (.p (.i 0) (.p (.i 4) (.p (.i 4) (.p (.i 4) (.p (.i 4) (.p (.i 4) (.p (.i 4) (.p (.i 4) (.p (.i 4) (.p (.i 4) (.p (.i 4) (.p (.i 4) (.p (.i 4) (.p (.i 4) (.p (.i 4) (.p (.i 4) (.p (.i 4) (.p (.i 4) (.p (.i 4) (.p (.i 4) (.p (.i 4) (.p (.i 4) (.p (.i 4) (.p (.i 4) (.p (.i 4) (.p (.i 4) (.p (.i 4) (.p (.i 0) (.p (.i 0) (.p (.i 0) (.p (.i 0) (.p (.i 4) (.p (.i 0) (.p (.i 4) (.p (.i 4) (.p (.i 4) (.p (.i 4) (.p (.i 4) (.p (.i 4) (.p (.i 4) (.p (.i 4) (.p (.i 4) (.p (.i 4) (.p (.i 4) (.p (.i 4) (.p (.i 4) (.p (.i 4) (.p (.i 4) (.p (.i 4) (.p (.i 4) (.p (.i 4) (.p (.i 4) (.p (.i 4) (.p (.i 4) (.p (.i 4) (.p (.i 4) (.p (.i 4) (.p (.i 4) (.p (.i 4) (.p (.i 5) (.p (.i 0) (.p (.i 5) (.p (.i 0) (.p (.i 0) (.p (.i 0) (.p (.i 0) (.p (.i 0) (.p (.i 0) (.p (.i 0) (.p (.i 0) (.p (.i 0) (.p (.i 0) (.p (.i 0) (.p (.i 0) (.p (.i 0) (.p (.i 0) (.p (.i 0) (.p (.i 0) (.p (.i 0) (.p (.i 0) (.p (.i 0) (.p (.i 0) (.p (.i 0) (.p (.i 0) (.p (.i 0) (.p (.i 0) (.p (.i 0) (.p (.i 0) (.p (.i 0) (.p (.i 0) (.p (.i 0) (.p (.i 0) (.p (.i 0) (.p (.i 0) (.p (.i 0) (.p (.i 0) (.p (.i 0) (.p (.i 0) (.p (.i 0) (.p (.i 0) (.p (.i 0) (.p (.i 0) (.p (.i 0) (.p (.i 0) (.p (.i 0) (.p (.i 0) (.p (.i 0) (.p (.i 0) (.p (.i 0) (.p (.i 0) (.p (.i 0) (.p (.i 0) (.p (.i 0) (.p (.i 0) (.p (.i 0) (.p (.i 0) (.p (.i 0) (.p (.i 0) (.p (.i 0) (.p (.i 0) (.p (.i 0) (.p (.i 0) (.p (.i 0) (.p (.i 0) (.p (.i 0) (.p (.i 0) (.p (.i 0) (.p (.i 0) (.p (.i 0) (.p (.i 0) (.p (.i 0) (.p (.i 0) (.p (.i 0) (.p (.i 0) (.p (.i 0) (.p (.i 0) (.p (.i 0) (.p (.i 0) (.p (.i 0) (.p (.i 0) (.p (.i 0) (.p (.i 0) (.p (.i 0) (.p (.i 0) (.p (.i 0) (.p (.i 0) (.p (.i 0) (.p (.i 0) (.p (.i 0) (.p (.i 0) (.p (.i 0) (.p (.i 0) (.p (.i 0) (.p (.i 0) (.p (.i 0) (.p (.i 0) (.p (.i 0) (.p (.i 0) (.p (.i 0) (.p (.i 0) (.p (.i 0) (.p (.i 0) (.p (.i 0) (.p (.i 0) (.p (.i 0) (.p (.i 0) (.p (.i 0) (.p (.i 0) (.p (.i 0) (.p (.i 0) (.p (.i 0) (.p (.i 0) (.p (.i 0) (.p (.i 0) (.p (.i 0) (.p (.i 0) (.p (.i 0) (.p (.i 0) (.p (.i 0) (.p (.i 0) (.p (.i 0) (.p (.i 0) (.p (.i 0) (.p (.i 0) (.p (.i 0) (.p (.i 0) (.p (.i 0) (.p (.i 0) (.p (.i 0) (.p (.i 0) (.p (.i 0) (.p (.i 0) (.i 0))))))))))))))))))))))))))))))))))))))))))))))))))))))))))))))))))))))))))))))))))))))))))))))))))))))))))))))))))))))))))))))))))))))))))))))))))))))))))))))))))))))))))))))))))))))))))))))))))))))))))))))))))))))))))))))))))))))))))))))))))))))))))))))))
def b1:D:=.p (.i 32) (.p (.i 97) (.p (.i 99) (.p (.i 113) (.p (.i 117) (.p (.i 105) (.p (.i 114) (.p (.i 101) (.p (.i 32) (.p (.i 97) (.p (.i 100) (.p (.i 100) (.p (.i 32) (.p (.i 97) (.p (.i 114) (.p (.i 114) (.p (.i 105) (.p (.i 118) (.p (.i 101) (.p (.i 32) (.p (.i 98) (.p (.i 97) (.p (.i 114) (.p (.i 114) (.p (.i 105) (.p (.i 101) (.p (.i 114) (.p (.i 32) (.p (.i 98) (.p (.i 114) (.p (.i 111) (.p (.i 97) (.p (.i 100) (.p (.i 99) (.p (.i 97) (.p (.i 115) (.p (.i 116) (.p (.i 32) (.p (.i 99) (.p (.i 111) (.p (.i 110) (.p (.i 100) (.p (.i 32) (.p (.i 100) (.p (.i 111) (.p (.i 32) (.p (.i 100) (.p (.i 111) (.p (.i 110) (.p (.i 101) (.p (.i 32) (.p (.i 101) (.p (.i 108) (.p (.i 115) (.p (.i 101) (.p (.i 32) (.p (.i 105) (.p (.i 102) (.p (.i 32) (.p (.i 108) (.p (.i 111) (.p (.i 99) (.p (.i 107) (.p (.i 32) (.p (.i 108) (.p (.i 111) (.p (.i 99) (.p (.i 107) (.p (.i 102) (.p (.i 111) (.p (.i 114) (.p (.i 32) (.p (.i 108) (.p (.i 111) (.p (.i 111) (.p (.i 112) (.p (.i 32) (.p (.i 109) (.p (.i 117) (.p (.i 116) (.p (.i 101) (.p (.i 120) (.p (.i 32) (.p (.i 111) (.p (.i 110) (.p (.i 99) (.p (.i 101) (.p (.i 32) (.p (.i 112) (.p (.i 117) (.p (.i 116) (.p (.i 32) (.p (.i 113) (.p (.i 117) (.p (.i 101) (.p (.i 117) (.p (.i 101) (.p (.i 32) (.p (.i 114) (.p (.i 101) (.p (.i 97) (.p (.i 100) (.p (.i 32) (.p (.i 114) (.p (.i 101) (.p (.i 108) (.p (.i 101) (.p (.i 97) (.p (.i 115) (.p (.i 101) (.p (.i 32) (.p (.i 114) (.p (.i 108) (.p (.i 111) (.p (.i 99) (.p (.i 107) (.p (.i 32) (.p (.i 114) (.p (.i 117) (.p (.i 110) (.p (.i 108) (.p (.i 111) (.p (.i 99) (.p (.i 107) (.p (.i 32) (.p (.i 114) (.p (.i 119) (.p (.i 108) (.p (.i 111) (.p (.i 99) (.p (.i 107) (.p (.i 32) (.p (.i 115) (.p (.i 101) (.p (.i 109) (.p (.i 32) (.p (.i 115) (.p (.i 101) (.p (.i 116) (.p (.i 32) (.p (.i 115) (.p (.i 105) (.p (.i 103) (.p (.i 110) (.p (.i 97) (.p (.i 108) (.p (.i 32) (.p (.i 116) (.p (.i 97) (.p (.i 107) (.p (.i 101) (.p (.i 32) (.p (.i 116) (.p (.i 104) (.p (.i 114) (.p (.i 101) (.p (.i 97) (.p (.i 100) (.p (.i 32) (.p (.i 116) (.p (.i 114) (.p (.i 121) (.p (.i 97) (.p (.i 99) (.p (.i 113) (.p (.i 117) (.p (.i 105) (.p (.i 114) (.p (.i 101) (.p (.i 32) (.p (.i 116) (.p (.i 114) (.p (.i 121) (.p (.i 108) (.p (.i 111) (.p (.i 99) (.p (.i 107) (.p (.i 32) (.p (.i 117) (.p (.i 110) (.p (.i 108) (.p (.i 111) (.p (.i 99) (.p (.i 107) (.p (.i 32) (.p (.i 118) (.p (.i 97) (.p (.i 114) (.p (.i 32) (.p (.i 119) (.p (.i 97) (.p (.i 105) (.p (.i 116) (.p (.i 32) (.p (.i 119) (.p (.i 97) (.p (.i 105) (.p (.i 116) (.p (.i 102) (.p (.i 111) (.p (.i 114) (.p (.i 32) (.p (.i 119) (.p (.i 97) (.p (.i 105) (.p (.i 116) (.p (.i 111) (.p (.i 110) (.p (.i 32) (.p (.i 119) (.p (.i 108) (.p (.i 111) (.p (.i 99) (.p (.i 107) (.p (.i 32) (.p (.i 119) (.p (.i 114) (.p (.i 105) (.p (.i 116) (.p (.i 101) (.p (.i 32) (.p (.i 119) (.p (.i 117) (.p (.i 110) (.p (.i 108) (.p (.i 111) (.p (.i 99) (.p (.i 107) (.p (.i 32) (.i 0)))))))))))))))))))))))))))))))))))))))))))))))))))))))))))))))))))))))))))))))))))))))))))))))))))))))))))))))))))))))))))))))))))))))))))))))))))))))))))))))))))))))))))))))))))))))))))))))))))))))))))))))))))))))))))))))))))))
abbrev Qa:SE:=.lit 0
abbrev Qb:SE:=.aQ 1
abbrev Qc:SE:=ln Qb
abbrev Qd:SB:=.lt Qa Qc
abbrev Qe:SB:=.lt Qc (.lit 1759218604441)
abbrev Qf:SE:=.aQ 0
abbrev Qg:SE:=.op .norm Qb Qa
abbrev Qh:SE:=.dat (.i 1)
abbrev Qi:SB:=.eq Qg Qh
abbrev Qj:List SE:=[Qf]
abbrev Qk:SE:=.dat (.i 2)
abbrev Ql:SB:=.eq Qg Qk
def OZ:T Lf:=sp Qd (sp Qe (ju 9001 [Qf,Qb,Qc,Qa]) fl) (sp Qi (ju 9002 Qj) (sp Ql (ju 9003 Qj) fl))
abbrev Qm:SE:=.aQ 3
abbrev Qn:SB:=.eq Qm Qf
abbrev Qo:SE:=.aQ 2
abbrev Qp:SB:=.lt Qm Qo
abbrev Qq:SB:=.lt Qm Qa
abbrev Qr:SB:=.lt Qm Qc
abbrev Qs:SE:=el Qb Qm
abbrev Qt:SE:=ce 4 Qs
abbrev Qu:SB:=.lt Qa (ln Qt)
abbrev Qv:SE:=.lit 17592186044416
abbrev Qw:SB:=.lt (ln Qt) Qv
abbrev Qx:SE:=ce 5 Qs
abbrev Qy:SB:=.lt Qa (ln Qx)
abbrev Qz:SB:=.lt (ln Qx) Qv
abbrev Q0:SE:=.lit 1
abbrev Q1:SE:=wr (.add Qm Q0)
abbrev Q2:SE:=el Qb Qf
abbrev Q3:SE:=nm (ce 0 Q2)
abbrev Q4:SE:=nm (ce 1 Q2)
abbrev Q5:SE:=nm (ce 2 Q2)
abbrev Q6:SE:=nm (ce 3 Q2)
abbrev Q7:SB:=.eq Qx Qh
abbrev Q8:SB:=.eq Qx Qk
abbrev Q9:SB:=.eq Qt Qh
abbrev Qba:SB:=.eq Qt Qk
abbrev Qbb:T Lf:=ou [Qa,Qf,Qb]
abbrev XI:SE:=mk Qm
abbrev Qbd:SE:=.dat (.i 4)
abbrev Qbe:SE:=.op .set Qb (cn XI (.op .set Qs (cn Qbd Qt)))
abbrev Qbf:SE:=.dat (.i 5)
abbrev Qbg:SE:=.op .set Qbe (cn XI (.op .set (el Qbe Qm) (cn Qbf Qx)))
abbrev Qbh:SE:=cn Qbf Qh
abbrev Qbi:SE:=.op .set Qbe (cn XI (.op .set (el Qbe Qm) Qbh))
abbrev Qbj:SE:=cn Qbf Qk
abbrev Qbk:SE:=.op .set Qbe (cn XI (.op .set (el Qbe Qm) Qbj))
abbrev Qbl:SE:=cn Qbd Qh
abbrev Qbm:SE:=.op .set Qb (cn XI (.op .set Qs Qbl))
abbrev Qbn:SE:=.op .set Qbm (cn XI (.op .set (el Qbm Qm) (cn Qbf Qx)))
abbrev Qbo:SE:=.op .set Qbm (cn XI (.op .set (el Qbm Qm) Qbh))
abbrev Qbp:SE:=.op .set Qbm (cn XI (.op .set (el Qbm Qm) Qbj))
abbrev Qbq:SE:=cn Qbd Qk
abbrev Qbr:SE:=.op .set Qb (cn XI (.op .set Qs Qbq))
abbrev Qbs:SE:=.op .set Qbr (cn XI (.op .set (el Qbr Qm) (cn Qbf Qx)))
abbrev Qbt:SE:=.op .set Qbr (cn XI (.op .set (el Qbr Qm) Qbh))
abbrev Qbu:SE:=.op .set Qbr (cn XI (.op .set (el Qbr Qm) Qbj))
def uP:T Lf:=sp Qn (sp Qp (sp Qq fl (sp Qr (sp Qu (sp Qw (sp Qy (sp Qz (ju 9004 [Qf,Qb,Qo,Q1,Q3,Q4,Q5,Q6,Qt,Qx]) fl) (sp Q7 (ju 9005 [Qf,Qb,Qo,Q1,Q3,Q4,Q5,Q6,Qt,Qh]) (sp Q8 (ju 9005 [Qf,Qb,Qo,Q1,Q3,Q4,Q5,Q6,Qt,Qk]) fl))) fl) (sp Q9 (sp Qy (sp Qz (ju 9006 [Qf,Qb,Qo,Q1,Q3,Q4,Q5,Q6,Qh,Qx]) fl) (sp Q7 (ju 9007 [Qf,Qb,Qo,Q1,Q3,Q4,Q5,Q6,Qh,Qh]) (sp Q8 (ju 9007 [Qf,Qb,Qo,Q1,Q3,Q4,Q5,Q6,Qh,Qk]) fl))) (sp Qba (sp Qy (sp Qz (ju 9006 [Qf,Qb,Qo,Q1,Q3,Q4,Q5,Q6,Qk,Qx]) fl) (sp Q7 (ju 9007 [Qf,Qb,Qo,Q1,Q3,Q4,Q5,Q6,Qk,Qh]) (sp Q8 (ju 9007 [Qf,Qb,Qo,Q1,Q3,Q4,Q5,Q6,Qk,Qk]) fl))) fl))) fl)) Qbb) (sp Qp (sp Qq fl (sp Qr (sp Qu (sp Qw (sp Qy (sp Qz (ju 9001 [Qf,Qbg,Qo,Q1]) fl) (sp Q7 (ju 9001 [Qf,Qbi,Qo,Q1]) (sp Q8 (ju 9001 [Qf,Qbk,Qo,Q1]) fl))) fl) (sp Q9 (sp Qy (sp Qz (ju 9001 [Qf,Qbn,Qo,Q1]) fl) (sp Q7 (ju 9001 [Qf,Qbo,Qo,Q1]) (sp Q8 (ju 9001 [Qf,Qbp,Qo,Q1]) fl))) (sp Qba (sp Qy (sp Qz (ju 9001 [Qf,Qbs,Qo,Q1]) fl) (sp Q7 (ju 9001 [Qf,Qbt,Qo,Q1]) (sp Q8 (ju 9001 [Qf,Qbu,Qo,Q1]) fl))) fl))) fl)) Qbb)
abbrev Qbv:SB:=.eq Qa Qf
def ahK:T Lf:=sp Qbv (ou [Q0,Qf]) (ou [Q0,Qf])
abbrev kY:SE:=.lit 2
def ahJ:T Lf:=sp Qbv (ou [kY,Qf]) (ou [kY,Qf])
abbrev Qbx:T Lf:=sp Qq fl (sp Qr fl fl)
abbrev tY:SE:=.lit 3
abbrev bF:SE:=.aQ 4
abbrev bY:SE:=.aQ 5
abbrev dP:SE:=.aQ 6
abbrev fC:SE:=.aQ 7
abbrev fU:SE:=.aQ 8
abbrev iO:SE:=.aQ 9
abbrev Qb5:T Lf:=ou [tY,Qf,Qb,bF,bY,dP,fC,fU,iO]
abbrev Qb6:List SE:=[Qf,Qbg,Qo,Q1,bF,bY,dP,fC,fU,iO]
abbrev Qb7:List SE:=[Qf,Qbi,Qo,Q1,bF,bY,dP,fC,fU,iO]
abbrev Qb8:List SE:=[Qf,Qbk,Qo,Q1,bF,bY,dP,fC,fU,iO]
abbrev Qb9:List SE:=[Qf,Qbn,Qo,Q1,bF,bY,dP,fC,fU,iO]
abbrev Qca:List SE:=[Qf,Qbo,Qo,Q1,bF,bY,dP,fC,fU,iO]
abbrev Qcb:List SE:=[Qf,Qbp,Qo,Q1,bF,bY,dP,fC,fU,iO]
abbrev Qcc:List SE:=[Qf,Qbs,Qo,Q1,bF,bY,dP,fC,fU,iO]
abbrev Qcd:List SE:=[Qf,Qbt,Qo,Q1,bF,bY,dP,fC,fU,iO]
abbrev Qce:List SE:=[Qf,Qbu,Qo,Q1,bF,bY,dP,fC,fU,iO]
def aaB:T Lf:=sp Qn (sp Qp Qbx Qb5) (sp Qp (sp Qq fl (sp Qr (sp Qu (sp Qw (sp Qy (sp Qz (ju 9004 Qb6) fl) (sp Q7 (ju 9004 Qb7) (sp Q8 (ju 9004 Qb8) fl))) fl) (sp Q9 (sp Qy (sp Qz (ju 9004 Qb9) fl) (sp Q7 (ju 9004 Qca) (sp Q8 (ju 9004 Qcb) fl))) (sp Qba (sp Qy (sp Qz (ju 9004 Qcc) fl) (sp Q7 (ju 9004 Qcd) (sp Q8 (ju 9004 Qce) fl))) fl))) fl)) Qb5)
abbrev EO:SE:=.lit 4
abbrev Qcg:T Lf:=ou [EO,Qf,Qb,bF,bY,dP,fC,fU,iO]
def aaA:T Lf:=sp Qn (sp Qp Qbx Qcg) (sp Qp (sp Qq fl (sp Qr (sp Qu (sp Qw (sp Qy (sp Qz (ju 9005 Qb6) fl) (sp Q7 (ju 9005 Qb7) (sp Q8 (ju 9005 Qb8) fl))) fl) (sp Q9 (sp Qy (sp Qz (ju 9005 Qb9) fl) (sp Q7 (ju 9005 Qca) (sp Q8 (ju 9005 Qcb) fl))) (sp Qba (sp Qy (sp Qz (ju 9005 Qcc) fl) (sp Q7 (ju 9005 Qcd) (sp Q8 (ju 9005 Qce) fl))) fl))) fl)) Qcg)
abbrev ZN:SE:=.lit 5
abbrev Qci:T Lf:=ou [ZN,Qf,Qb,bF,bY,dP,fC,fU,iO]
def Z9:T Lf:=sp Qn (sp Qp Qbx Qci) (sp Qp (sp Qq fl (sp Qr (sp Qu (sp Qw (sp Qy (sp Qz (ju 9006 Qb6) fl) (sp Q7 (ju 9006 Qb7) (sp Q8 (ju 9006 Qb8) fl))) fl) (sp Q9 (sp Qy (sp Qz (ju 9006 Qb9) fl) (sp Q7 (ju 9006 Qca) (sp Q8 (ju 9006 Qcb) fl))) (sp Qba (sp Qy (sp Qz (ju 9006 Qcc) fl) (sp Q7 (ju 9006 Qcd) (sp Q8 (ju 9006 Qce) fl))) fl))) fl)) Qci)
abbrev XH:SE:=.lit 6
abbrev Qck:T Lf:=ou [XH,Qf,Qb,bF,bY,dP,fC,fU,iO]
def Z8:T Lf:=sp Qn (sp Qp Qbx Qck) (sp Qp (sp Qq fl (sp Qr (sp Qu (sp Qw (sp Qy (sp Qz (ju 9007 Qb6) fl) (sp Q7 (ju 9007 Qb7) (sp Q8 (ju 9007 Qb8) fl))) fl) (sp Q9 (sp Qy (sp Qz (ju 9007 Qb9) fl) (sp Q7 (ju 9007 Qca) (sp Q8 (ju 9007 Qcb) fl))) (sp Qba (sp Qy (sp Qz (ju 9007 Qcc) fl) (sp Q7 (ju 9007 Qcd) (sp Q8 (ju 9007 Qce) fl))) fl))) fl)) Qck)
abbrev U7:SE:=ln Qo
abbrev Qcm:SB:=.lt Qa U7
abbrev Qcn:SB:=.lt U7 (.lit 2199023255552)
abbrev Qco:SB:=.eq (.op .norm Qo Qa) Qh
abbrev Qcp:List SE:=[Qf,Qc,Qa,Qb]
abbrev Qcq:SB:=.eq (.op .norm Qo Qa) Qk
def IW:T Lf:=sp Qd (sp Qe (sp Qcm (sp Qcn (ju 9051 [Qf,Qc,Qa,Qb,Qo]) fl) (sp Qco (ju 9052 Qcp) (sp Qcq (ju 9053 Qcp) fl))) fl) (sp Qi (sp Qcm (sp Qcn (ju 9054 [Qf,Qo]) fl) (sp Qco (ju 9055 Qj) (sp Qcq (ju 9056 Qj) fl))) (sp Ql (sp Qcm (sp Qcn (ju 9057 [Qf,Qo]) fl) (sp Qco (ju 9058 Qj) (sp Qcq (ju 9059 Qj) fl))) fl))
abbrev yH:SB:=.lt Qo Qb
abbrev vN:SB:=.lt Qo Qa
abbrev He:SE:=ln Qm
abbrev Qcu:SB:=.lt Qo He
abbrev ZM:SE:=el Qm Qo
abbrev Qcw:SE:=ce 4 ZM
abbrev Qcx:SB:=.lt Qa (ln Qcw)
abbrev Qcy:SB:=.lt (ln Qcw) Qv
abbrev Qcz:SE:=ce 5 ZM
abbrev Qc0:SB:=.lt Qa (ln Qcz)
abbrev Qc1:SB:=.lt (ln Qcz) Qv
abbrev mG:SE:=wr (.add Qo Q0)
abbrev EP:SE:=mk Qo
abbrev Qc4:SE:=.op .set Qm (cn EP (.op .set ZM (cn Qbd Qcw)))
abbrev Qc5:SE:=.op .set Qc4 (cn EP (.op .set (el Qc4 Qo) (cn Qbf Qcz)))
abbrev Qc6:SB:=.eq Qcz Qh
abbrev Qc7:SE:=.op .set Qc4 (cn EP (.op .set (el Qc4 Qo) Qbh))
abbrev Qc8:SB:=.eq Qcz Qk
abbrev Qc9:SE:=.op .set Qc4 (cn EP (.op .set (el Qc4 Qo) Qbj))
abbrev Qda:SE:=.op .set Qm (cn EP (.op .set ZM Qbl))
abbrev Qdb:SE:=.op .set Qda (cn EP (.op .set (el Qda Qo) (cn Qbf Qcz)))
abbrev Qdc:SE:=.op .set Qda (cn EP (.op .set (el Qda Qo) Qbh))
abbrev Qdd:SE:=.op .set Qda (cn EP (.op .set (el Qda Qo) Qbj))
abbrev Qde:SE:=.op .set Qm (cn EP (.op .set ZM Qbq))
abbrev Qdf:SE:=.op .set Qde (cn EP (.op .set (el Qde Qo) (cn Qbf Qcz)))
abbrev Qdg:SE:=.op .set Qde (cn EP (.op .set (el Qde Qo) Qbh))
abbrev Qdh:SE:=.op .set Qde (cn EP (.op .set (el Qde Qo) Qbj))
abbrev XG:SE:=ln bF
def Z7:T Lf:=sp yH (sp vN fl (sp Qcu (sp Qcx (sp Qcy (sp Qc0 (sp Qc1 (ju 9051 [Qf,Qb,mG,Qc5,bF]) fl) (sp Qc6 (ju 9051 [Qf,Qb,mG,Qc7,bF]) (sp Qc8 (ju 9051 [Qf,Qb,mG,Qc9,bF]) fl))) fl) (sp (.eq Qcw Qh) (sp Qc0 (sp Qc1 (ju 9051 [Qf,Qb,mG,Qdb,bF]) fl) (sp Qc6 (ju 9051 [Qf,Qb,mG,Qdc,bF]) (sp Qc8 (ju 9051 [Qf,Qb,mG,Qdd,bF]) fl))) (sp (.eq Qcw Qk) (sp Qc0 (sp Qc1 (ju 9051 [Qf,Qb,mG,Qdf,bF]) fl) (sp Qc6 (ju 9051 [Qf,Qb,mG,Qdg,bF]) (sp Qc8 (ju 9051 [Qf,Qb,mG,Qdh,bF]) fl))) fl))) fl)) (ju 9060 [Qf,XG,Qa,Qm,bF])
def Z5:T Lf:=sp yH (sp vN fl (sp Qcu (sp Qcx (sp Qcy (sp Qc0 (sp Qc1 (ju 9052 [Qf,Qb,mG,Qc5]) fl) (sp Qc6 (ju 9052 [Qf,Qb,mG,Qc7]) (sp Qc8 (ju 9052 [Qf,Qb,mG,Qc9]) fl))) fl) (sp (.eq Qcw Qh) (sp Qc0 (sp Qc1 (ju 9052 [Qf,Qb,mG,Qdb]) fl) (sp Qc6 (ju 9052 [Qf,Qb,mG,Qdc]) (sp Qc8 (ju 9052 [Qf,Qb,mG,Qdd]) fl))) (sp (.eq Qcw Qk) (sp Qc0 (sp Qc1 (ju 9052 [Qf,Qb,mG,Qdf]) fl) (sp Qc6 (ju 9052 [Qf,Qb,mG,Qdg]) (sp Qc8 (ju 9052 [Qf,Qb,mG,Qdh]) fl))) fl))) fl)) (ju 9061 [Qf,Qm])
def awE:T Lf:=sp yH (sp vN fl (sp Qcu (sp Qcx (sp Qcy (sp Qc0 (sp Qc1 (ju 9053 [Qf,Qb,mG,Qc5]) fl) (sp Qc6 (ju 9053 [Qf,Qb,mG,Qc7]) (sp Qc8 (ju 9053 [Qf,Qb,mG,Qc9]) fl))) fl) (sp (.eq Qcw Qh) (sp Qc0 (sp Qc1 (ju 9053 [Qf,Qb,mG,Qdb]) fl) (sp Qc6 (ju 9053 [Qf,Qb,mG,Qdc]) (sp Qc8 (ju 9053 [Qf,Qb,mG,Qdd]) fl))) (sp (.eq Qcw Qk) (sp Qc0 (sp Qc1 (ju 9053 [Qf,Qb,mG,Qdf]) fl) (sp Qc6 (ju 9053 [Qf,Qb,mG,Qdg]) (sp Qc8 (ju 9053 [Qf,Qb,mG,Qdh]) fl))) fl))) fl)) (ju 9062 [Qf,Qm])
def ahI:T Lf:=ju 9063 Qcp
def awD:T Lf:=ju 9064 Qj
def awC:T Lf:=ju 9065 Qj
def avZ:T Lf:=ju 9066 Qcp
def avY:T Lf:=ju 9067 Qj
def avX:T Lf:=ju 9068 Qj
abbrev Qdj:SB:=.eq Qo Qf
abbrev Qdk:SB:=.lt Qo XG
abbrev Qdl:SE:=el bF Qo
abbrev Qdm:SE:=ce 1 Qdl
abbrev Qdn:SB:=.lt Qa (ln Qdm)
abbrev Qdo:SB:=.lt (ln Qdm) Qv
abbrev Qdp:SE:=el bF Qf
abbrev Qdq:SE:=nm (ce 0 Qdp)
abbrev Qdr:SE:=nm (ce 2 Qdp)
abbrev Qds:SE:=nm (ce 3 Qdp)
abbrev Qdt:SE:=nm (ce 4 Qdp)
abbrev Qdu:SE:=nm (ce 5 Qdp)
abbrev Qdv:SB:=.eq Qdm Qh
abbrev Qdw:SB:=.eq Qdm Qk
abbrev Qdx:SE:=.op .set bF (cn EP (.op .set Qdl (cn Qh Qdm)))
abbrev Qdy:SE:=cn Qh Qh
abbrev Qdz:SE:=.op .set bF (cn EP (.op .set Qdl Qdy))
abbrev Qd0:SE:=cn Qh Qk
abbrev Qd1:SE:=.op .set bF (cn EP (.op .set Qdl Qd0))
def EY:T Lf:=sp Qdj (sp yH (sp vN fl (sp Qdk (sp Qdn (sp Qdo (ju 9069 [Qf,Qb,mG,Qm,bF,Qdq,Qdm,Qdr,Qds,Qdt,Qdu]) fl) (sp Qdv (ju 9070 [Qf,Qb,mG,Qm,bF,Qdq,Qh,Qdr,Qds,Qdt,Qdu]) (sp Qdw (ju 9070 [Qf,Qb,mG,Qm,bF,Qdq,Qk,Qdr,Qds,Qdt,Qdu]) fl))) fl)) (ou [Qa,Qf,Qm,bF])) (sp yH (sp vN fl (sp Qdk (sp Qdn (sp Qdo (ju 9060 [Qf,Qb,mG,Qm,Qdx]) fl) (sp Qdv (ju 9060 [Qf,Qb,mG,Qm,Qdz]) (sp Qdw (ju 9060 [Qf,Qb,mG,Qm,Qd1]) fl))) fl)) (ou [Qa,Qf,Qm,bF]))
abbrev Qd2:T Lf:=ou [Q0,Qf,Qb]
def ahH:T Lf:=sp Qbv Qd2 Qd2
def avW:T Lf:=sp Qbv (ou [kY,Qf,Qb]) (ou [kY,Qf,Qb])
abbrev Qd3:SE:=ce 1 ZM
abbrev Qd4:SB:=.lt Qa (ln Qd3)
abbrev Qd5:SB:=.lt (ln Qd3) Qv
abbrev Qd6:SE:=el Qm Qf
abbrev Qd7:SE:=nm (ce 0 Qd6)
abbrev Qd8:SE:=nm (ce 2 Qd6)
abbrev Qd9:SE:=nm (ce 3 Qd6)
abbrev Qea:SE:=nm (ce 4 Qd6)
abbrev Qeb:SE:=nm (ce 5 Qd6)
abbrev Qec:List SE:=[Qf,Qb,mG,Qm,Qd7,Qd3,Qd8,Qd9,Qea,Qeb]
abbrev Qed:SB:=.eq Qd3 Qh
abbrev Qee:List SE:=[Qf,Qb,mG,Qm,Qd7,Qh,Qd8,Qd9,Qea,Qeb]
abbrev Qef:SB:=.eq Qd3 Qk
abbrev Qeg:List SE:=[Qf,Qb,mG,Qm,Qd7,Qk,Qd8,Qd9,Qea,Qeb]
abbrev Qeh:SE:=.op .set Qm (cn EP (.op .set ZM (cn Qh Qd3)))
abbrev Qei:SE:=.op .set Qm (cn EP (.op .set ZM Qdy))
abbrev Qej:SE:=.op .set Qm (cn EP (.op .set ZM Qd0))
def EX:T Lf:=sp Qdj (sp yH (sp vN fl (sp Qcu (sp Qd4 (sp Qd5 (ju 9071 Qec) fl) (sp Qed (ju 9072 Qee) (sp Qef (ju 9072 Qeg) fl))) fl)) (ou [Qa,Qf,Qh,Qm])) (sp yH (sp vN fl (sp Qcu (sp Qd4 (sp Qd5 (ju 9063 [Qf,Qb,mG,Qeh]) fl) (sp Qed (ju 9063 [Qf,Qb,mG,Qei]) (sp Qef (ju 9063 [Qf,Qb,mG,Qej]) fl))) fl)) (ou [Qa,Qf,Qh,Qm]))
def ahG:T Lf:=sp Qbv (ou [Q0,Qf,Qh]) (ou [Q0,Qf,Qh])
def avV:T Lf:=sp Qbv (ou [kY,Qf,Qh]) (ou [kY,Qf,Qh])
def avU:T Lf:=sp Qdj (sp yH (sp vN fl (sp Qcu (sp Qd4 (sp Qd5 (ju 9073 Qec) fl) (sp Qed (ju 9074 Qee) (sp Qef (ju 9074 Qeg) fl))) fl)) (ou [Qa,Qf,Qk,Qm])) (sp yH (sp vN fl (sp Qcu (sp Qd4 (sp Qd5 (ju 9066 [Qf,Qb,mG,Qeh]) fl) (sp Qed (ju 9066 [Qf,Qb,mG,Qei]) (sp Qef (ju 9066 [Qf,Qb,mG,Qej]) fl))) fl)) (ou [Qa,Qf,Qk,Qm]))
def avT:T Lf:=sp Qbv (ou [Q0,Qf,Qk]) (ou [Q0,Qf,Qk])
def avS:T Lf:=sp Qbv (ou [kY,Qf,Qk]) (ou [kY,Qf,Qk])
abbrev Qek:T Lf:=sp vN fl (sp Qdk fl fl)
abbrev kV:SE:=.aQ 10
abbrev Qem:T Lf:=ou [tY,Qf,Qm,bF,bY,dP,fC,fU,iO,kV]
abbrev Qen:List SE:=[Qf,Qb,mG,Qm,Qdx,bY,dP,fC,fU,iO,kV]
abbrev Qeo:List SE:=[Qf,Qb,mG,Qm,Qdz,bY,dP,fC,fU,iO,kV]
abbrev Qep:List SE:=[Qf,Qb,mG,Qm,Qd1,bY,dP,fC,fU,iO,kV]
def Z4:T Lf:=sp Qdj (sp yH Qek Qem) (sp yH (sp vN fl (sp Qdk (sp Qdn (sp Qdo (ju 9069 Qen) fl) (sp Qdv (ju 9069 Qeo) (sp Qdw (ju 9069 Qep) fl))) fl)) Qem)
abbrev Qeq:T Lf:=ou [EO,Qf,Qm,bF,bY,dP,fC,fU,iO,kV]
def ZY:T Lf:=sp Qdj (sp yH Qek Qeq) (sp yH (sp vN fl (sp Qdk (sp Qdn (sp Qdo (ju 9070 Qen) fl) (sp Qdv (ju 9070 Qeo) (sp Qdw (ju 9070 Qep) fl))) fl)) Qeq)
abbrev Qer:T Lf:=sp vN fl (sp Qcu fl fl)
abbrev Qes:T Lf:=ou [tY,Qf,Qh,Qm,bF,bY,dP,fC,fU,iO]
abbrev Qet:List SE:=[Qf,Qb,mG,Qeh,bF,bY,dP,fC,fU,iO]
abbrev Qeu:List SE:=[Qf,Qb,mG,Qei,bF,bY,dP,fC,fU,iO]
abbrev Qev:List SE:=[Qf,Qb,mG,Qej,bF,bY,dP,fC,fU,iO]
def ZX:T Lf:=sp Qdj (sp yH Qer Qes) (sp yH (sp vN fl (sp Qcu (sp Qd4 (sp Qd5 (ju 9071 Qet) fl) (sp Qed (ju 9071 Qeu) (sp Qef (ju 9071 Qev) fl))) fl)) Qes)
abbrev Qew:T Lf:=ou [EO,Qf,Qh,Qm,bF,bY,dP,fC,fU,iO]
def ZW:T Lf:=sp Qdj (sp yH Qer Qew) (sp yH (sp vN fl (sp Qcu (sp Qd4 (sp Qd5 (ju 9072 Qet) fl) (sp Qed (ju 9072 Qeu) (sp Qef (ju 9072 Qev) fl))) fl)) Qew)
abbrev Qex:T Lf:=ou [tY,Qf,Qk,Qm,bF,bY,dP,fC,fU,iO]
def avR:T Lf:=sp Qdj (sp yH Qer Qex) (sp yH (sp vN fl (sp Qcu (sp Qd4 (sp Qd5 (ju 9073 Qet) fl) (sp Qed (ju 9073 Qeu) (sp Qef (ju 9073 Qev) fl))) fl)) Qex)
abbrev Qey:T Lf:=ou [EO,Qf,Qk,Qm,bF,bY,dP,fC,fU,iO]
def avQ:T Lf:=sp Qdj (sp yH Qer Qey) (sp yH (sp vN fl (sp Qcu (sp Qd4 (sp Qd5 (ju 9074 Qet) fl) (sp Qed (ju 9074 Qeu) (sp Qef (ju 9074 Qev) fl))) fl)) Qey)
abbrev vJ:SE:=ln Qf
def aCy:T Lf:=ju 101 [wr (.add vJ Qc),Qc,Qa,Qf,Qb]
abbrev kQ:T Lf:=ou [Q0]
abbrev bM:T Lf:=ou [Qa]
def aCx:T Lf:=sp yH (sp vN fl (sp Qdk (ju 102 [wr (.add Qf (wr (.add (ln Qdm) (ln (ce 2 Qdl))))),Qo,Qa,Qb,Qm,bF]) fl)) (sp (.lt (.lit 6000) Qf) kQ bM)
abbrev Qe2:SB:=.lt Qb Qa
abbrev Qe3:SE:=ln bY
abbrev Xo:SE:=el bY Qb
abbrev Qe5:SE:=wr (.add Qb Q0)
abbrev Qe6:T Lf:=ju 101 [Qf,Qm,Qe5,bF,bY]
abbrev Qe7:SE:=ce 6 (el (ce 2 Xo) Qo)
def aCw:T Lf:=sp Qe2 fl (sp (.lt Qb Qe3) (sp (.lt Qo (ln (ce 2 Xo))) (sp (.lt (.lit 6000) Qf) Qe6 (sp vN fl (ju 103 [Qf,Qb,Qo,Qm,Qe7,ln Qe7,Qa,bF,bY]))) Qe6) fl)
abbrev Qe8:SB:=.lt dP Qa
abbrev Qe9:SE:=el bF dP
abbrev Qfa:SE:=.lit 60
abbrev Qfb:List SE:=[nm (ce 0 Qe9),ce 1 Qe9,nm (ce 2 Qe9),ce 3 Qe9,Qfa]
def aCv:T Lf:=sp (.lt dP bY) (sp Qe8 fl (sp (.lt dP XG) (sp (.eq (a0 150 Qfb) Q0) (ju 103 [wr (.add Qf (rr 150 Qfb 0)),Qb,Qo,Qm,bF,bY,wr (.add dP Q0),fC,fU]) fl) fl)) (ju 102 [Qf,Qb,mG,Qm,fC,fU])
abbrev Qfc:SB:=.lt bF Q0
def aCu:T Lf:=sp Qfc (ou [.lit 10000]) (ju 151 [bF,wr (.add Q0 (wr (.quo Qc (.lit 100)))),Qa,Qf,Qb,Qo,Qm])
abbrev ZK:SE:=ln dP
abbrev Qfe:SE:=el dP Qo
abbrev Qff:List SE:=[nm (ce 0 Qfe),ce 1 Qfe,nm (ce 2 Qfe),ce 3 Qfe,wr (.sub Qf Q0)]
def aCt:T Lf:=sp (.lt Qo ZK) (sp (.lt (.lit 10000) Qb) (ou [Qb]) (sp vN fl (sp (.eq (a0 150 Qff) Q0) (ju 151 [Qf,wr (.add Qb (rr 150 Qff 0)),mG,Qm,bF,bY,dP]) fl))) (ou [Qb])
abbrev Qfg:SB:=.eq vJ Qc
abbrev Qfh:List SE:=[Qf,Qb,vJ,Qa]
def arO:T Lf:=sp Qfg (ju 201 Qfh) bM
abbrev Qfi:SB:=.lt Qm vJ
abbrev ZJ:SE:=el Qf Qm
abbrev Qfk:SE:=nm (ce 0 Qs)
abbrev Qfl:SB:=.eq (nm (ce 0 ZJ)) Qfk
abbrev Qfm:SB:=.eq (nm (ce 1 ZJ)) (nm (ce 1 Qs))
abbrev Qfn:SE:=nm (ce 2 ZJ)
abbrev Qfo:SE:=nm (ce 2 Qs)
abbrev Qfp:SB:=.eq (nm (ce 3 ZJ)) (nm (ce 3 Qs))
def t201:T Lf:=sp Qp (sp Qq fl (sp Qfi (sp Qr (sp Qfl (sp Qfm (sp (.and (.not (.and (.not (.eq Qfn Qa)) (.not (.eq Qfo Qa)))) (.not (.and (.not (.not (.eq Qfn Qa))) (.not (.not (.eq Qfo Qa)))))) bM (sp Qfp (sp (.eq (a0 250 [ce 4 ZJ,Qt]) Q0) (sp (.eq (rr 250 [ce 4 ZJ,Qt] 0) Qa) bM (sp (.eq (ln (ce 5 ZJ)) (ln Qx)) (ju 202 [Qf,Qb,Qo,Qm,ln (ce 5 ZJ),Qa,nm (ce 0 ZJ),nm (ce 1 ZJ),Qfn,nm (ce 3 ZJ),ce 4 ZJ,ce 5 ZJ,Qfk,nm (ce 1 Qs),Qfo,nm (ce 3 Qs),Qt,Qx]) bM)) fl) bM)) bM) bM) fl) fl)) kQ
abbrev Qfq:SB:=.lt bY Qa
abbrev nR:SE:=.aQ 11
abbrev Qfs:SE:=.aQ 17
abbrev Qft:SE:=wr (.add bY Q0)
abbrev qP:SE:=.aQ 12
abbrev qA:SE:=.aQ 13
abbrev rC:SE:=.aQ 14
abbrev XE:SE:=.aQ 15
abbrev Qfy:SE:=.aQ 16
abbrev Qfz:List SE:=[Qf,Qb,Qo,Q1]
def aiL:T Lf:=sp (.lt bY bF) (sp Qfq fl (sp (.lt bY (ln nR)) (sp (.lt bY (ln Qfs)) (sp (.eq (nm (el nR bY)) (nm (el Qfs bY))) (ju 202 [Qf,Qb,Qo,Qm,bF,Qft,dP,fC,fU,iO,kV,nR,qP,qA,rC,XE,Qfy,Qfs]) bM) fl) fl)) (ju 201 Qfz)
def arN:T Lf:=sp Qfg (ju 251 [Qf,Qb,Qa]) bM
abbrev ZL:SB:=.lt Qo vJ
abbrev Qf1:SB:=.lt Qo Qc
abbrev XF:SE:=el Qf Qo
abbrev Qf3:SE:=el Qb Qo
def aiE:T Lf:=sp ZL (sp vN fl (sp Qf1 (sp (.eq (nm XF) (nm Qf3)) (ju 251 [Qf,Qb,mG]) bM) fl)) kQ
abbrev OI:List SE:=[Qf,Qb]
abbrev Qf5:SB:=.eq (a0 450 OI) Q0
abbrev Qf6:SB:=.eq (rr 450 OI 0) Qa
def aiD:T Lf:=sp Qf5 (sp Qf6 (ju 301 [Qf,vJ]) (ou [Qh])) fl
abbrev Qf7:SB:=.lt Qa Qb
abbrev Qf8:SB:=.lt Qa vJ
abbrev Qf9:SE:=el Qf Qa
abbrev Qga:SE:=nm (ce 0 Qf9)
abbrev lM:SE:=.dat (.i 0)
abbrev Qgc:SE:=.dat (.i (-1))
abbrev Qgd:SE:=mk (nm (ce 2 Qf9))
abbrev Qge:SE:=cn Qh lM
abbrev Qgf:SE:=cn lM (cn lM (cn Qh Qge))
abbrev Qgg:T Lf:=ju 302 [.op .snoc lM (cn Qgc (cn Qgd Qgf)),Qf,Qb,Q0]
abbrev Qgh:SE:=.lit 9
def XP:T Lf:=sp Qf7 (sp Qf8 (sp (.eq Qga tY) Qgg (sp (.eq Qga Qgh) Qgg (ju 302 [.op .snoc lM (cn Qgc (cn lM Qgf)),Qf,Qb,Q0]))) fl) (ou [Qh])
abbrev Qgi:SB:=.lt vJ (.lit 1759218604440)
abbrev Qgj:T Lf:=sp Qgi (ju 302 [.op .snoc Qf (cn Qgc (cn (mk Qfo) Qgf)),Qb,Qo,Q1]) fl
def arM:T Lf:=sp Qp (sp Qq fl (sp Qr (sp (.eq Qfk tY) Qgj (sp (.eq Qfk Qgh) Qgj (sp Qgi (ju 302 [.op .snoc Qf (cn Qgc (cn lM Qgf)),Qb,Qo,Q1]) fl))) fl)) (ou Qj)
def aiC:T Lf:=sp Qf5 (sp Qf6 (sp (.eq U7 vJ) (ju 351 [Qo,U7,Qa,Qf,Qb]) bM) bM) fl
abbrev Qgk:SE:=nm (ce 2 XF)
abbrev Qgl:SE:=nm (ce 0 XF)
abbrev U5:SE:=ce 1 XF
abbrev Qgn:SE:=ce 3 XF
abbrev Qgo:SE:=ce 4 XF
abbrev Qgp:SE:=ce 5 XF
abbrev Qgq:List SE:=[nm (ce 0 ZM),Qd3,nm (ce 2 ZM),ce 3 ZM,nm Qcw,Qgl,nm U5,Qa,nm Qgn,Qgo,Qgp,XG]
abbrev Qgr:T Lf:=ju 351 [Qf,Qb,mG,Qm,bF]
abbrev Qgs:List SE:=[nm (ce 0 ZM),Qd3,nm (ce 2 ZM),ce 3 ZM,nm Qcw,Qgl,nm U5,Q0,nm Qgn,Qgo,Qgp,XG]
def XO:T Lf:=sp yH (sp vN fl (sp ZL (sp Qcu (sp (.eq Qgk Qa) (sp (.eq (a0 500 Qgq) Q0) (sp (.eq (rr 500 Qgq 0) Qa) bM Qgr) fl) (sp (.eq (a0 500 Qgs) Q0) (sp (.eq (rr 500 Qgs 0) Qa) bM Qgr) fl)) fl) fl)) kQ
abbrev Qgt:List SE:=[bY,Qo]
abbrev Qgu:SE:=rr 9000 Qgt 0
abbrev Qgv:List SE:=[Qf,Qb,Qo]
abbrev Qgw:SB:=.eq (a0 350 Qgv) Q0
abbrev Qgx:SB:=.eq (rr 350 Qgv 0) Qa
abbrev ER:SE:=rr 9000 Qgt 2
abbrev Qgz:T Lf:=ou [ER,Qa,Qa,Qa,Qa,Qa,Qa]
abbrev Qg0:T Lf:=sp Qgw (sp Qgx Qgz (sp Qq Qgz (sp Qr Qgz Qgz))) fl
abbrev Qg1:SB:=.lt bY (ln ER)
abbrev Qg2:T Lf:=ou [Qh,Qa,Qa,Qa,Qa,Qa,Qa]
abbrev Qg3:T Lf:=ou [Qk,Qa,Qa,Qa,Qa,Qa,Qa]
abbrev JK:SE:=mk bY
abbrev Qg5:SE:=rr 9000 Qgt 3
abbrev U6:SE:=mk Qg5
abbrev Xn:SE:=rr 9000 Qgt 4
abbrev XD:SE:=mk Xn
abbrev Qg9:SE:=rr 9000 Qgt 5
abbrev Qha:SE:=.op .bit (mk Qg9) Qa
abbrev Qhb:SE:=rr 9000 Qgt 6
abbrev Qhc:SE:=mk Qhb
abbrev U3:SE:=rr 9000 Qgt 7
abbrev Qhe:SE:=rr 9000 Qgt 8
abbrev Qhf:SE:=cn Qhe lM
abbrev Qhg:SE:=cn Qha (cn Qhc (cn U3 Qhf))
abbrev Qhh:SE:=cn JK (cn U6 (cn XD Qhg))
abbrev Qhi:SE:=.op .set ER Qhh
abbrev KF:T Lf:=ou [Qhi,Qa,Qa,Qa,Qa,Qa,Qa]
abbrev Qhk:SB:=.eq (a0 600 [bF]) Q0
abbrev Qhl:SB:=.lt bY vJ
abbrev Qhm:SB:=.eq (rr 600 [bF] 0) (nm (ce 0 (el Qf bY)))
abbrev Qhn:SB:=.eq bF Q0
abbrev Qho:SB:=.eq Qg5 Qm
abbrev JA:T Lf:=sp (.eq (a0 550 [Qo]) Q0) (ou [rr 550 [Qo] 0,Qm,.lit 27,bY,wr bF,Qa,kY]) fl
abbrev Qhq:SB:=.eq (a0 900 [U3,Qm]) Q0
abbrev Qhr:SB:=.eq (rr 900 [U3,Qm] 0) Qa
abbrev Qhs:SB:=.lt Qg5 Qa
abbrev Qht:SE:=.op .set ER (cn JK (cn XI (cn XD Qhg)))
abbrev XC:T Lf:=sp (.eq (a0 550 [Qo]) Q0) (ou [rr 550 [Qo] 0,Qa,Qa,Qa,Qa,Qa,Qa]) fl
abbrev Qhv:T Lf:=sp Qhs (ou [Qht,Qm,bF,bY,Qa,Qa,kY]) XC
abbrev Qhw:T Lf:=sp Qho JA (sp Qhq (sp Qhr Qhv JA) fl)
abbrev Qhx:SB:=.eq bF kY
abbrev Qhy:T Lf:=sp Qho (ou [.op .set ER (cn JK (cn Qgc (cn XD Qhg))),Qm,bF,bY,Qa,Qa,kY]) JA
abbrev Qhz:SB:=.eq bF (.lit 8)
abbrev Qh0:SB:=.eq bF tY
abbrev Qh1:T Lf:=ou [Qht,Qm,bF,bY,Q0,Qa,kY]
abbrev Qh2:T Lf:=ou [Qhi,Qm,bF,bY,Qa,Qa,kY]
abbrev Qh3:T Lf:=sp Qhs Qh1 Qh2
abbrev Qh4:SB:=.eq bF EO
abbrev Qh5:T Lf:=sp Qhs Qh1 (sp (.lt fC dP) XC Qh2)
abbrev Qh6:SB:=.eq bF ZN
abbrev OT:SE:=ln U3
abbrev Qh8:SE:=.lit 17592186044415
abbrev Qh9:SE:=cn XD (cn Qha (cn Qhc (cn (.op .snoc U3 XI) Qhf)))
abbrev Qia:T Lf:=sp Qho JA (sp Qhq (sp Qhr (sp Qhs (sp (.lt OT Qh8) (ou [.op .set ER (cn JK (cn U6 Qh9)),Qm,bF,bY,Qa,Qa,kY]) fl) XC) JA) fl)
abbrev Qib:SB:=.eq bF XH
abbrev Qic:SB:=.eq (a0 850 [U3,Qm]) Q0
abbrev Qid:SE:=rr 850 [U3,Qm] 0
abbrev Qie:SE:=wr (.add Qid Q0)
abbrev Qif:SE:=.sub OT Qie
abbrev Qig:SE:=.add Qid Qif
abbrev Qih:SE:=.op .cat (.op .cat (.op .take U3 Qid) (.op .drop (.op .take U3 (.add Qie Qif)) Qie)) (.op .drop U3 Qig)
abbrev Qii:SE:=.op .fill Qih (cn (mk Qig) lM)
abbrev Qij:T Lf:=sp (.lt (.sub OT Qig) Qa) fl (sp (.eq (.add Qig (.sub OT Qig)) (ln Qih)) (sp (.lt (ln Qii) Qig) fl (ou [.op .set ER (cn JK (cn U6 (cn XD (cn Qha (cn Qhc (cn (.op .take Qii Qig) Qhf)))))),Qm,bF,bY,Qa,Qa,kY])) fl)
abbrev Qik:T Lf:=sp Qic (sp (.lt Qid Qa) JA (sp (.lt Qie Qid) fl (sp (.lt OT Qie) fl (sp (.lt OT OT) fl (sp (.eq Qid Qie) Qh2 (sp (.lt OT Qid) fl (sp (.lt Qie Qa) fl (sp (.lt Qif Qa) fl (sp (.lt OT (.add Qie Qif)) fl (sp (.lt OT Qig) fl (sp (.lt Qig Qa) fl (sp (.lt Qig OT) (sp (.lt (ln Qih) OT) fl Qij) Qij)))))))))))) fl
abbrev Qil:SE:=.lit 7
abbrev Qim:SB:=.eq bF Qil
abbrev Qin:T Lf:=sp Qho JA (sp Qhq (sp Qhr (sp (.eq OT Qa) Qhv XC) JA) fl)
abbrev Qio:SB:=.eq bF Qgh
abbrev Qip:SE:=.op .set ER (cn JK (cn U6 (cn (mk (wr (.sub Xn Q0))) Qhg)))
abbrev Qiq:T Lf:=sp (.lt Qa Xn) (ou [Qip,Qm,bF,bY,Qa,Qa,kY]) XC
abbrev Qir:SB:=.eq bF (.lit 11)
abbrev Qis:T Lf:=sp (.lt Qa Xn) (ou [Qip,Qm,bF,bY,Q0,Qa,kY]) Qh2
abbrev Qit:SE:=.lit 10
abbrev Qiu:SB:=.eq bF Qit
abbrev Qiv:SE:=nm (ce 2 (el Qf bY))
abbrev Qiw:SE:=.op .set ER (cn JK (cn U6 (cn (mk (wr (.add Xn Q0))) Qhg)))
abbrev Qix:T Lf:=sp (.lt Xn Qiv) (ou [Qiw,Qm,bF,bY,Qa,Qa,kY]) JA
abbrev Qiy:SB:=.eq bF (.lit 17)
abbrev Qiz:SE:=.lit 1099511627776
abbrev Qi0:T Lf:=sp (.lt dP (wr (.sub Qa Xn))) JA (sp (.lt (wr (.sub Qiz Xn)) dP) JA (ou [.op .set ER (cn JK (cn U6 (cn (mk (wr (.add Xn dP))) Qhg))),Qm,bF,bY,wr (.add Xn dP),Qa,kY]))
abbrev Qi1:SB:=.eq bF (.lit 18)
abbrev Qi2:T Lf:=sp (.lt Qa Xn) (ou [Qip,Qm,bF,bY,wr (.sub Xn Q0),Qa,kY]) JA
abbrev Qi3:SB:=.eq bF (.lit 19)
abbrev Qi4:T Lf:=sp (.eq Xn Qa) Qh2 XC
abbrev Qi5:SB:=.eq bF (.lit 22)
abbrev Qi6:T Lf:=ou [Qhi,Qm,bF,bY,Xn,Qa,kY]
abbrev Qi7:SB:=.eq bF (.lit 23)
abbrev Qi8:T Lf:=ou [.op .set ER (cn JK (cn U6 (cn (mk dP) Qhg))),Qm,bF,bY,dP,Qa,kY]
abbrev XB:SE:=.lit 20
abbrev Qja:SB:=.eq bF XB
abbrev Qjb:T Lf:=sp (.lt (ln Qhe) Qiv) (sp (.lt (ln Qhe) Qh8) (ou [.op .set ER (cn JK (cn U6 (cn XD (cn Qha (cn Qhc (cn U3 (cn (.op .snoc Qhe (mk dP)) lM))))))),Qm,bF,bY,dP,Qa,kY]) fl) XC
abbrev Qjc:SB:=.eq bF (.lit 21)
abbrev Qjd:SE:=.add Q0 (.sub (ln Qhe) Q0)
abbrev Qje:T Lf:=sp (.eq (ln Qhe) Qa) XC (sp (.lt (.sub (ln Qhe) Q0) Qa) fl (sp (.lt (ln Qhe) Qjd) fl (ou [.op .set ER (cn JK (cn U6 (cn XD (cn Qha (cn Qhc (cn U3 (cn (.op .drop (.op .take Qhe Qjd) Q0) lM))))))),Qm,bF,bY,nm (el Qhe Qa),Qa,kY])))
abbrev Qjf:SB:=.eq bF (.lit 12)
abbrev Qjg:SB:=.lt Qiv Qa
abbrev Qjh:SB:=.lt Qiv (ln ER)
abbrev Qji:SB:=.eq Qiv bY
abbrev Qjj:SE:=.lit (-1)
abbrev Qjk:List SE:=[U3,Qm,bY,Qiv,ER,bF,dP,fC,Qjj,Xn,Qg9,Qhb,Qhe]
abbrev Qjl:T Lf:=sp (.lt OT Qh8) (ou [.op .set ER (cn JK (cn Qgc Qh9)),Qm,bF,bY,Qa,Qa,tY]) fl
abbrev Qjm:SE:=rr 12000 Qjk 14
abbrev Qjn:SE:=rr 12000 Qjk 15
abbrev Qjo:SE:=.add Qjm Q0
abbrev Qjp:SE:=.op .snoc lM XI
abbrev Qjq:SE:=.op .cat (.op .cat (.op .take Qjn Qjm) Qjp) (.op .drop Qjn Qjo)
abbrev Qjr:SE:=nm (ce 0 (el ER Qiv))
abbrev Qjs:SB:=.eq Qjr Qm
abbrev Qjt:SE:=.op .set ER (cn (mk Qiv) (.op .set (el ER Qiv) (cn lM Qgc)))
abbrev Qju:List SE:=[U3,Qm,bY,Qiv,Qjt,bF,dP,fC,Qg5,Xn,Qg9,Qhb,Qhe]
abbrev Qjv:T Lf:=sp (.lt OT Qh8) (ou [.op .set Qjt (cn JK (cn U6 Qh9)),Qm,bF,bY,Qa,Qa,tY]) fl
abbrev Qjw:SE:=rr 12000 Qju 14
abbrev Qjx:SE:=rr 12000 Qju 15
abbrev Qjy:SE:=.add Qjw Q0
abbrev Qjz:SE:=.op .cat (.op .cat (.op .take Qjx Qjw) Qjp) (.op .drop Qjx Qjy)
abbrev Qj0:SE:=.op .set ER (cn JK (cn U6 (cn XD (cn Qha (cn Qhc (cn Qh Qhf))))))
abbrev Qj1:SE:=.lit 24
abbrev Qj2:SE:=.lit 4611686018427387904
abbrev Qj3:SE:=.lit 25
abbrev ZI:SE:=.lit 16
abbrev Qj5:T Lf:=sp (.eq bF Qj1) (sp Qjg fl (sp Qjh (sp Qhq (sp Qhr (sp Qji Qhv (sp (.lt Qjr Qa) (ou [.op .set (.op .set ER (cn (mk Qiv) (.op .set (el ER Qiv) (cn lM XI)))) Qhh,Qm,bF,bY,Qa,Qa,kY]) XC)) XC) fl) fl)) (sp (.eq bF (.lit 15)) (sp (.lt Qhb Qj2) (sp (.eq (wr (.add Xn Q0)) Qiv) (ou [.op .set ER (cn JK (cn U6 (cn lM (cn Qha (cn (mk (wr (.add Qhb Q0))) (cn U3 Qhf)))))),Qm,bF,bY,Qhb,Qa,tY]) (ou [Qiw,Qm,bF,bY,Qhb,Qa,tY])) JA) (sp (.eq bF Qj3) (sp (.lt dP Qhb) (ou [Qhi,Qm,bF,bY,dP,Qa,kY]) XC) (sp (.eq bF ZI) (sp (.eq Qg9 Qa) (sp Qho JA (sp Qhs Qh1 XC)) Qh2) (sp (.eq bF (.lit 26)) (sp Qho (ou [.op .set ER (cn JK (cn Qgc (cn XD (cn Qh (cn Qhc (cn U3 Qhf)))))),Qm,bF,bY,Qa,Qa,kY]) JA) fl))))
abbrev Qj6:T Lf:=sp (.eq bF (.lit 13)) (sp (.eq OT Qa) Qh2 (sp (.lt (.sub OT Q0) Qa) fl (sp (.lt OT (.add Q0 (.sub OT Q0))) fl (ou [.op .set ER (cn JK (cn U6 (cn XD (cn Qha (cn Qhc (cn (.op .drop (.op .take U3 (.add Q0 (.sub OT Q0))) Q0) Qhf)))))),Qm,bF,bY,wr (.add (nm (el U3 Qa)) Q0),Qa,kY])))) (sp (.eq bF (.lit 14)) (ou [Qj0,Qm,bF,bY,OT,Qa,kY]) Qj5)
abbrev Qj7:T Lf:=sp (.lt Qa Qiv) (ou [.op .set ER (cn JK (cn U6 (cn XD (cn Qha (cn Qhc (cn U3 (cn (.op .snoc lM (mk dP)) lM))))))),Qm,bF,bY,dP,Qa,kY]) XC
abbrev Qj8:SE:=rr 12100 Qjk 14
abbrev Qj9:SE:=rr 12100 Qjk 15
abbrev Qka:SE:=.add Qj8 Q0
abbrev Qkb:SE:=.op .cat (.op .cat (.op .take Qj9 Qj8) Qjp) (.op .drop Qj9 Qka)
abbrev Qkc:SE:=rr 12100 Qju 14
abbrev Qkd:SE:=rr 12100 Qju 15
abbrev Qke:SE:=.add Qkc Q0
abbrev Qkf:SE:=.op .cat (.op .cat (.op .take Qkd Qkc) Qjp) (.op .drop Qkd Qke)
abbrev Qkg:SE:=cn XD (cn Qha (cn Qhc (cn Qjp Qhf)))
abbrev Qkh:T Lf:=sp Qho JA (sp Qhq (sp Qhr (sp Qhs (ou [.op .set ER (cn JK (cn U6 Qkg)),Qm,bF,bY,Qa,Qa,kY]) XC) JA) fl)
abbrev Qki:T Lf:=sp Qic (sp (.lt Qid Qa) JA fl) fl
abbrev Qkj:T Lf:=ou [.op .set ER (cn JK (cn Qgc Qkg)),Qm,bF,bY,Qa,Qa,tY]
abbrev Qkk:T Lf:=ou [.op .set Qjt (cn JK (cn U6 Qkg)),Qm,bF,bY,Qa,Qa,tY]
abbrev Qkl:T Lf:=sp (.eq bF (.lit 13)) Qh2 (sp (.eq bF (.lit 14)) (ou [Qj0,Qm,bF,bY,Qa,Qa,kY]) Qj5)
def kH:T Lf:=sp (.eq (a0 9000 Qgt) Q0) (sp (.eq Qgu Qa) (sp Qfq Qg0 (sp Qg1 fl Qg0)) (sp (.eq Qgu Q0) (sp Qgw (sp Qgx Qg2 (sp Qq Qg2 (sp Qr (sp Qfq Qg2 Qg2) Qg2))) fl) (sp (.eq Qgu kY) (sp Qgw (sp Qgx Qg3 (sp Qq Qg3 (sp Qr (sp Qfq Qg3 Qg3) Qg3))) fl) (sp (.eq Qgu tY) (sp Qgw (sp Qgx KF (sp Qq KF (sp Qr (sp Qfq KF (sp Qg1 (sp Qhk (sp Qhl (sp Qhm (sp Qhn Qhw (sp Qhx Qhy (sp Qhz Qhy (sp Qh0 Qh3 (sp Qh4 Qh5 (sp Qh6 Qia (sp Qib Qik (sp Qim Qin (sp Qio Qiq (sp Qir Qis (sp Qiu Qix (sp Qiy Qi0 (sp Qi1 Qi2 (sp Qi3 Qi4 (sp Qi5 Qi6 (sp Qi7 Qi8 (sp Qja Qjb (sp Qjc Qje (sp Qjf (sp Qjg fl (sp Qjh (sp Qji (sp Qho (sp (.eq (a0 12000 Qjk) Q0) (sp (.eq (rr 12000 Qjk 0) Qa) Qjl (sp (.eq (rr 12000 Qjk 0) Q0) (sp (.lt Qjm Qa) fl (sp (.lt (ln Qjn) Qjo) fl (sp (.lt Qjo Qa) fl (sp (.lt (ln Qjq) Qjo) fl (ou [.op .set ER (cn JK (cn Qgc (cn XD (cn Qha (cn Qhc (cn (.op .take Qjq Qjo) Qhf)))))),Qm,bF,bY,Qa,Qa,tY]))))) fl)) fl) JA) (sp Qjs (sp (.eq (a0 12000 Qju) Q0) (sp (.eq (rr 12000 Qju 0) Qa) Qjv (sp (.eq (rr 12000 Qju 0) Q0) (sp (.lt Qjw Qa) fl (sp (.lt (ln Qjx) Qjy) fl (sp (.lt Qjy Qa) fl (sp (.lt (ln Qjz) Qjy) fl (ou [.op .set Qjt (cn JK (cn U6 (cn XD (cn Qha (cn Qhc (cn (.op .take Qjz Qjy) Qhf)))))),Qm,bF,bY,Qa,Qa,tY]))))) fl)) fl) JA)) fl)) Qj6))))))))))))))))))) KF) fl) fl) KF)) KF))) fl) (sp (.eq Qgu EO) (sp Qgw (sp Qgx KF (sp Qq KF (sp Qr (sp Qfq KF (sp Qg1 (sp Qhk (sp Qhl (sp Qhm (sp Qhn Qhw (sp Qhx Qhy (sp Qhz Qhy (sp Qh0 Qh3 (sp Qh4 Qh5 (sp Qh6 Qia (sp Qib Qik (sp Qim Qin (sp Qio Qiq (sp Qir Qis (sp Qiu Qix (sp Qiy Qi0 (sp Qi1 Qi2 (sp Qi3 Qi4 (sp Qi5 Qi6 (sp Qi7 Qi8 (sp Qja Qj7 (sp Qjc XC (sp Qjf (sp Qjg fl (sp Qjh (sp Qji (sp Qho (sp (.eq (a0 12100 Qjk) Q0) (sp (.eq (rr 12100 Qjk 0) Qa) Qjl (sp (.eq (rr 12100 Qjk 0) Q0) (sp (.lt Qj8 Qa) fl (sp (.lt (ln Qj9) Qka) fl (sp (.lt Qka Qa) fl (sp (.lt (ln Qkb) Qka) fl (ou [.op .set ER (cn JK (cn Qgc (cn XD (cn Qha (cn Qhc (cn (.op .take Qkb Qka) Qhf)))))),Qm,bF,bY,Qa,Qa,tY]))))) fl)) fl) JA) (sp Qjs (sp (.eq (a0 12100 Qju) Q0) (sp (.eq (rr 12100 Qju 0) Qa) Qjv (sp (.eq (rr 12100 Qju 0) Q0) (sp (.lt Qkc Qa) fl (sp (.lt (ln Qkd) Qke) fl (sp (.lt Qke Qa) fl (sp (.lt (ln Qkf) Qke) fl (ou [.op .set Qjt (cn JK (cn U6 (cn XD (cn Qha (cn Qhc (cn (.op .take Qkf Qke) Qhf)))))),Qm,bF,bY,Qa,Qa,tY]))))) fl)) fl) JA)) fl)) Qj6))))))))))))))))))) KF) fl) fl) KF)) KF))) fl) (sp (.eq Qgu ZN) (sp Qgw (sp Qgx KF (sp Qq KF (sp Qr (sp Qfq KF (sp Qg1 (sp Qhk (sp Qhl (sp Qhm (sp Qhn Qhw (sp Qhx Qhy (sp Qhz Qhy (sp Qh0 Qh3 (sp Qh4 Qh5 (sp Qh6 Qkh (sp Qib Qki (sp Qim Qhw (sp Qio Qiq (sp Qir Qis (sp Qiu Qix (sp Qiy Qi0 (sp Qi1 Qi2 (sp Qi3 Qi4 (sp Qi5 Qi6 (sp Qi7 Qi8 (sp Qja Qjb (sp Qjc Qje (sp Qjf (sp Qjg fl (sp Qjh (sp Qji (sp Qho (sp (.eq (a0 12200 Qjk) Q0) (sp (.eq (rr 12200 Qjk 0) Qa) Qkj fl) fl) JA) (sp Qjs (sp (.eq (a0 12200 Qju) Q0) (sp (.eq (rr 12200 Qju 0) Qa) Qkk fl) fl) JA)) fl)) Qkl))))))))))))))))))) KF) fl) fl) KF)) KF))) fl) (sp (.eq Qgu XH) (sp Qgw (sp Qgx KF (sp Qq KF (sp Qr (sp Qfq KF (sp Qg1 (sp Qhk (sp Qhl (sp Qhm (sp Qhn Qhw (sp Qhx Qhy (sp Qhz Qhy (sp Qh0 Qh3 (sp Qh4 Qh5 (sp Qh6 Qkh (sp Qib Qki (sp Qim Qhw (sp Qio Qiq (sp Qir Qis (sp Qiu Qix (sp Qiy Qi0 (sp Qi1 Qi2 (sp Qi3 Qi4 (sp Qi5 Qi6 (sp Qi7 Qi8 (sp Qja Qj7 (sp Qjc XC (sp Qjf (sp Qjg fl (sp Qjh (sp Qji (sp Qho (sp (.eq (a0 12300 Qjk) Q0) (sp (.eq (rr 12300 Qjk 0) Qa) Qkj fl) fl) JA) (sp Qjs (sp (.eq (a0 12300 Qju) Q0) (sp (.eq (rr 12300 Qju 0) Qa) Qkk fl) fl) JA)) fl)) Qkl))))))))))))))))))) KF) fl) fl) KF)) KF))) fl) fl))))))) fl
abbrev Qkm:T Lf:=ju 451 [Qf,vJ,Qa,Qb]
def azV:T Lf:=sp (.lt (.lit 64) vJ) Qkm (sp (.lt ZI Qc) Qkm (ju 452 [Qf,vJ,Qa,Qb]))
abbrev Qkn:T Lf:=ju 451 [Qf,Qb,mG,Qm]
def arL:T Lf:=sp yH (sp vN fl (sp ZL Qkn fl)) (ju 453 [Qm,He,Qa,Qf])
abbrev Qko:List SE:=[Qf,Qm,Qgl,U5,Qgk,Qgn,nm Qgo]
def arK:T Lf:=sp yH (sp vN fl (sp ZL (sp (.eq (a0 700 Qko) Q0) (sp (.eq (rr 700 Qko 0) Qa) Qkn (ju 452 [Qf,Qb,mG,Qm])) fl) fl)) (ju 454 [Qm,He,Qa,Qf])
abbrev Qkp:List SE:=[Qa,Qf,Qb,Qo,Qm,ce 0 XF,U5,ce 2 XF]
def arJ:T Lf:=sp yH (sp vN fl (sp ZL (ju 455 Qkp) fl)) (ou [.lit 120])
def arI:T Lf:=sp yH (sp vN fl (sp ZL (sp (.lt (.lit 120) (ln U5)) (ju 455 Qkp) (sp (.lt (.lit 4000) (ln (ce 2 XF))) (ju 455 Qkp) (ju 456 Qkp))) fl)) bM
abbrev Qkq:SE:=ln fC
abbrev Qkr:T Lf:=ju 453 [Qb,Qo,Q1,bF]
def arH:T Lf:=sp (.lt Qf Qkq) Qkr Qkr
abbrev Qks:SE:=el fC Qf
abbrev Qkt:List SE:=[bF,Qb,bY,dP,fC,nm (ce 0 Qks),nm (ce 1 Qks),nm (ce 2 Qks),nm (ce 3 Qks),nm (ce 4 Qks),nm (ce 5 Qks),ce 6 Qks]
abbrev Qku:SE:=wr (.add Qf Q0)
abbrev Qkv:List SE:=[ce 6 Qks,bY,dP,fC]
abbrev Qkw:List SE:=[Qku,Qb,Qo,Qm,bF,rr 5000 Qkv 0,rr 5000 Qkv 1,rr 5000 Qkv 2]
def arG:T Lf:=sp (.lt Qf Qkq) (sp (.lt Qf Qa) fl (sp (.eq (a0 750 Qkt) Q0) (sp (.eq (rr 750 Qkt 0) Qa) (ju 455 [Qku,Qb,Qo,Qm,bF,bY,dP,fC]) (sp (.eq (a0 5000 Qkv) Q0) (sp (.eq (rr 5000 Qkv 3) Qa) (ju 456 Qkw) (ju 455 Qkw)) fl)) fl)) (ju 454 [Qb,Qo,Q1,bF])
abbrev Qkx:List SE:=[Qf,Qb,Qo,Qm,bF]
abbrev Qky:SB:=.lt fU Qa
abbrev Qkz:SB:=.lt Qa (ln iO)
abbrev Qk0:SB:=.eq Qf EO
abbrev Qk1:SB:=.lt Qa (ln kV)
abbrev Qk2:SB:=.eq fC Qa
abbrev Qk3:T Lf:=ju 501 [nR,iO,ln iO,Qa,Qf,Qb,Qo,Qm,bF,bY,dP,fC,fU,kV,lM]
abbrev Qk4:T Lf:=sp (.lt Qa fU) bM Qk3
abbrev Qk5:T Lf:=sp Qk1 bM (sp Qk2 Qk4 bM)
abbrev Qk6:SB:=.eq Qf kY
abbrev Qk7:SB:=.eq Qf (.lit 8)
abbrev Qk8:SB:=.eq Qf ZN
abbrev Qk9:SB:=.eq Qf Q0
abbrev Qla:T Lf:=sp (.lt bY Qjj) bM (sp (.lt bY nR) (sp Qky bM (sp (.lt Qj2 fU) bM (sp Qfq (sp Qkz (sp Qk0 Qk5 (sp Qk6 Qk5 bM)) (sp Qk1 (sp Qk7 (sp Qk2 Qk4 bM) bM) (sp Qk2 (sp (.lt Qa fU) (sp Qk8 Qk3 bM) Qk3) (sp (.eq Qf XH) Qk4 bM)))) (sp Qk9 (sp Qkz bM Qk5) (sp Qk6 (sp Qkz Qk5 Qk5) (sp (.eq Qf XH) (sp Qkz bM (sp Qk1 bM (sp Qk2 Qk4 Qk4))) bM)))))) bM)
def azU:T Lf:=sp (.eq (a0 650 Qkx) Q0) (sp (.eq (rr 650 Qkx 1) Qa) Qla (sp Qe8 bM (sp (.lt (rr 650 Qkx 0) dP) bM Qla))) fl
abbrev Qlb:SE:=nm Qs
abbrev Qlc:SE:=.op .norm (mk Qlb) Qa
abbrev Qld:T Lf:=ju 501 [Qf,Qb,Qo,Q1,bF,bY,dP,fC,fU,iO,kV,nR,qP,qA,.op .Et rC (cn Qlc Qh)]
abbrev Qle:SE:=ln qA
abbrev Qlf:SB:=.lt iO Qa
abbrev Qlg:SB:=.eq Qc Qa
abbrev Qlh:T Lf:=sp Qlf kQ (sp Qlg (sp (.eq nR Qa) kQ bM) bM)
def arF:T Lf:=sp Qp (sp Qq fl (sp Qr (sp (.lt Qlb Qa) bM (sp (.lt Qlb Qf) (sp (.eq (.op .L8 rC Qlc) Qa) Qld (sp (.eq (nm (.op .L9 rC Qlc)) Q0) bM Qld)) bM)) fl)) (sp Qe8 (sp (.lt Qa Qle) bM Qlh) (sp (.lt dP Qle) bM Qlh))
abbrev Qli:SB:=.lt vJ (.lit 1759218604441)
abbrev Qlj:SB:=.eq (.op .norm Qf Qa) Qh
abbrev Qlk:SB:=.eq (.op .norm Qf Qa) Qk
def ahQ:T Lf:=sp Qf8 (sp Qli (ju 551 [Qf,vJ,Qa]) fl) (sp Qlj (ju 552 []) (sp Qlk (ju 553 []) fl))
abbrev Qll:SB:=.lt Qa (ln Qgp)
abbrev Qlm:SB:=.lt (ln Qgp) Qv
abbrev Qln:SE:=.op .set Qf (cn EP (.op .set XF (cn Qbd Qgo)))
abbrev Qlo:SB:=.eq Qgp Qh
abbrev Qlp:SB:=.eq Qgp Qk
abbrev Qlq:SE:=.op .set Qf (cn EP (.op .set XF Qbl))
abbrev Qlr:SE:=.op .set Qf (cn EP (.op .set XF Qbq))
def arE:T Lf:=sp yH (sp vN fl (sp ZL (sp (.lt Qa (ln Qgo)) (sp (.lt (ln Qgo) Qv) (sp Qll (sp Qlm (ju 551 [.op .set Qln (cn EP (.op .set (el Qln Qo) (cn Qbf Qgp))),Qb,mG]) fl) (sp Qlo (ju 551 [.op .set Qln (cn EP (.op .set (el Qln Qo) Qbh)),Qb,mG]) (sp Qlp (ju 551 [.op .set Qln (cn EP (.op .set (el Qln Qo) Qbj)),Qb,mG]) fl))) fl) (sp (.eq Qgo Qh) (sp Qll (sp Qlm (ju 551 [.op .set Qlq (cn EP (.op .set (el Qlq Qo) (cn Qbf Qgp))),Qb,mG]) fl) (sp Qlo (ju 551 [.op .set Qlq (cn EP (.op .set (el Qlq Qo) Qbh)),Qb,mG]) (sp Qlp (ju 551 [.op .set Qlq (cn EP (.op .set (el Qlq Qo) Qbj)),Qb,mG]) fl))) (sp (.eq Qgo Qk) (sp Qll (sp Qlm (ju 551 [.op .set Qlr (cn EP (.op .set (el Qlr Qo) (cn Qbf Qgp))),Qb,mG]) fl) (sp Qlo (ju 551 [.op .set Qlr (cn EP (.op .set (el Qlr Qo) Qbh)),Qb,mG]) (sp Qlp (ju 551 [.op .set Qlr (cn EP (.op .set (el Qlr Qo) Qbj)),Qb,mG]) fl))) fl))) fl)) (ou Qj)
def aCs:T Lf:=ou [Qh]
def aCr:T Lf:=ou [Qk]
abbrev Qls:SB:=.eq Qf tY
abbrev Qlt:T Lf:=ou [kY]
abbrev Qlu:T Lf:=ou [EO]
def azT:T Lf:=sp (.lt (wr Qf) (.lit 27)) (sp (.lt Qf Qa) fl (sp (.lt Qf (.lit 27)) (sp (.eq Qf Qa) bM (sp Qk9 kQ (sp Qk6 kQ (sp Qls kQ (sp Qk0 kQ (sp Qk8 Qlt (sp (.eq Qf XH) Qlt (sp (.eq Qf Qil) Qlt (sp Qk7 Qlt (sp (.eq Qf Qgh) (ou [tY]) (sp (.eq Qf Qit) (ou [tY]) (sp (.eq Qf (.lit 11)) (ou [tY]) (sp (.eq Qf (.lit 12)) Qlu (sp (.eq Qf (.lit 13)) Qlu (sp (.eq Qf (.lit 14)) Qlu (sp (.eq Qf (.lit 15)) (ou [ZN]) (sp (.eq Qf ZI) (ou [XH]) (sp (.eq Qf (.lit 17)) (ou [Qil]) (sp (.eq Qf (.lit 18)) (ou [Qil]) (sp (.eq Qf (.lit 19)) (ou [Qil]) (sp (.eq Qf XB) (ou [.lit 8]) (sp (.eq Qf (.lit 21)) (ou [.lit 8]) (sp (.eq Qf (.lit 22)) (ou [Qgh]) (sp (.eq Qf (.lit 23)) (ou [Qgh]) (sp (.eq Qf Qj1) Qlu (sp (.eq Qf Qj3) (ou [ZN]) (ou [XH]))))))))))))))))))))))))))) fl)) bM
def azS:T Lf:=sp Qls (ou [Qo,Q0]) (sp Qk8 (ou [wr (.sub Qo Q0),Q0]) (sp (.eq Qf Qil) (ou [Qiz,Q0]) (sp (.eq Qf Qgh) (ou [Qa,Qa]) (ou [Qa,Q0]))))
abbrev Qlv:T Lf:=sp (.eq bF Qa) kQ bM
abbrev Qlw:T Lf:=sp Qfc bM (sp (.lt (.lit 1048576) bF) bM kQ)
abbrev Qlx:SB:=.lt bF Qa
def azR:T Lf:=sp (.eq Qo Q0) Qlv (sp (.eq Qo kY) Qlv (sp (.eq Qo XH) Qlv (sp (.eq Qo Qil) Qlv (sp (.eq Qo tY) Qlw (sp (.eq Qo (.lit 8)) Qlw (sp (.eq Qo ZN) (sp Qfc bM (sp (.lt ZI bF) bM kQ)) (sp (.eq Qo EO) (sp Qlx bM (sp (.lt bF vJ) (sp (.eq (nm (ce 0 (el Qf bF))) Q0) kQ bM) bM)) (sp (.eq Qo Qgh) kQ bM))))))))
abbrev Qly:SB:=.lt fC Qa
abbrev Qlz:SB:=.eq bY Q0
abbrev Ql0:SB:=.eq bY kY
abbrev Ql1:SB:=.eq bY tY
abbrev Ql2:SB:=.eq bY EO
abbrev Ql3:SB:=.eq bY ZN
abbrev Ql4:T Lf:=sp (.eq bY XH) bM (sp (.eq bY Qil) bM bM)
abbrev Ql5:T Lf:=sp Ql1 bM (sp Ql2 bM (sp Ql3 bM Ql4))
abbrev Ql6:SB:=.lt fC vJ
abbrev Ql7:SE:=nm (ce 0 (el Qf fC))
abbrev Ql8:List SE:=[Ql7,bY,dP,fC,fU,iO,kV,nR,Qa]
abbrev Ql9:T Lf:=sp (.eq dP ZI) bM kQ
abbrev Qma:T Lf:=sp (.eq (a0 950 Ql8) Q0) (sp (.eq (rr 950 Ql8 0) Qa) bM Ql9) fl
abbrev Qmb:T Lf:=sp Ql6 (sp (.eq Ql7 XH) kQ bM) bM
abbrev Qmc:T Lf:=sp (.eq (ln nR) Q0) kQ bM
abbrev Qmd:T Lf:=sp (.lt XG iO) bM Qmc
abbrev Qme:T Lf:=sp (.lt XG iO) bM kQ
abbrev Qmf:T Lf:=sp Ql1 bM (sp Ql2 Qmd (sp Ql3 Qme Ql4))
abbrev Qmg:T Lf:=sp (.eq dP ZI) Qme kQ
abbrev Qmh:T Lf:=sp (.eq (a0 950 Ql8) Q0) (sp (.eq (rr 950 Ql8 0) Qa) bM Qmg) fl
abbrev Qmi:SB:=.lt fU He
abbrev Qmj:T Lf:=sp Ql1 (sp Qmi Qmc bM) (sp Ql2 bM (sp Ql3 bM (sp (.eq bY XH) (sp Qmi kQ bM) (sp (.eq bY Qil) (sp Qmi bM bM) bM))))
abbrev Qmk:List SE:=[Ql7,bY,dP,fC,fU,iO,kV,nR,Q0]
abbrev Qml:T Lf:=sp Ql1 (sp Qmi Qmc bM) (sp Ql2 Qmd (sp Ql3 Qme (sp (.eq bY XH) (sp Qmi kQ bM) (sp (.eq bY Qil) (sp Qmi Qme bM) bM))))
def azQ:T Lf:=sp Qky (sp Qlf (sp Qly (sp Qlz bM (sp Ql0 bM Ql5)) (sp Qlz (sp Ql6 Qma bM) (sp Ql0 Qmb Ql5))) (sp Qly (sp Qlz bM (sp Ql0 bM Qmf)) (sp Qlz (sp Ql6 Qmh bM) (sp Ql0 Qmb Qmf)))) (sp Qlf (sp Qly (sp Qlz bM (sp Ql0 bM Qmj)) (sp Qlz (sp Ql6 (sp Qmi (sp (.eq (a0 950 Qmk) Q0) (sp (.eq (rr 950 Qmk 0) Qa) bM Ql9) fl) Qma) bM) (sp Ql0 Qmb Qmj))) (sp Qly (sp Qlz bM (sp Ql0 bM Qml)) (sp Qlz (sp Ql6 (sp Qmi (sp (.eq (a0 950 Qmk) Q0) (sp (.eq (rr 950 Qmk 0) Qa) bM Qmg) fl) Qmh) bM) (sp Ql0 Qmb Qml))))
abbrev Qmm:List SE:=[Qf,Qb,Qo,Qm,Q0,.lit 1000,bF]
def azP:T Lf:=sp (.eq (a0 5050 Qmm) Q0) (sp (.eq (rr 5050 Qmm 2) Qa) bM kQ) fl
def azO:T Lf:=ju 851 Qfh
abbrev Qmn:SE:=nm ZJ
def ahL:T Lf:=sp Qp (sp Qq fl (sp Qfi (sp (.eq Qb Qmn) (ou [Qm]) (ju 851 Qfz)) fl)) (ou [Qjj])
def azN:T Lf:=sp (.eq (a0 850 OI) Q0) (sp (.lt (rr 850 OI 0) Qa) bM kQ) fl
abbrev Qmo:SB:=.eq fU Qa
abbrev Qmp:List SE:=[Qf,Qkq,Qb,Qo,Qm,bF,bY,dP,fC]
def azM:T Lf:=sp Qmo (ju 951 Qmp) (ju 952 Qmp)
abbrev Qmq:SE:=cn Qh (cn lM (cn lM Qge))
abbrev Qmr:List SE:=[Qf,Qb,Q0,Qo,Qm,bF,bY,dP,fC,fU,.op .snoc lM Qmq]
abbrev Qms:List SE:=[Qf,Q0,Qa,Qa,Qm,Qa,Qa]
abbrev Qmt:SB:=.eq (a0 1200 [Qm]) Q0
abbrev Qmu:SB:=.eq Qf (rr 1200 [Qm] 0)
abbrev Qmv:List SE:=[Qf,lM]
abbrev Qmw:SB:=.eq (a0 5150 Qmv) Q0
abbrev Qmx:SB:=.eq (rr 5150 Qmv 2) Qa
abbrev Qmy:T Lf:=sp (.eq Qm ZI) kQ kQ
abbrev Qmz:T Lf:=sp Qmt (sp Qmu (sp Qmw (sp Qmx bM (sp (.lt XB (ln (rr 5150 Qmv 1))) bM Qmy)) fl) bM) fl
abbrev Qm0:T Lf:=sp (.eq (a0 12400 Qms) Q0) (sp (.eq (rr 12400 Qms 0) Qa) bM (sp (.eq (rr 12400 Qms 0) Q0) Qmz fl)) fl
abbrev Qm1:List SE:=[Qa,Qa,Qf,Qa,Qa,Qa,Qm,Qa,Qa]
abbrev Qm2:SB:=.eq (a0 5200 Qmv) Q0
abbrev Qm3:SB:=.eq (rr 5200 Qmv 3) Qa
abbrev Qm4:List SE:=[Qf,Qa,Qa,Qa,Qm,Qa,Qa]
abbrev Qm5:T Lf:=sp Qls Qm0 (sp Qk7 Qm0 (sp Qk8 Qm0 (sp Qk0 (sp (.eq (a0 12450 Qm1) Q0) (sp (.eq (rr 12450 Qm1 0) Qa) bM (sp (.eq (rr 12450 Qm1 0) Q0) (sp Qmt (sp Qmu (sp Qm2 (sp Qm3 bM (sp (.lt XB (ln (rr 5200 Qmv 2))) bM Qmy)) fl) bM) fl) fl)) fl) (sp (.eq (a0 12400 Qm4) Q0) (sp (.eq (rr 12400 Qm4 0) Qa) bM (sp (.eq (rr 12400 Qm4 0) Q0) Qmz fl)) fl))))
abbrev Qm6:SB:=.eq (rr 12500 Qms 0) Qa
abbrev Qm7:SB:=.eq (rr 12500 Qms 0) Q0
abbrev Qm8:SE:=.dat (.p (.i 97) (.i 0))
abbrev Qm9:SE:=cn Qm8 Qh
abbrev Qna:SB:=.lt XB (ln (.op .Et (rr 5150 Qmv 1) Qm9))
abbrev Qnb:T Lf:=sp Qmt (sp Qmu (sp Qmw (sp Qmx bM (sp Qna bM (sp (.eq Qm ZI) bM bM))) fl) bM) fl
abbrev Qnc:T Lf:=sp (.eq (a0 12500 Qms) Q0) (sp Qm6 bM (sp Qm7 Qnb fl)) fl
abbrev Qnd:SB:=.eq (rr 12550 Qm1 0) Qa
abbrev Qne:SB:=.eq (rr 12550 Qm1 0) Q0
abbrev Qnf:SB:=.lt XB (ln (.op .Et (rr 5200 Qmv 2) Qm9))
abbrev Qng:SB:=.eq (rr 12500 Qm4 0) Qa
abbrev Qnh:SB:=.eq (rr 12500 Qm4 0) Q0
def arD:T Lf:=sp Qf7 (ju 953 Qmr) (sp (.eq bY Qjj) Qm5 (sp Qls Qnc (sp Qk7 Qnc (sp Qk8 Qnc (sp Qk0 (sp (.eq (a0 12550 Qm1) Q0) (sp Qnd bM (sp Qne (sp Qmt (sp Qmu (sp Qm2 (sp Qm3 bM (sp Qnf bM (sp (.eq Qm ZI) bM bM))) fl) bM) fl) fl)) fl) (sp (.eq (a0 12500 Qm4) Q0) (sp Qng bM (sp Qnh Qnb fl)) fl))))))
abbrev Qni:T Lf:=sp Qmt (sp Qmu (sp Qmw (sp Qmx bM (sp Qna bM Qmy)) fl) bM) fl
abbrev Qnj:T Lf:=sp (.eq (a0 12500 Qms) Q0) (sp Qm6 bM (sp Qm7 Qni fl)) fl
def arC:T Lf:=sp Qf7 (ju 954 Qmr) (sp (.eq bY Qjj) Qm5 (sp Qls Qnj (sp Qk7 Qnj (sp Qk8 Qnj (sp Qk0 (sp (.eq (a0 12550 Qm1) Q0) (sp Qnd bM (sp Qne (sp Qmt (sp Qmu (sp Qm2 (sp Qm3 bM (sp Qnf bM Qmy)) fl) bM) fl) fl)) fl) (sp (.eq (a0 12500 Qm4) Q0) (sp Qng bM (sp Qnh Qni fl)) fl))))))
abbrev Qnk:SB:=.lt (ln kV) (.lit 2513169434915)
abbrev Qnl:List SE:=[Qf,Qb,mG,Qm,bF,bY,dP,fC,fU,iO,.op .snoc kV Qmq]
abbrev Qnm:List SE:=[Qf,Q0,Qa,Qa,bF,Qa,kV,Qa]
abbrev Qnn:SB:=.eq (a0 1200 [bF]) Q0
abbrev Qno:SB:=.eq Qf (rr 1200 [bF] 0)
abbrev Qnp:List SE:=[rr 12600 Qnm 9,rr 12600 Qnm 10,Qf,lM]
abbrev Qnq:T Lf:=sp (.eq bF ZI) kQ kQ
abbrev Qnr:T Lf:=sp (.eq (a0 12600 Qnm) Q0) (sp (.eq (rr 12600 Qnm 0) Qa) bM (sp (.eq (rr 12600 Qnm 0) Q0) (sp Qnn (sp Qno (sp (.eq (a0 5300 Qnp) Q0) (sp (.eq (rr 5300 Qnp 3) Qa) bM (sp (.lt XB (ln (rr 5300 Qnp 2))) bM Qnq)) fl) bM) fl) fl)) fl
abbrev Qns:List SE:=[Qa,Qa,Qf,Qa,Qa,Qa,bF,Qa,kV,Qa]
abbrev Qnt:List SE:=[rr 12650 Qns 11,rr 12650 Qns 12,Qf,lM]
abbrev Qnu:List SE:=[Qf,Qa,Qa,Qa,bF,Qa,kV,Qa]
abbrev Qnv:List SE:=[rr 12600 Qnu 9,rr 12600 Qnu 10,Qf,lM]
abbrev Qnw:T Lf:=sp Qls Qnr (sp Qk7 Qnr (sp Qk8 Qnr (sp Qk0 (sp (.eq (a0 12650 Qns) Q0) (sp (.eq (rr 12650 Qns 0) Qa) bM (sp (.eq (rr 12650 Qns 0) Q0) (sp Qnn (sp Qno (sp (.eq (a0 5350 Qnt) Q0) (sp (.eq (rr 5350 Qnt 4) Qa) bM (sp (.lt XB (ln (rr 5350 Qnt 3))) bM Qnq)) fl) bM) fl) fl)) fl) (sp (.eq (a0 12600 Qnu) Q0) (sp (.eq (rr 12600 Qnu 0) Qa) bM (sp (.eq (rr 12600 Qnu 0) Q0) (sp Qnn (sp Qno (sp (.eq (a0 5300 Qnv) Q0) (sp (.eq (rr 5300 Qnv 3) Qa) bM (sp (.lt XB (ln (rr 5300 Qnv 2))) bM Qnq)) fl) bM) fl) fl)) fl))))
abbrev Qnx:SB:=.eq (rr 12700 Qnm 0) Qa
abbrev Qny:SB:=.eq (rr 12700 Qnm 0) Q0
abbrev Qnz:List SE:=[rr 12700 Qnm 9,rr 12700 Qnm 10,Qf,lM]
abbrev Qn0:SB:=.eq (rr 5300 Qnz 3) Qa
abbrev Qn1:SB:=.lt XB (ln (.op .Et (rr 5300 Qnz 2) Qm9))
abbrev Qn2:T Lf:=sp (.eq bF ZI) bM bM
abbrev Qn3:T Lf:=sp (.eq (a0 12700 Qnm) Q0) (sp Qnx bM (sp Qny (sp Qnn (sp Qno (sp (.eq (a0 5300 Qnz) Q0) (sp Qn0 bM (sp Qn1 bM Qn2)) fl) bM) fl) fl)) fl
abbrev Qn4:SB:=.eq (rr 12750 Qns 0) Qa
abbrev Qn5:SB:=.eq (rr 12750 Qns 0) Q0
abbrev Qn6:List SE:=[rr 12750 Qns 11,rr 12750 Qns 12,Qf,lM]
abbrev Qn7:SB:=.eq (rr 5350 Qn6 4) Qa
abbrev Qn8:SB:=.lt XB (ln (.op .Et (rr 5350 Qn6 3) Qm9))
abbrev Qn9:SB:=.eq (rr 12700 Qnu 0) Qa
abbrev Qoa:SB:=.eq (rr 12700 Qnu 0) Q0
abbrev Qob:List SE:=[rr 12700 Qnu 9,rr 12700 Qnu 10,Qf,lM]
abbrev Qoc:SB:=.eq (rr 5300 Qob 3) Qa
abbrev Qod:SB:=.lt XB (ln (.op .Et (rr 5300 Qob 2) Qm9))
def uO:T Lf:=sp yH (sp Qnk (ju 953 Qnl) fl) (sp (.eq dP Qjj) Qnw (sp Qls Qn3 (sp Qk7 Qn3 (sp Qk8 Qn3 (sp Qk0 (sp (.eq (a0 12750 Qns) Q0) (sp Qn4 bM (sp Qn5 (sp Qnn (sp Qno (sp (.eq (a0 5350 Qn6) Q0) (sp Qn7 bM (sp Qn8 bM Qn2)) fl) bM) fl) fl)) fl) (sp (.eq (a0 12700 Qnu) Q0) (sp Qn9 bM (sp Qoa (sp Qnn (sp Qno (sp (.eq (a0 5300 Qob) Q0) (sp Qoc bM (sp Qod bM Qn2)) fl) bM) fl) fl)) fl))))))
abbrev Qoe:T Lf:=sp (.eq (a0 12700 Qnm) Q0) (sp Qnx bM (sp Qny (sp Qnn (sp Qno (sp (.eq (a0 5300 Qnz) Q0) (sp Qn0 bM (sp Qn1 bM Qnq)) fl) bM) fl) fl)) fl
def uN:T Lf:=sp yH (sp Qnk (ju 954 Qnl) fl) (sp (.eq dP Qjj) Qnw (sp Qls Qoe (sp Qk7 Qoe (sp Qk8 Qoe (sp Qk0 (sp (.eq (a0 12750 Qns) Q0) (sp Qn4 bM (sp Qn5 (sp Qnn (sp Qno (sp (.eq (a0 5350 Qn6) Q0) (sp Qn7 bM (sp Qn8 bM Qnq)) fl) bM) fl) fl)) fl) (sp (.eq (a0 12700 Qnu) Q0) (sp Qn9 bM (sp Qoa (sp Qnn (sp Qno (sp (.eq (a0 5300 Qob) Q0) (sp Qoc bM (sp Qod bM Qnq)) fl) bM) fl) fl)) fl))))))
def aiX:T Lf:=sp (.eq (a0 1050 [Qf,Qa]) Q0) (sp (.eq (rr 1050 [Qf,Qa] 6) Qa) (sp (.eq (rr 1050 [Qf,Qa] 0) kY) (sp (.eq (wr (.sub (rr 1050 [Qf,Qa] 5) (rr 1050 [Qf,Qa] 4))) vJ) kQ bM) bM) bM) fl
abbrev Qof:T Lf:=ou [Qa,lM,Qa,Qa,Qa,Qa,kY,Qa]
abbrev ZH:SE:=rr 12800 OI 3
abbrev Qoh:SE:=wr (.add (.op .cnt (.op .sub Qf (cn lM (cn (mk ZH) lM))) Qit) Q0)
abbrev Qoi:SE:=rr 12850 [Qf,ZH] 3
abbrev Qoj:SE:=.op .sub Qf (cn (mk ZH) (cn (mk Qoi) lM))
abbrev Qok:SE:=nm (el Qoj Qa)
abbrev Qol:SE:=.lit 256
abbrev Qom:SE:=nm (el (.dat b0) Qok)
abbrev Qon:T Lf:=ou [Qa,lM,Qa,Qa,Qa,Qa,.lit 100,Qoh]
abbrev Qoo:SE:=.dat (.p (.i 32) (.i 0))
abbrev Qop:SB:=.eq (.op .norm Qoj Qa) (.dat (.p (.i 61) (.i 0)))
def Vp:T Lf:=sp (.lt (.lit 16384) vJ) (ou [Qa,lM,Qa,Qa,Qa,Qa,tY,Qa]) (sp Qe2 Qof (sp (.lt vJ Qb) Qof (sp (.eq (a0 12800 OI) Q0) (sp (.eq (rr 12800 OI 0) Qa) (sp (.lt ZH Qa) fl (sp (.lt vJ ZH) fl (sp (.eq ZH vJ) (ou [ZN,lM,Qa,Qoh,ZH,ZH,Qa,Qa]) (sp (.eq (a0 12850 [Qf,ZH]) Q0) (sp (.eq (rr 12850 [Qf,ZH] 0) Qa) (sp (.lt Qoi ZH) fl (sp (.lt vJ Qoi) fl (sp (.lt Qa (ln Qoj)) (sp (.lt Qok Qa) fl (sp (.lt Qok Qol) (sp (.eq Qom tY) (sp (.eq (a0 1100 [Qoj]) Q0) (sp (.eq (rr 1100 [Qoj] 1) Qa) Qon (ou [Q0,lM,rr 1100 [Qoj] 0,Qoh,ZH,Qoi,Qa,Qa])) fl) (sp (.eq Qom EO) (sp (.lt (ln Qoj) (.lit 1000000000)) (sp (.lt (ln (.op .cat Qoo Qoj)) (.lit 1000000000)) (sp (.eq (.op .con (.dat b1) (.op .cat (.op .cat Qoo Qoj) Qoo)) Qa) (sp Qop Qon (ou [kY,Qoj,Qa,Qoh,ZH,Qoi,Qa,Qa])) (sp Qop Qon (ou [tY,Qoj,Qa,Qoh,ZH,Qoi,Qa,Qa]))) fl) fl) (sp (.eq Qom ZN) (sp Qop Qon (ou [EO,Qoj,Qa,Qoh,ZH,Qoi,Qa,Qa])) Qon))) fl)) fl))) fl) fl)))) fl) fl)))
def aiW:T Lf:=sp (.eq vJ Qa) (ju 1101 []) (ju 1102 [Qa,Qf,vJ,Qa])
def awL:T Lf:=ou [Qa,Q0]
abbrev Qoq:SE:=.lit 9223372036854775807
abbrev Qor:SE:=wr (.wrap .u8 (.sub Qlb (.lit 48)))
def aaR:T Lf:=sp Qp (sp Qq fl (sp Qr (sp (.lt (wr (.quo (wr (.sub Qoq Qor)) Qit)) Qf) (ou [Qa,Qa]) (ju 1102 [wr (.add (wr (.mul Qf Qit)) Qor),Qb,Qo,Q1])) fl)) (ou [Qf,Q0])
abbrev Qos:SB:=.eq (rr 1000 [Qb] 0) Qa
abbrev Qot:SE:=wr (.sub He Q0)
abbrev Qou:SE:=.dat (.p (.i 45) (.i 0))
abbrev Qov:SE:=.dat (.p (.i 43) (.i 0))
abbrev Qow:SE:=.dat (.p (.i 42) (.i 0))
abbrev Qox:SE:=.dat (.p (.i 61) (.p (.i 61) (.i 0)))
abbrev Qoy:SE:=.dat (.p (.i 60) (.i 0))
def aiV:T Lf:=sp Qk9 (sp vN bM (sp (.eq Qg lM) (sp (.eq He Qa) kQ bM) bM)) (sp Qk6 (sp (.eq Qo Qa) (sp (.eq He Qa) (sp (.eq (a0 1000 [Qb]) Q0) (sp Qos bM kQ) fl) bM) bM) (sp Qls (sp (.eq Qo Qa) (sp (.lt He Q0) bM (sp (.lt kY He) bM (sp (.lt Qot Qa) fl (sp (.lt Qot kY) (sp (.eq Qot Qa) (sp (.eq Qg Qou) kQ bM) (sp (.eq Qg Qov) kQ (sp (.eq Qg Qou) kQ (sp (.eq Qg Qow) kQ (sp (.eq Qg Qox) kQ (sp (.eq Qg Qoy) kQ bM)))))) fl)))) bM) bM))
def aiU:T Lf:=sp (.lt EO Qf) (sp (.lt (.lit 8) Qf) (sp (.lt (.lit 11) Qf) (sp (.lt (.lit 14) Qf) (sp (.eq Qf (.lit 15)) (ou [ZN]) (sp (.eq Qf ZI) (ou [XH]) (sp (.lt (.lit 19) Qf) (sp (.lt (.lit 21) Qf) (ou [Qgh]) (ou [.lit 8])) (ou [Qil])))) Qlu) (ou [tY])) Qlt) kQ
def aiT:T Lf:=sp Qk0 kQ (sp (.eq Qf (.lit 17)) kQ (sp (.eq Qf XB) kQ (sp (.eq Qf (.lit 23)) kQ bM)))
def aiS:T Lf:=sp Qls kQ (sp Qk0 kQ (sp (.eq Qf (.lit 11)) kQ (sp (.eq Qf (.lit 21)) kQ (sp (.eq Qf (.lit 22)) kQ bM))))
def aiR:T Lf:=sp Qls kQ (sp Qk8 kQ (sp Qk7 kQ (sp (.eq Qf Qgh) kQ bM)))
abbrev Qoz:SB:=.lt Qa Qo
abbrev Qo0:SE:=.op .norm Qm Qa
abbrev Qo1:T Lf:=sp Qk0 (sp (.eq (a0 1000 [Qm]) Q0) (sp (.eq (rr 1000 [Qm] 0) Qa) bM kQ) fl) (sp (.eq Qo0 lM) kQ bM)
def aiQ:T Lf:=sp (.lt Qf Q0) bM (sp (.lt Qgh Qf) bM (sp (.eq (a0 1000 [Qb]) Q0) (sp Qos bM (sp vN bM (sp Qoz (sp (.eq (a0 1350 Qj) Q0) (sp (.eq (rr 1350 Qj 0) Qa) bM Qo1) fl) Qo1))) fl))
def aaQ:T Lf:=sp Qf5 (sp Qf6 (sp (.eq (a0 300 OI) Q0) (ju 1451 [Qb,Qc,rr 300 OI 0]) fl) (ou [Qh,Qh,rr 450 OI 0])) fl
abbrev Qo2:SE:=ce 1 Qf9
abbrev Qo3:SE:=cn lM (cn lM (cn lM (cn lM lM)))
abbrev Qo4:SB:=.lt (ln Qo2) Qv
def Vo:T Lf:=sp Qf7 (sp Qf8 (sp (.eq (ln Qo2) Qa) (ju 1452 [Qf,Qb,Q0,Qo,.op .snoc lM (cn lM (cn Qk Qo3))]) (sp Qo4 (ju 1452 [Qf,Qb,Q0,Qo,.op .snoc lM (cn lM (cn (.op .rep (ln Qo2) lM) Qo3))]) fl)) fl) (ou [Qo,Qh,Qa])
abbrev Qo5:SE:=.lit 2199023255551
abbrev Qo6:SB:=.lt (ln U5) Qv
abbrev Qo7:T Lf:=ou [Qm,bF,Qa]
def Vm:T Lf:=sp yH (sp vN fl (sp ZL (sp (.eq (ln U5) Qa) (sp (.lt XG Qo5) (ju 1452 [Qf,Qb,mG,Qm,.op .snoc bF (cn lM (cn Qk Qo3))]) fl) (sp Qo6 (sp (.lt XG Qo5) (ju 1452 [Qf,Qb,mG,Qm,.op .snoc bF (cn lM (cn (.op .rep (ln U5) lM) Qo3))]) fl) fl)) fl)) Qo7
def aiP:T Lf:=sp Qgw (sp Qgx bM (sp (.eq He Qc) (ju 1501 [Qm,He,Qa,Qf,Qb]) bM)) fl
abbrev Qo8:List SE:=[Qm,bF,ce 0 Qdl,Qdm,ce 2 Qdl,Qgl,U5,Qgk,nm Qgn,nm Qgo,nm Qgp]
def aaP:T Lf:=sp yH (sp vN fl (sp ZL (sp Qdk (sp (.eq (a0 1600 Qo8) Q0) (sp (.eq (rr 1600 Qo8 0) Qa) bM (ju 1501 [Qf,Qb,mG,Qm,bF])) fl) fl) fl)) kQ
abbrev Qo9:SB:=.lt bF Qc
abbrev Qpa:List SE:=[Qf,Qb,Qo,Qm]
abbrev Qpb:SB:=.eq (rr 1500 Qpa 0) Qa
abbrev Qpc:T Lf:=sp (.eq (a0 1500 Qpa) Q0) (sp Qpb bM kQ) fl
def aiO:T Lf:=sp Qlx bM (sp Qo9 Qpc bM)
def aiN:T Lf:=sp Qfq bM (sp (.lt XG bY) bM (sp (.eq ZK He) (sp (.lt kV Qa) bM (sp (.lt Qj2 kV) bM (sp Qk2 (sp Qmo (sp (.eq iO Qa) kQ bM) bM) (sp (.eq fC Qj1) (sp Qky bM (sp (.lt fU vJ) (sp (.eq (nm (ce 0 (el Qf fU))) EO) kQ bM) bM)) (sp (.eq fC Qj3) (sp Qky bM (sp (.lt fU vJ) (sp (.eq (nm (ce 0 (el Qf fU))) ZN) kQ bM) bM)) bM))))) bM))
abbrev Qpd:SE:=el Qm bF
abbrev Qpe:SE:=nm (ce 2 Qpd)
abbrev Qpf:SE:=nm (ce 0 Qpd)
abbrev Qpg:SB:=.eq Qpf (ln (ce 2 (el Qb bF)))
def aiM:T Lf:=sp Qlx fl (sp (.lt bF He) (sp (.eq Qpe Qa) (sp Qo9 (sp Qpg kQ bM) fl) bM) fl)
abbrev ZG:SB:=.eq (a0 1550 Qkx) Q0
abbrev ZF:SB:=.eq (rr 1550 Qkx 0) Qa
abbrev Qpj:SB:=.eq (rr 1650 Qkx 0) Qa
abbrev Qpk:SE:=el (ce 2 (el Qb bF)) Qpf
abbrev Qpl:T Lf:=ou [Qa,Qa,Qa,Qa,Qa]
def KO:T Lf:=sp Qlx fl (sp (.lt bF He) (sp (.eq Qpe Qa) (sp (.eq (a0 1650 Qkx) Q0) (sp Qpj (sp Qo9 (sp (.lt Qpf Qa) fl (sp (.lt Qpf (ln (ce 2 (el Qb bF)))) (sp (.eq (nm (ce 0 Qpk)) Q0) (ju 1751 [ce 6 Qpk,ln (ce 6 Qpk),Qa,Qpf,ce 1 Qpd,Qpe,nm (ce 3 Qpd),nm (ce 4 Qpd),nm (ce 5 Qpd),nm (ce 1 Qpk),nm (ce 2 Qpk),Qa]) (sp (.eq (nm (ce 0 Qpk)) kY) (ou [.lit 26,nm (ce 2 Qpk),Qa,Qa,Q0]) Qpl)) fl)) fl) Qpl) fl) (ou [Qpe,nm (ce 3 Qpd),nm (ce 4 Qpd),Qa,Q0])) fl)
def aaO:T Lf:=sp yH (sp vN fl (sp ZL (sp (.eq (a0 1950 [Qgl,U5,Qgk,Qgn,bF]) Q0) (ju 1751 [Qf,Qb,mG,Qm,bF,bY,dP,fC,fU,iO,kV,rr 1950 [Qgl,U5,Qgk,Qgn,bF] 0]) fl) fl)) (ou [iO,kV,nR,fU,Q0])
abbrev RV:List SE:=[bF,Qo,Qm]
abbrev wG:SE:=rr 9050 RV 0
abbrev JJ:SE:=rr 9050 RV 2
abbrev XA:SE:=rr 9050 RV 3
abbrev Qpq:List SE:=[Qf,Qb,JJ,XA,bF]
abbrev Qpr:List SE:=[Qf,Qb,JJ,Qh,bF]
abbrev Qps:List SE:=[Qf,Qb,JJ,Qk,bF]
abbrev Qpt:SE:=rr 9050 RV 4
abbrev Qpu:SE:=rr 9050 RV 5
abbrev Qpv:SE:=rr 9050 RV 6
abbrev Qpw:SE:=rr 9050 RV 7
abbrev Qpx:SE:=rr 9050 RV 8
abbrev Qpy:SE:=rr 9050 RV 9
abbrev Qpz:SE:=cn (mk Qpv) (cn (mk Qpw) (cn (mk Qpx) (cn (mk Qpy) lM)))
abbrev Qp0:SE:=.op .set XA (cn (mk bF) (cn (mk Qpt) (cn Qpu Qpz)))
abbrev Qp1:T Lf:=ou [JJ,Qp0,Qa,Qa,Qa,Qa,Qa,Qa]
abbrev RX:List SE:=[Qf,Qb,JJ,Qp0,bF]
abbrev Qp3:SB:=.eq (rr 1650 RX 0) Qa
abbrev Qp4:SB:=.eq (rr 1750 RX 4) Qa
abbrev Qp5:List SE:=[Qf,Qb,bF,JJ,XA,Qpt,Qpu,Qpv,Qpw,Qpx,Qpy]
abbrev qO:List SE:=[Qf,Qb,bF,rr 1750 RX 0,rr 1750 RX 1,rr 1750 RX 2,rr 1750 RX 3,JJ,XA,Qpt,Qpu,Qpv,Qpw,Qpx,Qpy]
abbrev Qp7:T Lf:=ou [JJ,Qp0,Qa,Qa,Qa,Qa,Qa,EO]
def IY:T Lf:=sp (.eq (a0 9050 RV) Q0) (sp (.eq wG Qa) (sp ZG (sp ZF (ou [JJ,XA,Qa,Qa,Qa,Qa,Qa,Qa]) (sp (.eq (a0 1650 Qpq) Q0) (sp (.eq (rr 1650 Qpq 0) Qa) (sp (.eq (a0 1750 Qpq) Q0) (sp (.eq (rr 1750 Qpq 4) Qa) fl fl) fl) (ou [JJ,XA,Qa,Qa,Qa,Qa,Qa,EO])) fl)) fl) (sp (.eq wG Q0) (sp ZG (sp ZF (ou [JJ,Qh,Qa,Qa,Qa,Qa,Qa,Qa]) (sp (.eq (a0 1650 Qpr) Q0) (sp (.eq (rr 1650 Qpr 0) Qa) (sp (.eq (a0 1750 Qpr) Q0) (sp (.eq (rr 1750 Qpr 4) Qa) fl fl) fl) (ou [JJ,Qh,Qa,Qa,Qa,Qa,Qa,EO])) fl)) fl) (sp (.eq wG kY) (sp ZG (sp ZF (ou [JJ,Qk,Qa,Qa,Qa,Qa,Qa,Qa]) (sp (.eq (a0 1650 Qps) Q0) (sp (.eq (rr 1650 Qps 0) Qa) (sp (.eq (a0 1750 Qps) Q0) (sp (.eq (rr 1750 Qps 4) Qa) fl fl) fl) (ou [JJ,Qk,Qa,Qa,Qa,Qa,Qa,EO])) fl)) fl) (sp (.eq wG tY) (sp ZG (sp ZF Qp1 (sp (.eq (a0 1650 RX) Q0) (sp Qp3 (sp (.eq (a0 1750 RX) Q0) (sp Qp4 (sp (.eq (a0 14000 Qp5) Q0) (sp (.eq (rr 14000 Qp5 0) Qa) (ou [JJ,.op .set XA (cn (mk bF) (cn (mk (rr 14000 Qp5 12)) (cn (rr 14000 Qp5 13) Qpz))),Qa,Qa,Qa,Qa,Qa,Q0]) fl) fl) (sp (.eq (a0 14500 qO) Q0) (sp (.eq (rr 14500 qO 0) Qa) (ou [rr 14500 qO 22,.op .set XA (cn (mk bF) (cn (mk (rr 14500 qO 23)) (cn (rr 14500 qO 24) (cn (mk (rr 14500 qO 25)) (cn (mk (rr 14500 qO 26)) (cn (mk (rr 14500 qO 27)) (cn (mk (rr 14500 qO 28)) lM))))))),rr 14500 qO 16,rr 14500 qO 17,rr 14500 qO 18,rr 14500 qO 19,rr 14500 qO 20,rr 14500 qO 21]) fl) fl)) fl) Qp7) fl)) fl) (sp (.eq wG EO) (sp ZG (sp ZF Qp1 (sp (.eq (a0 1650 RX) Q0) (sp Qp3 (sp (.eq (a0 1750 RX) Q0) (sp Qp4 (sp (.eq (a0 14050 Qp5) Q0) (sp (.eq (rr 14050 Qp5 0) Qa) (ou [JJ,.op .set XA (cn (mk bF) (cn (mk (rr 14050 Qp5 12)) (cn Qpu Qpz))),Qa,Qa,Qa,Qa,Qa,Q0]) fl) fl) (sp (.eq (a0 14550 qO) Q0) (sp (.eq (rr 14550 qO 0) Qa) (ou [rr 14550 qO 22,.op .set XA (cn (mk bF) (cn (mk (rr 14550 qO 23)) (cn Qpu (cn (mk (rr 14550 qO 24)) (cn (mk (rr 14550 qO 25)) (cn (mk (rr 14550 qO 26)) (cn (mk (rr 14550 qO 27)) lM))))))),rr 14550 qO 16,rr 14550 qO 17,rr 14550 qO 18,rr 14550 qO 19,rr 14550 qO 20,rr 14550 qO 21]) fl) fl)) fl) Qp7) fl)) fl) fl))))) fl
abbrev Qqa:SB:=.lt Qb Qf
abbrev Qqb:SB:=.lt Qb U7
abbrev Qqc:SE:=el Qo Qb
abbrev Qqj:SE:=mk Qb
abbrev Qqy:SE:=el Qm Qb
abbrev Qqz:SE:=ce 1 Qqy
abbrev Qq0:SE:=ce 1 Qqc
abbrev Qq4:SE:=el Qm Qa
abbrev Qq5:List SE:=[nm (ce 0 Qq4),ce 1 Qq4,nm (ce 2 Qq4),ce 3 Qq4,bF]
abbrev Qq6:SE:=rr 1950 Qq5 0
abbrev Qq7:SE:=el Qm Q0
abbrev Qq8:List SE:=[nm (ce 0 Qq7),ce 1 Qq7,nm (ce 2 Qq7),ce 3 Qq7,bF]
abbrev Qq9:SE:=rr 1950 Qq8 0
abbrev Qra:SE:=.op .Et (.op .Et (.op .Et lM (cn Qov (mk (wr (.add Qq6 Qq9))))) (cn Qou (mk (wr (.sub Qq6 Qq9))))) (cn Qow (mk (wr (.mul Qq6 Qq9))))
abbrev Qrb:T Lf:=sp (.eq (.op .L8 Qra Qg) Qa) bM (ou [nm (.op .L9 Qra Qg)])
def Vl:T Lf:=sp Qk9 (ou [Qo]) (sp Qk6 (sp vN bM (sp Qdk (ou [nm Qdl]) bM)) (sp Qls (sp (.eq He Q0) (sp (.eq Qg Qou) (sp (.eq (a0 1950 Qq5) Q0) (ou [wr (.sub Qa Qq6)]) fl) bM) (sp (.eq He kY) (sp (.eq (a0 1950 Qq5) Q0) (sp (.eq (a0 1950 Qq8) Q0) (sp (.eq Qg Qox) (sp (.eq Qq6 Qq9) kQ Qrb) (sp (.eq Qg Qoy) (sp (.lt Qq6 Qq9) kQ Qrb) Qrb)) fl) fl) bM)) bM))
abbrev Qrd:List SE:=[bF,Qa,Qf,Qb,Qo,Qm,bY,dP,fC,fU,JJ,XA,Qpt,Qpu,Qpv,Qpw,Qpx,Qpy]
abbrev Qrg:List SE:=[Qm,bF]
abbrev Qrk:List SE:=[bF,bY]
abbrev Qrm:List SE:=[Qo,Qm,kV,.op .set nR (cn (mk Qf) (cn (mk qP) (cn qA (cn (mk rC) (cn (mk XE) (cn (mk Qfy) (cn (mk Qfs) lM))))))),Qf]
abbrev Qrn:SB:=.eq (rr 1650 Qrm 0) Qa
abbrev Qro:SB:=.eq (rr 1750 Qrm 4) Qa
abbrev Qrp:List SE:=[Qo,Qm,Qf,kV,nR,qP,qA,rC,XE,Qfy,Qfs]
abbrev Qrq:List SE:=[Qo,Qm,Qf,rr 1750 Qrm 0,rr 1750 Qrm 1,rr 1750 Qrm 2,Qj2,kV,nR,qP,qA,rC,XE,Qfy,Qfs]
abbrev Qrr:List SE:=[Qo,Qm,Qf,rr 1750 Qrm 0,rr 1750 Qrm 1,rr 1750 Qrm 2,Qa,kV,nR,qP,qA,rC,XE,Qfy,Qfs]
def aiK:T Lf:=sp (.eq (a0 200 [Qf,Qo]) Q0) (sp (.eq (rr 200 [Qf,Qo] 0) Qa) bM (sp (.eq Qc He) (ju 2051 [Qc,Qa,Qf,Qb,Qo,Qm]) bM)) fl
def aaN:T Lf:=sp Qqa (sp Qe2 fl (sp (.lt Qb He) (sp (.lt Qb Qe3) (sp (.eq (nm (ce 0 Qqy)) (nm (ce 0 Xo))) (sp (.eq (nm (ce 2 Qqy)) (nm (ce 2 Xo))) (sp (.eq (nm (ce 3 Qqy)) (nm (ce 3 Xo))) (sp (.eq (nm (ce 4 Qqy)) (nm (ce 4 Xo))) (sp (.eq (nm (ce 5 Qqy)) (nm (ce 5 Xo))) (sp (.eq (ln Qqz) (ln (ce 1 Xo))) (ju 2052 [Qf,Qb,ln Qqz,Qa,Qo,Qm,bF,bY,nm (ce 0 Qqy),Qqz,nm (ce 2 Qqy),nm (ce 3 Qqy),nm (ce 4 Qqy),nm (ce 5 Qqy),nm (ce 0 Xo),ce 1 Xo,nm (ce 2 Xo),nm (ce 3 Xo),nm (ce 4 Xo),nm (ce 5 Xo)]) bM) bM) bM) bM) bM) bM) fl) fl)) kQ
def aaM:T Lf:=sp Qp (sp Qq fl (sp (.lt Qm (ln iO)) (sp (.lt Qm (ln XE)) (sp (.eq (nm (el iO Qm)) (nm (el XE Qm))) (ju 2052 [Qf,Qb,Qo,Q1,bF,bY,dP,fC,fU,iO,kV,nR,qP,qA,rC,XE,Qfy,Qfs,.aQ 18,.aQ 19]) bM) fl) fl)) (ju 2051 [Qf,Qe5,bF,bY,dP,fC])
def aaL:T Lf:=sp (.lt Qb Q0) bM (sp (.lt (.rem Qf Qb) Qa) (ou [wr (.add (.rem Qf Qb) Qb)]) (ou [.rem Qf Qb]))
abbrev Qru:SB:=.eq (a0 1450 OI) Q0
abbrev Qrv:SB:=.eq (rr 1450 OI 2) Qa
abbrev Qrw:SE:=rr 1450 OI 0
abbrev Qrx:SE:=rr 1450 OI 1
abbrev Qry:List SE:=[Qm,bF,bY,dP,Qgl,nm U5,Qgk,nm Qgn,nm Qgo]
abbrev Qrz:SB:=.eq (a0 100 OI) Q0
abbrev Qr0:SB:=.eq (rr 100 OI 0) Qa
abbrev Qr1:SE:=.op .take Qo (.lit 80)
abbrev Qr2:SE:=.op .take Qo U7
abbrev Qr3:List SE:=[Qf,Qb,Qr2]
abbrev Qr4:SE:=rr 2150 [bF,bY,.op .take Qf Qm] 2
def aiJ:T Lf:=sp Qfg (ju 2451 Qfh) bM
def aaK:T Lf:=sp Qp (sp Qq fl (sp Qfi (sp Qr (sp (.and Qfl (.and Qfm (.and (.eq Qfn Qfo) (.and Qfp (.eq (nm (ce 4 ZJ)) (nm Qt)))))) (ju 2451 Qfz) bM) fl) fl)) kQ
abbrev Qr6:SE:=.op .take Qo Qfa
abbrev Qr7:List SE:=[Qf,Qb,Qr6]
abbrev Qr8:SE:=rr 15500 Qr7 0
abbrev Qr9:SE:=.op .take Qm Qfa
abbrev Qsa:SE:=ln Qr9
abbrev Qsb:SE:=rr 15500 Qr7 4
abbrev Qsc:SE:=rr 15500 Qr7 5
abbrev Qsd:SE:=.op .take Qm He
abbrev Qse:SE:=ln Qsd
abbrev Qsf:SE:=rr 15500 Qr3 0
abbrev Qsg:SE:=rr 15500 Qr3 4
abbrev Qsh:SE:=rr 15500 Qr3 5
def IX:T Lf:=sp Qrz (sp Qr0 (sp Qlg kQ (sp (.lt Qfa U7) (sp (.lt Qfa He) (sp (.eq (a0 15500 Qr7) Q0) (sp (.eq Qr8 Qa) (ju 2501 [bF,Qr6,Qr9,Qsa,Qf,Qb]) (sp (.eq Qr8 Q0) (ju 2502 [bF,Qr6,Qr9,Qsa,Qa,Qf,Qb,Qsb,Qsc]) (sp (.eq Qr8 kY) (ju 2503 [bF,Qr6,Qr9,Qsb,Qsa,Qa,Qf,Qb,Qsc,rr 15500 Qr7 6]) fl))) fl) (sp (.lt He He) fl (sp (.eq (a0 15500 Qr7) Q0) (sp (.eq Qr8 Qa) (ju 2501 [bF,Qr6,Qsd,Qse,Qf,Qb]) (sp (.eq Qr8 Q0) (ju 2502 [bF,Qr6,Qsd,Qse,Qa,Qf,Qb,Qsb,Qsc]) (sp (.eq Qr8 kY) (ju 2503 [bF,Qr6,Qsd,Qsb,Qse,Qa,Qf,Qb,Qsc,rr 15500 Qr7 6]) fl))) fl))) (sp (.lt U7 U7) fl (sp (.lt Qfa He) (sp (.eq (a0 15500 Qr3) Q0) (sp (.eq Qsf Qa) (ju 2501 [bF,Qr2,Qr9,Qsa,Qf,Qb]) (sp (.eq Qsf Q0) (ju 2502 [bF,Qr2,Qr9,Qsa,Qa,Qf,Qb,Qsg,Qsh]) (sp (.eq Qsf kY) (ju 2503 [bF,Qr2,Qr9,Qsg,Qsa,Qa,Qf,Qb,Qsh,rr 15500 Qr3 6]) fl))) fl) (sp (.lt He He) fl (sp (.eq (a0 15500 Qr3) Q0) (sp (.eq Qsf Qa) (ju 2501 [bF,Qr2,Qsd,Qse,Qf,Qb]) (sp (.eq Qsf Q0) (ju 2502 [bF,Qr2,Qsd,Qse,Qa,Qf,Qb,Qsg,Qsh]) (sp (.eq Qsf kY) (ju 2503 [bF,Qr2,Qsd,Qsg,Qse,Qa,Qf,Qb,Qsh,rr 15500 Qr3 6]) fl))) fl)))))) kQ) fl
abbrev Qsi:SB:=.lt Qa Qm
abbrev Qsj:SB:=.eq (a0 2100 [nm (el Qo Qa),Qe3]) Q0
abbrev Qsk:SE:=rr 2100 [nm (el Qo Qa),Qe3] 0
abbrev Qsl:List SE:=[bF,bY,Qh,Qh,Qsk]
abbrev Qsm:T Lf:=ju 2503 [Qf,Qb,Qo,.op .snoc lM (cn (mk (rr 1850 Qsl 2)) (cn (mk (rr 1850 Qsl 3)) (cn (mk (rr 1850 Qsl 4)) (cn (mk (rr 1850 Qsl 5)) (cn (mk (rr 1850 Qsl 6)) lM))))),Qm,Q0,bF,bY,rr 1850 Qsl 0,rr 1850 Qsl 1]
abbrev Qsn:SB:=.eq U7 Qa
abbrev Qso:SB:=.lt U7 Qv
abbrev Qsp:SB:=.lt U7 (.lit 17592185044416)
abbrev Qsq:SB:=.lt Qc (.lit 1000000)
abbrev Qsr:SE:=.op .cat Qb Qo
def KN:T Lf:=sp Qsi (sp Qcm (sp Qsj (sp (.eq (a0 1850 Qsl) Q0) (sp (.eq (rr 1850 Qsl 7) kY) Qsm (sp (.eq (rr 1850 Qsl 7) tY) Qsm (ju 2502 [Qf,Qb,Qo,Qm,Q0,bF,bY,rr 1850 Qsl 0,rr 1850 Qsl 1]))) fl) fl) fl) (sp Qlg (sp Qsn (ju 2504 [Qf,bF,bY]) (sp Qso (ju 2505 [Qf,Qo,U7,bF,bY]) fl)) (sp (.lt Qc Qv) (sp Qsn (ju 2505 [Qf,Qb,Qc,bF,bY]) (sp Qsp (sp Qsq (ju 2505 [Qf,Qsr,ln Qsr,bF,bY]) fl) fl)) fl))
abbrev Qss:SB:=.lt bF U7
abbrev Qst:SB:=.eq (a0 2100 [nm (el Qo bF),ZK]) Q0
abbrev Qsu:SE:=rr 2100 [nm (el Qo bF),ZK] 0
abbrev Qsv:List SE:=[bY,dP,fC,fU,Qsu]
abbrev Qsw:SE:=wr (.add bF Q0)
abbrev Qsx:T Lf:=ju 2503 [Qf,Qb,Qo,.op .snoc lM (cn (mk (rr 1850 Qsv 2)) (cn (mk (rr 1850 Qsv 3)) (cn (mk (rr 1850 Qsv 4)) (cn (mk (rr 1850 Qsv 5)) (cn (mk (rr 1850 Qsv 6)) lM))))),Qm,Qsw,bY,dP,rr 1850 Qsv 0,rr 1850 Qsv 1]
def E5:T Lf:=sp (.lt bF Qm) (sp Qlx fl (sp Qss (sp Qst (sp (.eq (a0 1850 Qsv) Q0) (sp (.eq (rr 1850 Qsv 7) kY) Qsx (sp (.eq (rr 1850 Qsv 7) tY) Qsx (ju 2502 [Qf,Qb,Qo,Qm,Qsw,bY,dP,rr 1850 Qsv 0,rr 1850 Qsv 1]))) fl) fl) fl)) (sp Qlg (sp Qsn (ju 2506 [Qf,bY,dP,fC,fU]) (sp Qso (ju 2507 [Qf,Qo,U7,bY,dP,fC,fU]) fl)) (sp (.lt Qc Qv) (sp Qsn (ju 2507 [Qf,Qb,Qc,bY,dP,fC,fU]) (sp Qsp (sp Qsq (ju 2507 [Qf,Qsr,ln Qsr,bY,dP,fC,fU]) fl) fl)) fl))
abbrev Qsy:List SE:=[dP,fC,fU,iO,rr 2100 [nm (el Qo bY),Qkq] 0]
abbrev Qsz:SE:=.lit 3518437208882
abbrev Qs0:T Lf:=sp (.lt He Qsz) (ju 2503 [Qf,Qb,Qo,.op .snoc Qm (cn (mk (rr 1850 Qsy 2)) (cn (mk (rr 1850 Qsy 3)) (cn (mk (rr 1850 Qsy 4)) (cn (mk (rr 1850 Qsy 5)) (cn (mk (rr 1850 Qsy 6)) lM))))),bF,Qft,dP,fC,rr 1850 Qsy 0,rr 1850 Qsy 1]) fl
def EZ:T Lf:=sp (.lt bY bF) (sp Qfq fl (sp (.lt bY U7) (sp (.eq (a0 2100 [nm (el Qo bY),Qkq]) Q0) (sp (.eq (a0 1850 Qsy) Q0) (sp (.eq (rr 1850 Qsy 7) kY) Qs0 (sp (.eq (rr 1850 Qsy 7) tY) Qs0 (ju 2503 [Qf,Qb,Qo,Qm,bF,Qft,dP,fC,rr 1850 Qsy 0,rr 1850 Qsy 1]))) fl) fl) fl)) (sp Qlg (sp Qsn (ju 2508 [Qf,Qm,dP,fC,fU,iO]) (sp Qso (ju 2509 [Qf,Qm,Qo,U7,dP,fC,fU,iO]) fl)) (sp (.lt Qc Qv) (sp Qsn (ju 2509 [Qf,Qm,Qb,Qc,dP,fC,fU,iO]) (sp Qsp (sp Qsq (ju 2509 [Qf,Qm,Qsr,ln Qsr,dP,fC,fU,iO]) fl) fl)) fl))
abbrev Qs1:SB:=.eq (a0 15550 [Qb,Qo]) Q0
abbrev Qs2:SB:=.eq (rr 15550 [Qb,Qo] 0) Qa
abbrev Qs3:SB:=.eq (a0 2450 [Qh,Qh]) Q0
abbrev Qs4:SB:=.eq (rr 2450 [Qh,Qh] 0) Qa
abbrev Qs5:T Lf:=sp Qs3 (sp Qs4 bM (sp (.eq (a0 2050 [Qh,Qh,Qh,Qh]) Q0) (sp (.eq (rr 2050 [Qh,Qh,Qh,Qh] 0) Qa) bM kQ) fl)) fl
abbrev Qs6:SB:=.eq (rr 15550 [Qb,Qo] 0) Q0
abbrev Qs7:List SE:=[Qh,Qh,rr 15550 [Qb,Qo] 3,rr 15550 [Qb,Qo] 4]
def aiI:T Lf:=sp Qs1 (sp Qs2 Qs5 (sp Qs6 (sp Qs3 (sp Qs4 bM (sp (.eq (a0 2050 Qs7) Q0) (sp (.eq (rr 2050 Qs7 0) Qa) bM kQ) fl)) fl) fl)) fl
abbrev Qs8:SB:=.eq (a0 2100 [nm (el Qb Qa),XG]) Q0
abbrev Qs9:SE:=wr (.rem Qf Qit)
abbrev Qta:SE:=.op .snoc lM (mk (wr (.add (rr 2100 [nm (el Qb Qa),XG] 0) (wr (.mul XG Qs9)))))
abbrev Qtb:SB:=.eq (rr 15550 Qrg 0) Qa
abbrev Qtc:SB:=.eq (rr 15550 Qrg 0) Q0
abbrev Qtd:List SE:=[Qh,Qh,rr 15550 Qrg 3,rr 15550 Qrg 4]
def aiH:T Lf:=sp Qoz (sp Qd (sp Qs8 (ju 2510 [Qf,Qta,Qb,Qo,Q0,Qm,bF]) fl) fl) (sp (.eq (a0 15550 Qrg) Q0) (sp Qtb Qs5 (sp Qtc (sp Qs3 (sp Qs4 bM (sp (.eq (a0 2050 Qtd) Q0) (sp (.eq (rr 2050 Qtd 0) Qa) bM kQ) fl)) fl) fl)) fl)
abbrev Qte:List SE:=[Qm,bF,rr 15550 [Qb,Qo] 3,rr 15550 [Qb,Qo] 4]
def aaJ:T Lf:=sp Qs1 (sp Qs2 (sp Qs3 (sp Qs4 bM (sp (.eq (a0 2050 [Qm,bF,Qh,Qh]) Q0) (sp (.eq (rr 2050 [Qm,bF,Qh,Qh] 0) Qa) bM kQ) fl)) fl) (sp Qs6 (sp Qs3 (sp Qs4 bM (sp (.eq (a0 2050 Qte) Q0) (sp (.eq (rr 2050 Qte 0) Qa) bM kQ) fl)) fl) fl)) fl
abbrev Qtf:List SE:=[bY,dP,rr 15550 Qrg 3,rr 15550 Qrg 4]
def aiG:T Lf:=sp Qoz (sp Qd (sp Qs8 (ju 2511 [Qf,Qta,Qb,Qo,Q0,Qm,bF,bY,dP]) fl) fl) (sp (.eq (a0 15550 Qrg) Q0) (sp Qtb (sp Qs3 (sp Qs4 bM (sp (.eq (a0 2050 [bY,dP,Qh,Qh]) Q0) (sp (.eq (rr 2050 [bY,dP,Qh,Qh] 0) Qa) bM kQ) fl)) fl) (sp Qtc (sp Qs3 (sp Qs4 bM (sp (.eq (a0 2050 Qtf) Q0) (sp (.eq (rr 2050 Qtf 0) Qa) bM kQ) fl)) fl) fl)) fl)
abbrev Qtg:SB:=.eq (a0 2450 [Qb,Qh]) Q0
abbrev Qth:SB:=.eq (rr 2450 [Qb,Qh] 0) Qa
abbrev Qti:List SE:=[bF,bY,rr 15550 [Qo,Qm] 3,rr 15550 [Qo,Qm] 4]
def awK:T Lf:=sp (.eq (a0 15550 [Qo,Qm]) Q0) (sp (.eq (rr 15550 [Qo,Qm] 0) Qa) (sp Qtg (sp Qth bM (sp (.eq (a0 2050 [bF,bY,Qh,Qh]) Q0) (sp (.eq (rr 2050 [bF,bY,Qh,Qh] 0) Qa) bM kQ) fl)) fl) (sp (.eq (rr 15550 [Qo,Qm] 0) Q0) (sp Qtg (sp Qth bM (sp (.eq (a0 2050 Qti) Q0) (sp (.eq (rr 2050 Qti 0) Qa) bM kQ) fl)) fl) fl)) fl
abbrev Qtj:List SE:=[dP,fC,rr 15550 Qrk 3,rr 15550 Qrk 4]
def aiF:T Lf:=sp Qsi (sp Qcm (sp Qsj (ju 2512 [Qf,Qb,.op .snoc lM (mk (wr (.add Qsk (wr (.mul Qe3 Qs9))))),Qo,Qm,Q0,bF,bY,dP,fC]) fl) fl) (sp (.eq (a0 15550 Qrk) Q0) (sp (.eq (rr 15550 Qrk 0) Qa) (sp Qtg (sp Qth bM (sp (.eq (a0 2050 [dP,fC,Qh,Qh]) Q0) (sp (.eq (rr 2050 [dP,fC,Qh,Qh] 0) Qa) bM kQ) fl)) fl) (sp (.eq (rr 15550 Qrk 0) Q0) (sp Qtg (sp Qth bM (sp (.eq (a0 2050 Qtj) Q0) (sp (.eq (rr 2050 Qtj 0) Qa) bM kQ) fl)) fl) fl)) fl)
abbrev Qtk:SE:=.op .snoc Qb (mk (wr (.add Qsu (wr (.mul ZK Qs9)))))
abbrev Qtl:List SE:=[bY,dP,Qb]
abbrev Qtm:SE:=rr 15600 Qtl 0
abbrev Qtn:SE:=rr 15600 Qtl 4
abbrev Qto:SE:=rr 15600 Qtl 5
abbrev Qtp:SB:=.eq (a0 2450 [Qh,Qtn]) Q0
abbrev Qtq:SB:=.eq (rr 2450 [Qh,Qtn] 0) Qa
abbrev Qtr:List SE:=[Qh,Qh,Qto,rr 15600 Qtl 6]
def aaI:T Lf:=sp (.lt bF Qm) (sp Qlx fl (sp Qss (sp Qst (sp (.lt Qc Qh8) (ju 2510 [Qf,Qtk,Qo,Qm,Qsw,bY,dP]) fl) fl) fl)) (sp (.eq (a0 15600 Qtl) Q0) (sp (.eq Qtm Qa) Qs5 (sp (.eq Qtm Q0) (sp Qs3 (sp Qs4 bM (sp (.eq (a0 2050 [Qh,Qh,Qtn,Qto]) Q0) (sp (.eq (rr 2050 [Qh,Qh,Qtn,Qto] 0) Qa) bM kQ) fl)) fl) (sp (.eq Qtm kY) (sp Qtp (sp Qtq bM (sp (.eq (a0 2050 Qtr) Q0) (sp (.eq (rr 2050 Qtr 0) Qa) bM kQ) fl)) fl) fl))) fl)
abbrev Qts:List SE:=[fC,fU,Qto,rr 15600 Qtl 6]
def Vk:T Lf:=sp (.lt bF Qm) (sp Qlx fl (sp Qss (sp Qst (sp (.lt Qc Qh8) (ju 2511 [Qf,Qtk,Qo,Qm,Qsw,bY,dP,fC,fU]) fl) fl) fl)) (sp (.eq (a0 15600 Qtl) Q0) (sp (.eq Qtm Qa) (sp Qs3 (sp Qs4 bM (sp (.eq (a0 2050 [fC,fU,Qh,Qh]) Q0) (sp (.eq (rr 2050 [fC,fU,Qh,Qh] 0) Qa) bM kQ) fl)) fl) (sp (.eq Qtm Q0) (sp Qs3 (sp Qs4 bM (sp (.eq (a0 2050 [fC,fU,Qtn,Qto]) Q0) (sp (.eq (rr 2050 [fC,fU,Qtn,Qto] 0) Qa) bM kQ) fl)) fl) (sp (.eq Qtm kY) (sp Qtp (sp Qtq bM (sp (.eq (a0 2050 Qts) Q0) (sp (.eq (rr 2050 Qts 0) Qa) bM kQ) fl)) fl) fl))) fl)
abbrev Qtt:List SE:=[dP,fC,Qo]
abbrev Qtu:SE:=rr 15600 Qtt 0
abbrev Qtv:List SE:=[fU,iO,rr 15600 Qtt 4,rr 15600 Qtt 5]
abbrev Qtw:List SE:=[fU,iO,rr 15600 Qtt 5,rr 15600 Qtt 6]
def aaH:T Lf:=sp (.lt bY bF) (sp Qfq fl (sp (.lt bY He) (sp (.eq (a0 2100 [nm (el Qm bY),Qkq]) Q0) (sp (.lt U7 Qh8) (ju 2512 [Qf,Qb,.op .snoc Qo (mk (wr (.add (rr 2100 [nm (el Qm bY),Qkq] 0) (wr (.mul Qkq Qs9))))),Qm,bF,Qft,dP,fC,fU,iO]) fl) fl) fl)) (sp (.eq (a0 15600 Qtt) Q0) (sp (.eq Qtu Qa) (sp Qtg (sp Qth bM (sp (.eq (a0 2050 [fU,iO,Qh,Qh]) Q0) (sp (.eq (rr 2050 [fU,iO,Qh,Qh] 0) Qa) bM kQ) fl)) fl) (sp (.eq Qtu Q0) (sp Qtg (sp Qth bM (sp (.eq (a0 2050 Qtv) Q0) (sp (.eq (rr 2050 Qtv 0) Qa) bM kQ) fl)) fl) (sp (.eq Qtu kY) (sp (.eq (a0 2450 [Qb,rr 15600 Qtt 4]) Q0) (sp (.eq (rr 2450 [Qb,rr 15600 Qtt 4] 0) Qa) bM (sp (.eq (a0 2050 Qtw) Q0) (sp (.eq (rr 2050 Qtw 0) Qa) bM kQ) fl)) fl) fl))) fl)
abbrev Qt1:SE:=ce 2 Qf3
def aiB:T Lf:=sp (.eq (a0 5400 Qpa) Q0) (sp (.lt (rr 5400 Qpa 3) Qa) (ou [rr 5400 Qpa 0,rr 5400 Qpa 1,rr 5400 Qpa 2,Qa]) (ou [rr 5400 Qpa 0,rr 5400 Qpa 1,rr 5400 Qpa 2,Q0])) fl
abbrev Qvt:SE:=wr (.sub bY Q0)
def aiA:T Lf:=sp (.lt Qvt Qa) (ou [Qvt,dP,Qa]) (sp (.lt XB bF) (ou [Qvt,dP,Qa]) (ju 5051 [bF,Qm,He,Qa,Qvt,dP,Qf,Qb,Qo]))
abbrev Qvu:List SE:=[Qfk,ce 1 Qs,Qfo,ce 3 Qs,Qku,bF,bY]
abbrev Qvv:SE:=.op .norm fC Qa
abbrev Qvw:T Lf:=ou [bF,bY,Qa]
abbrev Qvx:T Lf:=ou [bF,bY,Q0]
def aaG:T Lf:=sp Qp (sp Qq fl (sp Qr (sp (.eq (a0 5050 Qvu) Q0) (sp (.eq (rr 5050 Qvu 2) Qa) (ou [rr 5050 Qvu 0,rr 5050 Qvu 1,Qa]) (ju 5051 [Qf,Qb,Qo,Q1,rr 5050 Qvu 0,rr 5050 Qvu 1,dP,fC,fU])) fl) fl)) (sp (.eq dP Q0) (sp Qlg (sp (.eq Qvv lM) (sp Qky Qvw Qvx) Qvw) Qvw) (sp (.eq dP kY) (sp Qlg (sp Qky Qvw (sp (.lt fU bY) (sp (.eq (a0 12900 [fC,Qa]) Q0) (sp (.eq (rr 12900 [fC,Qa] 0) Qa) Qvw (sp (.eq (rr 12900 [fC,Qa] 0) Q0) Qvx fl)) fl) Qvw)) Qvw) (sp (.eq dP tY) (sp Qmo (sp (.eq Qc Q0) (sp (.eq Qvv Qou) Qvx Qvw) (sp (.eq Qc kY) (sp (.eq Qvv Qov) Qvx (sp (.eq Qvv Qou) Qvx (sp (.eq Qvv Qow) Qvx (sp (.eq Qvv Qox) Qvx (sp (.eq Qvv Qoy) Qvx Qvw))))) Qvw)) Qvw) Qvw)))
def ahZ:T Lf:=ju 5101 OI
def awJ:T Lf:=ou [Qb]
def ahY:T Lf:=ju 5151 OI
def awI:T Lf:=ou [Qf,Qb,Q0]
def ahX:T Lf:=ju 5201 OI
def awH:T Lf:=ou [Q0,Qf,Qb,Q0]
def ahW:T Lf:=ju 5251 [Qb,Qf,vJ,Qa,Qo]
abbrev Qvy:SB:=.eq (a0 1150 [Qfk,ce 1 Qs,Qfo,ce 3 Qs]) Q0
abbrev Qvz:SB:=.eq (rr 1150 [Qfk,ce 1 Qs,Qfo,ce 3 Qs] 0) Qa
abbrev Qv0:SB:=.eq (a0 5450 [ce 3 Qs,Qku,Qsw]) Q0
abbrev Qv1:List SE:=[Qf,Qb,Qo,Q1,rr 5450 [ce 3 Qs,Qku,Qsw] 0]
def aaF:T Lf:=sp Qp (sp Qq fl (sp Qr (sp (.lt (.lit 1000) Qsw) fl (sp (.lt XB Qf) fl (sp Qvy (sp Qvz fl (sp Qv0 (ju 5251 Qv1) fl)) fl))) fl)) (ou [bF,Qb])
def ahV:T Lf:=ju 5301 [Qf,Qa,Qb,Qo,Qm]
abbrev Qv2:SB:=.eq (nm (ce 0 Qqc)) kY
abbrev Qv3:List SE:=[ce 3 Qqc,Qm,bF]
abbrev Qv4:T Lf:=sp (.eq (a0 5500 Qv3) Q0) (sp (.eq (rr 5500 Qv3 2) Qa) (ou [Qo,rr 5500 Qv3 0,rr 5500 Qv3 1,Qa]) (ju 5301 [Qf,Qe5,Qo,rr 5500 Qv3 0,rr 5500 Qv3 1])) fl
def aaE:T Lf:=sp Qqa (sp Qe2 fl (sp Qqb (sp Qv2 (sp (.eq (.op .L8 bF Qq0) Qa) (ou [Qo,Qm,bF,Qa]) (sp (.eq (nm (.op .L9 bF Qq0)) Qa) (ou [Qo,Qm,bF,Qa]) Qv4)) Qv4) fl)) (ou [Qo,Qm,bF,Q0])
def ahU:T Lf:=ju 5351 [Qf,Qa,Qb,Q0,Qo,Qm]
abbrev Qv5:T Lf:=ou [Qo,Qm,bF,bY,Qa]
abbrev Qv6:List SE:=[ce 3 Qqc,Qm,bF,bY]
abbrev Qv7:T Lf:=sp (.eq (a0 5600 Qv6) Q0) (sp (.eq (rr 5600 Qv6 3) Qa) (ou [Qo,rr 5600 Qv6 0,rr 5600 Qv6 1,rr 5600 Qv6 2,Qa]) (ju 5351 [Qf,Qe5,Qo,rr 5600 Qv6 0,rr 5600 Qv6 1,rr 5600 Qv6 2])) fl
def aaD:T Lf:=sp Qqa (sp Qe2 fl (sp Qqb (sp Qv2 (sp (.eq (.op .L8 bY Qq0) Qa) Qv5 (sp (.eq (nm (.op .L9 bY Qq0)) Qa) Qv5 Qv7)) Qv7) fl)) (ou [Qo,Qm,bF,bY,Q0])
def ahT:T Lf:=ju 5401 [Qf,vJ,Qa,Qb,Qo,Qm]
def aaC:T Lf:=sp yH (sp vN fl (sp ZL (sp (.eq (a0 800 [Qgl,U5,Qgk,Qgn,XG]) Q0) (sp (.eq (rr 800 [Qgl,U5,Qgk,Qgn,XG] 0) Qa) (ou [Qm,bF,bY,Qo]) (ju 5401 [Qf,Qb,mG,Qm,bF,bY])) fl) fl)) (ou [Qm,bF,bY,Qjj])
def ahS:T Lf:=ju 5451 [Qb,Qf,vJ,Qa,Qo]
def ahR:T Lf:=sp Qp (sp Qq fl (sp Qr (sp (.lt (.lit 1000) Qsw) fl (sp (.lt XB Qf) fl (sp Qvy (sp Qvz fl (sp Qv0 (ju 5451 Qv1) fl)) fl))) fl)) (ou [bF])
def ahP:T Lf:=ju 5501 [Qf,vJ,Qa,Qb,Qo]
abbrev Qv8:List SE:=[Qgn,Qm,bF]
abbrev Qv9:T Lf:=sp (.eq (a0 5500 Qv8) Q0) (sp (.eq (rr 5500 Qv8 2) Qa) (ou [rr 5500 Qv8 0,rr 5500 Qv8 1,Qa]) (ju 5501 [Qf,Qb,mG,rr 5500 Qv8 0,rr 5500 Qv8 1])) fl
def ahO:T Lf:=sp yH (sp vN fl (sp ZL (sp (.eq Qgl kY) (sp (.eq (.op .L8 bF U5) Qa) Qo7 (sp (.eq (nm (.op .L9 bF U5)) Qa) Qo7 Qv9)) Qv9) fl)) (ou [Qm,bF,Q0])
def awG:T Lf:=ju 5551 [Qf,vJ,Qa,Q0,Qb,Qo]
abbrev Qwa:SB:=.eq (.op .L8 bY U5) Qa
abbrev Qwb:T Lf:=ou [Qm,bF,bY,Qa]
abbrev Qwc:SB:=.eq (nm (.op .L9 bY U5)) Qa
abbrev Qwd:List SE:=[Qgn,Qm,bF,bY]
abbrev Qwe:SB:=.eq (rr 5600 Qwd 3) Qa
abbrev Qwf:T Lf:=ou [rr 5600 Qwd 0,rr 5600 Qwd 1,rr 5600 Qwd 2,Qa]
abbrev Qwg:List SE:=[Qf,Qb,mG,rr 5600 Qwd 0,rr 5600 Qwd 1,rr 5600 Qwd 2]
abbrev Qwh:T Lf:=sp (.eq (a0 5600 Qwd) Q0) (sp Qwe Qwf (ju 5551 Qwg)) fl
def awF:T Lf:=sp yH (sp vN fl (sp ZL (sp (.eq Qgl kY) (sp Qwa Qwb (sp Qwc Qwb Qwh)) Qwh) fl)) (ou [Qm,bF,bY,Q0])
def ahN:T Lf:=ju 5601 [Qf,vJ,Qa,Qb,Qo,Qm]
abbrev Qwi:T Lf:=sp (.eq (a0 5600 Qwd) Q0) (sp Qwe Qwf (ju 5601 Qwg)) fl
def ahM:T Lf:=sp yH (sp vN fl (sp ZL (sp (.eq Qgl kY) (sp Qwa Qwb (sp Qwc Qwb Qwi)) Qwi) fl)) (ou [Qm,bF,bY,Q0])
abbrev Qwj:List SE:=[Qf,Qb,Qo,Qm,bF,bY,dP,fC,fU,iO,kV,nR,qP]
abbrev Qwk:SE:=rr 12050 Qwj 14
abbrev Qwl:T Lf:=ou [Qa,Qf,Qb,Qo,Qm,bF,bY,dP,fC,fU,iO,kV,nR,qP]
def SS:T Lf:=sp (.eq (a0 12050 Qwj) Q0) (sp (.eq (rr 12050 Qwj 0) Qa) (sp (.eq Qwk Qjj) Qwl (ju 12001 [Qf,Qb,Qo,Qm,bF,bY,dP,fC,fU,iO,kV,nR,qP,Qf,Qwk,wr (.add Qwk Q0)])) fl) fl
abbrev Qwm:SB:=.eq (nm (el qA XE)) Qb
abbrev Qwn:List SE:=[Qf,Qb,Qo,Qm,bF,bY,dP,fC,fU,iO,kV,nR,qP,qA,rC,wr (.add XE Q0)]
abbrev Qwo:SB:=.lt rC Qa
abbrev Qwp:SE:=wr (.add rC Q0)
abbrev Qwq:List SE:=[Qf,Qb,Qo,Qm,bF,bY,dP,fC,fU,iO,kV,nR,qP,.op .set qA (cn (mk rC) (mk (nm (el qA XE)))),Qwp,wr (.add XE Q0)]
abbrev Qwr:T Lf:=sp Qwo fl (sp (.lt Qle rC) fl (sp (.lt (.sub Qle rC) Qa) fl (sp (.eq (.add rC (.sub Qle rC)) Qle) (ou [Q0,Qf,Qb,Qo,Qm,bF,bY,dP,fC,fU,iO,kV,nR,qP,rC,.op .fill qA (cn (mk rC) lM),Qle]) fl)))
def KW:T Lf:=sp (.lt XE Qle) (sp (.lt XE Qa) fl (sp Qwm (ju 12001 Qwn) (sp Qwo fl (sp (.lt rC Qle) (ju 12001 Qwq) fl)))) Qwr
abbrev Qws:List SE:=[Qf,Qb,Qo,Qm,bF,bY,dP,fC,fU,iO,kV,nR,qP,vJ,Qa]
def X9:T Lf:=ju 12051 Qws
abbrev Qwt:SB:=.eq (nm (el Qf rC)) Qb
abbrev Qwu:T Lf:=ou [Qa,Qf,Qb,Qo,Qm,bF,bY,dP,fC,fU,iO,kV,nR,qP,rC]
abbrev Qwv:List SE:=[Qf,Qb,Qo,Qm,bF,bY,dP,fC,fU,iO,kV,nR,qP,qA,Qwp]
abbrev Qww:T Lf:=ou [Qa,Qf,Qb,Qo,Qm,bF,bY,dP,fC,fU,iO,kV,nR,qP,Qjj]
def KU:T Lf:=sp (.lt rC qA) (sp Qwo fl (sp (.lt rC vJ) (sp Qwt Qwu (ju 12051 Qwv)) fl)) Qww
abbrev Qwx:SE:=rr 12150 Qwj 14
def SQ:T Lf:=sp (.eq (a0 12150 Qwj) Q0) (sp (.eq (rr 12150 Qwj 0) Qa) (sp (.eq Qwx Qjj) Qwl (ju 12101 [Qf,Qb,Qo,Qm,bF,bY,dP,fC,fU,iO,kV,nR,qP,Qf,Qwx,wr (.add Qwx Q0)])) fl) fl
def KR:T Lf:=sp (.lt XE Qle) (sp (.lt XE Qa) fl (sp Qwm (ju 12101 Qwn) (sp Qwo fl (sp (.lt rC Qle) (ju 12101 Qwq) fl)))) Qwr
def X8:T Lf:=ju 12151 Qws
def KQ:T Lf:=sp (.lt rC qA) (sp Qwo fl (sp (.lt rC vJ) (sp Qwt Qwu (ju 12151 Qwv)) fl)) Qww
def X7:T Lf:=sp (.eq (a0 12250 Qwj) Q0) (sp (.eq (rr 12250 Qwj 0) Qa) Qwl fl) fl
def X6:T Lf:=ju 12251 Qwj
def X5:T Lf:=ou [Qa,Qf,Qb,Qo,Qm,bF,bY,dP,fC,fU,iO,kV,nR,qP]
def X4:T Lf:=sp (.eq (a0 12350 Qwj) Q0) (sp (.eq (rr 12350 Qwj 0) Qa) Qwl fl) fl
def X3:T Lf:=ju 12351 Qwj
def X0:T Lf:=ou [Qa,Qf,Qb,Qo,Qm,bF,bY,dP,fC,fU,iO,kV,nR,qP]
abbrev Qwy:SB:=.eq (a0 1400 [Qf,Qm8,Qb,lM,Qo]) Q0
abbrev Qwz:SB:=.eq (rr 1400 [Qf,Qm8,Qb,lM,Qo] 0) Qa
abbrev Qw0:T Lf:=ou [Qa,Qf,Qb,Qo,Qm,bF,bY,dP]
abbrev Qw1:SB:=.lt (.lit 23) bF
abbrev Qw2:SB:=.eq bY Qa
abbrev Qw3:SB:=.eq (a0 1250 [bF]) Q0
abbrev Qw4:SB:=.eq (rr 1250 [bF] 0) Qa
abbrev Qw5:SB:=.eq (a0 1300 [bF]) Q0
abbrev Qw6:SB:=.eq (rr 1300 [bF] 0) Qa
abbrev Qw7:SB:=.eq (a0 5100 [kY,Q0]) Q0
abbrev Qw8:T Lf:=sp Qw7 (ou [Q0,Qf,Qb,Qo,Qm,bF,bY,dP]) fl
abbrev Qw9:SB:=.eq (a0 1000 [lM]) Q0
abbrev Qxa:SB:=.eq (rr 1000 [lM] 0) Qa
def XZ:T Lf:=sp Qwy (sp Qwz Qw0 (sp Qfc Qw0 (sp Qw1 Qw0 (sp Qw2 (sp Qw3 (sp Qw4 (sp Qw5 (sp Qw6 Qw8 (sp Qw9 (sp Qxa Qw0 Qw8) fl)) fl) Qw0) fl) Qw0)))) fl
abbrev Qxb:SE:=.dat (.p (.i 98) (.i 0))
abbrev Qxc:SB:=.eq (a0 1400 [Q0,Qxb,Qf,lM,Qb]) Q0
abbrev Qxd:SB:=.eq (rr 1400 [Q0,Qxb,Qf,lM,Qb] 0) Qa
abbrev Qxe:T Lf:=ou [Qa,Qf,Qb,Qo,Qm,bF,bY,dP,fC,fU]
abbrev Qxf:SB:=.eq (a0 1400 [Qo,Qm8,Qm,Qxb,bF]) Q0
abbrev Qxg:SB:=.eq (rr 1400 [Qo,Qm8,Qm,Qxb,bF] 0) Qa
abbrev Qxh:SB:=.lt dP Q0
abbrev Qxi:SB:=.lt (.lit 23) dP
abbrev Qxj:SB:=.eq (a0 1250 [dP]) Q0
abbrev Qxk:SB:=.eq (rr 1250 [dP] 0) Qa
abbrev Qxl:SB:=.eq (a0 1300 [dP]) Q0
abbrev Qxm:SB:=.eq (rr 1300 [dP] 0) Qa
abbrev Qxn:T Lf:=sp Qw7 (ou [Q0,Qf,Qb,Qo,Qm,bF,bY,dP,fC,fU]) fl
def XY:T Lf:=sp Qxc (sp Qxd Qxe (sp Qxf (sp Qxg Qxe (sp Qxh Qxe (sp Qxi Qxe (sp Qk2 (sp Qxj (sp Qxk (sp Qxl (sp Qxm Qxn (sp Qw9 (sp Qxa Qxe Qxn) fl)) fl) Qxe) fl) Qxe)))) fl)) fl
def XW:T Lf:=sp Qwy (sp Qwz Qw0 (sp Qfc Qw0 (sp Qw1 Qw0 (sp Qw2 (sp Qw3 (sp Qw4 (sp Qw5 (sp Qw6 Qw0 Qw8) fl) Qw0) fl) Qw0)))) fl
def XV:T Lf:=sp Qxc (sp Qxd Qxe (sp Qxf (sp Qxg Qxe (sp Qxh Qxe (sp Qxi Qxe (sp Qk2 (sp Qxj (sp Qxk (sp Qxl (sp Qxm Qxe Qxn) fl) Qxe) fl) Qxe)))) fl)) fl
abbrev Qxo:T Lf:=ou [Qa,Qf,Qb,Qo,Qm,bF,bY,dP,fC]
abbrev Qxp:SB:=.eq ZK (rr 1250 [bF] 0)
abbrev Qxq:T Lf:=sp (.eq (a0 5250 [dP,kY,Q0]) Q0) (ou [Q0,Qf,Qb,Qo,Qm,bF,bY,dP,fC,ZK,rr 5250 [dP,kY,Q0] 1]) fl
def SN:T Lf:=sp Qwy (sp Qwz Qxo (sp Qfc Qxo (sp Qw1 Qxo (sp Qw2 (sp Qw3 (sp Qxp (sp Qw5 (sp Qw6 Qxq (sp Qw9 (sp Qxa Qxo Qxq) fl)) fl) Qxo) fl) Qxo)))) fl
abbrev Qxr:T Lf:=ou [Qa,Qf,Qb,Qo,Qm,bF,bY,dP,fC,fU,iO]
abbrev Qxs:SB:=.eq (ln fU) (rr 1250 [dP] 0)
abbrev Qxt:T Lf:=sp (.eq (a0 5250 [fU,kY,Q0]) Q0) (ou [Q0,Qf,Qb,Qo,Qm,bF,bY,dP,fC,fU,iO,ln fU,rr 5250 [fU,kY,Q0] 1]) fl
def SL:T Lf:=sp Qxc (sp Qxd Qxr (sp Qxf (sp Qxg Qxr (sp Qxh Qxr (sp Qxi Qxr (sp Qk2 (sp Qxj (sp Qxs (sp Qxl (sp Qxm Qxt (sp Qw9 (sp Qxa Qxr Qxt) fl)) fl) Qxr) fl) Qxr)))) fl)) fl
def SK:T Lf:=sp Qwy (sp Qwz Qxo (sp Qfc Qxo (sp Qw1 Qxo (sp Qw2 (sp Qw3 (sp Qxp (sp Qw5 (sp Qw6 Qxo Qxq) fl) Qxo) fl) Qxo)))) fl
def SI:T Lf:=sp Qxc (sp Qxd Qxr (sp Qxf (sp Qxg Qxr (sp Qxh Qxr (sp Qxi Qxr (sp Qk2 (sp Qxj (sp Qxs (sp Qxl (sp Qxm Qxr Qxt) fl) Qxr) fl) Qxr)))) fl)) fl
def XU:T Lf:=ju 12801 [Qf,Qb,Qb]
abbrev Qxu:SE:=nm (el (.dat b0) (nm XF))
abbrev Qxv:SE:=.op .idx (.op .sub Qf (cn EP (cn (mk vJ) lM))) Qit
abbrev Qxw:T Lf:=ou [Qa,Qf,Qb,Qo]
def SH:T Lf:=sp ZL (sp vN fl (sp (.lt (nm XF) Qa) fl (sp (.lt (nm XF) Qol) (sp (.eq Qxu Q0) (ju 12801 [Qf,Qb,mG]) (sp (.eq Qxu kY) (sp (.lt vJ vJ) fl (sp (.lt Qxv Qa) (ou [Qa,Qf,Qb,vJ]) (ju 12801 [Qf,Qb,wr (.add Qo Qxv)]))) Qxw)) fl))) Qxw
abbrev Qxx:SE:=nm (el Qf Qb)
abbrev Qxy:SE:=wr (.add Qb kY)
abbrev Qxz:SE:=.op .norm (.op .sub Qf (cn Qqj (cn (mk vJ) lM))) Qa
abbrev Qx0:SE:=.dat (.p (.i 45) (.p (.i 62) (.i 0)))
abbrev Qx1:T Lf:=ou [Qa,Qf,Qb,wr (.add Qe5 Q0)]
abbrev Qx2:SE:=.op .norm (.op .sub Qf (cn Qqj (cn (mk Qxy) lM))) Qa
def XT:T Lf:=sp Qe2 fl (sp (.lt Qb vJ) (sp (.lt Qxx Qa) fl (sp (.lt Qxx Qol) (sp (.eq (nm (el (.dat b0) Qxx)) ZN) (sp (.lt vJ Qxy) (sp (.lt vJ vJ) fl (sp (.eq Qxz Qx0) Qx1 (sp (.eq Qxz Qox) Qx1 (ou [Qa,Qf,Qb,Qe5])))) (sp (.lt Qxy Qb) fl (sp (.eq Qx2 Qx0) Qx1 (sp (.eq Qx2 Qox) Qx1 (ou [Qa,Qf,Qb,Qe5]))))) (ju 12851 [Qf,Qb,nm (el (.dat b0) Qxx),Qe5])) fl)) fl)
abbrev Qx3:T Lf:=ou [Qa,Qf,Qb,Qm]
def SG:T Lf:=sp Qfi (sp Qq fl (sp (.lt Qmn Qa) fl (sp (.lt Qmn Qol) (sp (.eq (nm (el (.dat b0) Qmn)) tY) (ju 12851 Qfz) (sp (.eq (nm (el (.dat b0) Qmn)) EO) (sp (.eq Qo EO) (ju 12851 Qfz) Qx3) Qx3)) fl))) Qx3
abbrev Qx4:SE:=el Qt1 bY
abbrev Qx5:SE:=nm (ce 0 Qx4)
abbrev Qx6:SB:=.lt Qa (ln (ce 6 Qx4))
abbrev Qx7:SE:=el (ce 6 Qx4) Qa
abbrev Qx8:List SE:=[nm (ce 0 Qx7),ce 1 Qx7,nm (ce 2 Qx7),ce 3 Qx7,dP]
abbrev Qx9:SB:=.eq (a0 1950 Qx8) Q0
abbrev Qya:SE:=nm (ce 3 Qx4)
abbrev Qyb:SB:=.eq (rr 1950 Qx8 0) Qa
abbrev Qyc:T Lf:=ou [Qa,Qf,Qb,Qo,Qm,bF,bY,dP,fC,fU,iO,kV,nm (ce 4 Qx4),dP]
def yL:T Lf:=sp vN fl (sp Qdk (sp Qf1 (sp Qfq fl (sp (.lt bY (ln Qt1)) (sp (.eq Qx5 tY) (sp Qx6 (sp Qx9 (sp (.lt Qya Qa) fl (sp (.lt Qya ZK) (ou [Qa,Qf,Qb,Qo,Qm,bF,bY,dP,fC,fU,iO,kV,Qft,.op .set dP (cn (mk Qya) (mk (rr 1950 Qx8 0)))]) fl)) fl) fl) (sp (.eq Qx5 EO) (sp Qx6 (sp Qx9 (sp Qyb Qyc (ou [Qa,Qf,Qb,Qo,Qm,bF,bY,dP,fC,fU,iO,kV,Qft,dP])) fl) fl) (sp (.eq Qx5 ZN) Qyc (sp (.eq Qx5 XH) (sp (.lt Qya Qa) fl (sp (.lt Qya ZK) (ou [Qa,Qf,Qb,Qo,Qm,bF,bY,dP,fC,fU,iO,kV,Qft,.op .set dP (cn (mk Qya) (mk (nm (ce 5 Qx4))))]) fl)) (sp (.eq Qx5 Qil) (sp (.lt Qya Qa) fl (sp (.lt Qya ZK) (sp (.lt Qa (nm (el dP Qya))) (ou [Qa,Qf,Qb,Qo,Qm,bF,bY,dP,fC,fU,iO,kV,Qft,.op .set dP (cn (mk Qya) (mk (wr (.sub (nm (el dP Qya)) Q0))))]) Qyc) fl)) fl))))) fl)) fl) fl)
abbrev Qyd:List SE:=[Qf,Qb,fC,Qo,Qm,bF,bY,dP]
abbrev GZ:SE:=rr 400 Qyd 6
abbrev Qyf:SE:=el Qt1 iO
abbrev Qyg:SB:=.eq (nm (ce 0 Qyf)) Q0
abbrev Qyh:SB:=.eq (nm (ce 1 Qyf)) ZI
abbrev OB:SE:=rr 400 Qyd 2
abbrev GY:SE:=rr 400 Qyd 4
abbrev Qyk:SE:=nm (ce 3 Qyf)
abbrev Qyl:SB:=.lt Qyk Qa
abbrev Qym:SB:=.eq GZ tY
abbrev RU:SE:=rr 400 Qyd 1
abbrev D5:SE:=rr 400 Qyd 3
abbrev RQ:SE:=rr 400 Qyd 5
abbrev RP:SE:=rr 400 Qyd 0
abbrev Qyr:SE:=wr (.add iO Q0)
abbrev Qys:T Lf:=ou [Qa,Qf,Qb,Qo,Qm,bF,bY,dP,fC,fU,iO,kV,nR,qP,qA,rC,RU,OB,D5,GY,RQ,GZ,RP,Qyr,kV,Qj1,D5,qA,Qa]
abbrev Qyt:T Lf:=ou [Qa,Qf,Qb,Qo,Qm,bF,bY,dP,fC,fU,iO,kV,nR,qP,qA,rC,RU,OB,D5,GY,RQ,GZ,RP,Qyr,kV,nR,qP,qA,Qa]
abbrev Qyu:SB:=.lt Qyk (ln kV)
abbrev Qyv:SE:=.op .set kV (cn (mk Qyk) (mk GY))
abbrev Qyw:T Lf:=ou [Qa,Qf,Qb,Qo,Qm,bF,bY,dP,fC,fU,iO,kV,nR,qP,qA,rC,RU,OB,D5,GY,RQ,GZ,RP,Qyr,Qyv,Qj1,D5,qA,Qa]
abbrev Qyx:T Lf:=ou [Qa,Qf,Qb,Qo,Qm,bF,bY,dP,fC,fU,iO,kV,nR,qP,qA,rC,RU,OB,D5,GY,RQ,GZ,RP,Qyr,Qyv,nR,qP,qA,Qa]
abbrev Qyy:SE:=nm (ce 4 Qyf)
abbrev Qyz:T Lf:=ou [Qa,Qf,Qb,Qo,Qm,bF,bY,dP,fC,fU,iO,kV,nR,qP,qA,rC,RU,OB,D5,GY,RQ,GZ,RP,Qyy,kV,Qj1,D5,qA,Qa]
abbrev Qy0:T Lf:=ou [Qa,Qf,Qb,Qo,Qm,bF,bY,dP,fC,fU,iO,kV,nR,qP,qA,rC,RU,OB,D5,GY,RQ,GZ,RP,Qyy,kV,nR,qP,qA,Qa]
abbrev Qy1:T Lf:=ou [Qa,Qf,Qb,Qo,Qm,bF,bY,dP,fC,fU,iO,kV,nR,qP,qA,rC,RU,OB,D5,GY,RQ,GZ,RP,Qyy,Qyv,Qj1,D5,qA,Qa]
abbrev Qy2:T Lf:=ou [Qa,Qf,Qb,Qo,Qm,bF,bY,dP,fC,fU,iO,kV,nR,qP,qA,rC,RU,OB,D5,GY,RQ,GZ,RP,Qyy,Qyv,nR,qP,qA,Qa]
abbrev Qy3:SB:=.eq OB (.lit 15)
abbrev Qy4:T Lf:=sp Qym (sp Qy3 (ou [Qa,Qf,Qb,Qo,Qm,bF,bY,dP,fC,fU,iO,kV,nR,qP,qA,rC,RU,OB,D5,GY,RQ,GZ,RP,Qyr,kV,Qj3,D5,GY,Qa]) Qys) Qyt
def fF:T Lf:=sp (.eq (a0 400 Qyd) Q0) (sp vN fl (sp (.lt Qo (ln fU)) (sp (.eq GZ Qa) (sp (.eq Qm EO) (sp (.lt Qj2 Qwp) (ou [Qa,Qf,Qb,Qo,Qm,bF,bY,dP,fC,fU,iO,kV,nR,qP,qA,rC,Qa,Qa,Qa,Qa,Qa,GZ,fC,iO,kV,nR,qP,qA,Qj2]) (ou [Qa,Qf,Qb,Qo,Qm,bF,bY,dP,fC,fU,iO,kV,nR,qP,qA,rC,Qa,Qa,Qa,Qa,Qa,GZ,fC,iO,kV,nR,qP,qA,Qwp])) (ou [Qa,Qf,Qb,Qo,Qm,bF,bY,dP,fC,fU,iO,kV,nR,qP,qA,rC,Qa,Qa,Qa,Qa,Qa,GZ,fC,iO,kV,nR,qP,qA,rC])) (sp (.eq nR Qa) (sp Qf1 (sp Qlf fl (sp (.lt iO (ln Qt1)) (sp Qyg (sp Qyh (sp (.eq OB ZI) (sp (.eq GY Q0) (sp Qyl (sp Qym Qys Qyt) (sp Qyu (sp Qym Qyw Qyx) fl)) (sp Qyl (sp Qym Qyz Qy0) (sp Qyu (sp Qym Qy1 Qy2) fl))) (sp Qyl (sp Qym (sp Qy3 (ou [Qa,Qf,Qb,Qo,Qm,bF,bY,dP,fC,fU,iO,kV,nR,qP,qA,rC,RU,OB,D5,GY,RQ,GZ,RP,Qyy,kV,Qj3,D5,GY,Qa]) Qyz) Qy0) (sp Qyu (sp Qym (sp Qy3 (ou [Qa,Qf,Qb,Qo,Qm,bF,bY,dP,fC,fU,iO,kV,nR,qP,qA,rC,RU,OB,D5,GY,RQ,GZ,RP,Qyy,Qyv,Qj3,D5,GY,Qa]) Qy1) Qy2) fl))) (sp Qyl Qy4 (sp Qyu (sp Qym (sp Qy3 (ou [Qa,Qf,Qb,Qo,Qm,bF,bY,dP,fC,fU,iO,kV,nR,qP,qA,rC,RU,OB,D5,GY,RQ,GZ,RP,Qyr,Qyv,Qj3,D5,GY,Qa]) Qyw) Qyx) fl))) Qy4) fl)) fl) (ou [Qa,Qf,Qb,Qo,Qm,bF,bY,dP,fC,fU,iO,kV,nR,qP,qA,rC,RU,OB,D5,GY,RQ,GZ,RP,iO,kV,Qa,Qa,Qa,Qa]))) fl)) fl
abbrev Qy5:T Lf:=ou [Qa,Qf,Qb,Qo,Qm,bF,bY,dP,fC,fU,iO,kV,nm (ce 4 Qx4)]
def KP:T Lf:=sp vN fl (sp Qdk (sp Qf1 (sp Qfq fl (sp (.lt bY (ln Qt1)) (sp (.eq Qx5 tY) (sp Qx6 (sp Qx9 fl fl) fl) (sp (.eq Qx5 EO) (sp Qx6 (sp Qx9 (sp Qyb Qy5 (ou [Qa,Qf,Qb,Qo,Qm,bF,bY,dP,fC,fU,iO,kV,Qft])) fl) fl) (sp (.eq Qx5 ZN) Qy5 (sp (.eq Qx5 XH) fl (sp (.eq Qx5 Qil) fl fl))))) fl)) fl) fl)
abbrev Qy6:T Lf:=ou [Qa,Qf,Qb,Qo,Qm,bF,bY,dP,fC,fU,iO,kV,nR,qP,qA,rC,RU,OB,D5,GY,RQ,GZ,RP,Qyr,Qj1,D5,qA,Qa]
abbrev Qy7:T Lf:=ou [Qa,Qf,Qb,Qo,Qm,bF,bY,dP,fC,fU,iO,kV,nR,qP,qA,rC,RU,OB,D5,GY,RQ,GZ,RP,Qyr,nR,qP,qA,Qa]
abbrev Qy8:T Lf:=ou [Qa,Qf,Qb,Qo,Qm,bF,bY,dP,fC,fU,iO,kV,nR,qP,qA,rC,RU,OB,D5,GY,RQ,GZ,RP,Qyy,Qj1,D5,qA,Qa]
abbrev Qy9:T Lf:=ou [Qa,Qf,Qb,Qo,Qm,bF,bY,dP,fC,fU,iO,kV,nR,qP,qA,rC,RU,OB,D5,GY,RQ,GZ,RP,Qyy,nR,qP,qA,Qa]
abbrev Qza:T Lf:=sp Qym (sp Qy3 (ou [Qa,Qf,Qb,Qo,Qm,bF,bY,dP,fC,fU,iO,kV,nR,qP,qA,rC,RU,OB,D5,GY,RQ,GZ,RP,Qyr,Qj3,D5,GY,Qa]) Qy6) Qy7
def jO:T Lf:=sp (.eq (a0 400 Qyd) Q0) (sp vN fl (sp (.lt Qo (ln fU)) (sp (.eq GZ Qa) (sp (.eq Qm EO) (sp (.lt Qj2 Qwp) (ou [Qa,Qf,Qb,Qo,Qm,bF,bY,dP,fC,fU,iO,kV,nR,qP,qA,rC,Qa,Qa,Qa,Qa,Qa,GZ,fC,iO,nR,qP,qA,Qj2]) (ou [Qa,Qf,Qb,Qo,Qm,bF,bY,dP,fC,fU,iO,kV,nR,qP,qA,rC,Qa,Qa,Qa,Qa,Qa,GZ,fC,iO,nR,qP,qA,Qwp])) (ou [Qa,Qf,Qb,Qo,Qm,bF,bY,dP,fC,fU,iO,kV,nR,qP,qA,rC,Qa,Qa,Qa,Qa,Qa,GZ,fC,iO,nR,qP,qA,rC])) (sp (.eq nR Qa) (sp Qf1 (sp Qlf fl (sp (.lt iO (ln Qt1)) (sp Qyg (sp Qyh (sp (.eq OB ZI) (sp (.eq GY Q0) (sp Qyl (sp Qym Qy6 Qy7) fl) (sp Qyl (sp Qym Qy8 Qy9) fl)) (sp Qyl (sp Qym (sp Qy3 (ou [Qa,Qf,Qb,Qo,Qm,bF,bY,dP,fC,fU,iO,kV,nR,qP,qA,rC,RU,OB,D5,GY,RQ,GZ,RP,Qyy,Qj3,D5,GY,Qa]) Qy8) Qy9) fl)) (sp Qyl Qza fl)) Qza) fl)) fl) (ou [Qa,Qf,Qb,Qo,Qm,bF,bY,dP,fC,fU,iO,kV,nR,qP,qA,rC,RU,OB,D5,GY,RQ,GZ,RP,iO,Qa,Qa,Qa,Qa]))) fl)) fl
abbrev Qzb:List SE:=[Qf,Qb,Qo,Qc,Qa,Qrw,Qrx]
def SC:T Lf:=sp Qru (sp Qrv (ju 15501 Qzb) Qxw) fl
abbrev Qzc:SE:=.rem (wr (.add (.rem (nm (el Qo bF)) Qm) Qm)) Qm
abbrev Qzd:SB:=.lt Qzc Qa
abbrev Qze:List SE:=[Qf,Qb,bY,dP,Qzc]
abbrev Qzf:SE:=rr 1850 Qze 7
abbrev Qzg:SE:=rr 1850 Qze 1
abbrev Qzh:List SE:=[Qf,Qb,Qo,Qm,Qsw,.op .snoc lM (cn (mk (rr 1850 Qze 2)) (cn (mk (rr 1850 Qze 3)) (cn (mk (rr 1850 Qze 4)) (cn (mk (rr 1850 Qze 5)) (cn (mk (rr 1850 Qze 6)) lM))))),rr 1850 Qze 0,Qzg]
abbrev Qzi:List SE:=[Qf,Qb,Qo,Qm,Qsw,rr 1850 Qze 0,Qzg]
abbrev Qzj:T Lf:=ou [Q0,Qf,Qb,Qo,bY,dP]
def Ed:T Lf:=sp Qss (sp Qsi (sp Qlx fl (sp Qzd fl (sp (.lt Qzc ZK) (sp (.eq (a0 1850 Qze) Q0) (sp (.eq Qzf kY) (ju 15502 Qzh) (sp (.eq Qzf tY) (ju 15502 Qzh) (sp (.eq Qzf Q0) (ju 15501 Qzi) (sp (.lt Qzc (ln Qzg)) (ju 15501 Qzi) fl)))) fl) fl))) Qzj) Qzj
abbrev Qzk:List SE:=[Qf,Qb,dP,fC,Qzc]
abbrev Qzl:SE:=rr 1850 Qzk 7
abbrev Qzm:SE:=rr 1850 Qzk 1
abbrev Qzn:List SE:=[Qf,Qb,Qo,Qm,Qsw,.op .snoc bY (cn (mk (rr 1850 Qzk 2)) (cn (mk (rr 1850 Qzk 3)) (cn (mk (rr 1850 Qzk 4)) (cn (mk (rr 1850 Qzk 5)) (cn (mk (rr 1850 Qzk 6)) lM))))),rr 1850 Qzk 0,Qzm]
abbrev Qzo:T Lf:=sp (.lt Qe3 Qsz) (ju 15502 Qzn) fl
abbrev Qzp:List SE:=[Qf,Qb,Qo,Qm,Qsw,bY,rr 1850 Qzk 0,Qzm]
abbrev Qzq:T Lf:=ou [kY,Qf,Qb,Qo,bY,dP,fC]
def Ec:T Lf:=sp Qss (sp Qsi (sp Qlx fl (sp Qzd fl (sp (.lt Qzc Qkq) (sp (.eq (a0 1850 Qzk) Q0) (sp (.eq Qzl kY) Qzo (sp (.eq Qzl tY) Qzo (sp (.eq Qzl Q0) (ju 15502 Qzp) (sp (.lt Qzc (ln Qzm)) (ju 15502 Qzp) fl)))) fl) fl))) Qzq) Qzq
def SA:T Lf:=sp Qru (sp Qrv (ju 15551 [Qf,Qb,Qc,Qrw,Qrx]) Qbb) fl
def XQ:T Lf:=ou [Q0,Qf,Qb,Qm,bF]
def Sz:T Lf:=sp Qru (sp Qrv (ju 15601 Qzb) Qxw) fl
def Eb:T Lf:=sp Qss (sp Qsi (sp Qlx fl (sp Qzd fl (sp (.lt Qzc ZK) (sp (.eq (a0 1850 Qze) Q0) (sp (.eq Qzf kY) (ju 15602 Qzh) (sp (.eq Qzf tY) (ju 15602 Qzh) (sp (.eq Qzf Q0) (ju 15601 Qzi) (sp (.lt Qzc (ln Qzg)) (ju 15601 Qzi) fl)))) fl) fl))) Qzj) Qzj
abbrev Qzr:T Lf:=sp (.lt Qe3 Qsz) (ju 15602 Qzn) fl
def Ea:T Lf:=sp Qss (sp Qsi (sp Qlx fl (sp Qzd fl (sp (.lt Qzc Qkq) (sp (.eq (a0 1850 Qzk) Q0) (sp (.eq Qzl kY) Qzr (sp (.eq Qzl tY) Qzr (sp (.eq Qzl Q0) (ju 15602 Qzp) (sp (.lt Qzc (ln Qzm)) (ju 15602 Qzp) fl)))) fl) fl))) Qzq) Qzq
def XR:T Lf:=sp (.eq (a0 1000 Qj) Q0) (sp (.eq (rr 1000 Qj 0) Qa) Qbb Qd2) fl
end
theorem anI:S.tree 9000=OZ:=by kernel_rfl
theorem WV:S.tree 9001=uP:=by kernel_rfl
theorem awZ:S.tree 9002=ahK:=by kernel_rfl
theorem awY:S.tree 9003=ahJ:=by kernel_rfl
theorem anH:S.tree 9004=aaB:=by kernel_rfl
theorem anG:S.tree 9005=aaA:=by kernel_rfl
theorem anF:S.tree 9006=Z9:=by kernel_rfl
theorem anE:S.tree 9007=Z8:=by kernel_rfl
theorem anD:S.tree 9050=IW:=by kernel_rfl
theorem anC:S.tree 9051=Z7:=by kernel_rfl
theorem anB:S.tree 9052=Z5:=by kernel_rfl
theorem aEd:S.tree 9053=awE:=by kernel_rfl
theorem awX:S.tree 9054=ahI:=by kernel_rfl
theorem awW:S.tree 9055=awD:=by kernel_rfl
theorem aEc:S.tree 9056=awC:=by kernel_rfl
theorem aEb:S.tree 9057=avZ:=by kernel_rfl
theorem aEa:S.tree 9058=avY:=by kernel_rfl
theorem aD9:S.tree 9059=avX:=by kernel_rfl
theorem WU:S.tree 9060=EY:=by kernel_rfl
theorem awV:S.tree 9061=ahH:=by kernel_rfl
theorem aD8:S.tree 9062=avW:=by kernel_rfl
theorem WT:S.tree 9063=EX:=by kernel_rfl
theorem awU:S.tree 9064=ahG:=by kernel_rfl
theorem aD7:S.tree 9065=avV:=by kernel_rfl
theorem aD6:S.tree 9066=avU:=by kernel_rfl
theorem aD5:S.tree 9067=avT:=by kernel_rfl
theorem aD4:S.tree 9068=avS:=by kernel_rfl
theorem anA:S.tree 9069=Z4:=by kernel_rfl
theorem amZ:S.tree 9070=ZY:=by kernel_rfl
theorem amY:S.tree 9071=ZX:=by kernel_rfl
theorem amX:S.tree 9072=ZW:=by kernel_rfl
theorem aD3:S.tree 9073=avR:=by kernel_rfl
theorem aD2:S.tree 9074=avQ:=by kernel_rfl
theorem e100:S.tree 100=aCy:=by kernel_rfl
theorem auR:S.tree 101=aCx:=by kernel_rfl
theorem auQ:S.tree 102=aCw:=by kernel_rfl
theorem aB2:S.tree 103=aCv:=by kernel_rfl
theorem aB1:S.tree 150=aCu:=by kernel_rfl
theorem auP:S.tree 151=aCt:=by kernel_rfl
theorem aB0:S.tree 200=arO:=by kernel_rfl
theorem UF:S.tree 201=t201:=by kernel_rfl
theorem auO:S.tree 202=aiL:=by kernel_rfl
theorem e250:S.tree 250=arN:=by kernel_rfl
theorem e251:S.tree 251=aiE:=by kernel_rfl
theorem e300:S.tree 300=aiD:=by kernel_rfl
theorem e301:S.tree 301=XP:=by kernel_rfl
theorem e302:S.tree 302=arM:=by kernel_rfl
theorem auN:S.tree 350=aiC:=by kernel_rfl
theorem auM:S.tree 351=XO:=by kernel_rfl
theorem aBZ:S.tree 400=kH:=by kernel_rfl
theorem aEr:S.tree 450=azV:=by kernel_rfl
theorem aBY:S.tree 451=arL:=by kernel_rfl
theorem aBX:S.tree 452=arK:=by kernel_rfl
theorem aBW:S.tree 453=arJ:=by kernel_rfl
theorem aBV:S.tree 454=arI:=by kernel_rfl
theorem aBU:S.tree 455=arH:=by kernel_rfl
theorem aBT:S.tree 456=arG:=by kernel_rfl
theorem aEq:S.tree 500=azU:=by kernel_rfl
theorem aBS:S.tree 501=arF:=by kernel_rfl
theorem aEp:S.tree 550=ahQ:=by kernel_rfl
theorem aBR:S.tree 551=arE:=by kernel_rfl
theorem aEo:S.tree 552=aCs:=by kernel_rfl
theorem aEn:S.tree 553=aCr:=by kernel_rfl
theorem aEk:S.tree 600=azT:=by kernel_rfl
theorem aEj:S.tree 650=azS:=by kernel_rfl
theorem aEi:S.tree 700=azR:=by kernel_rfl
theorem aEh:S.tree 750=azQ:=by kernel_rfl
theorem aEg:S.tree 800=azP:=by kernel_rfl
theorem aEf:S.tree 850=azO:=by kernel_rfl
theorem aBQ:S.tree 851=ahL:=by kernel_rfl
theorem aEe:S.tree 900=azN:=by kernel_rfl
theorem aD1:S.tree 950=azM:=by kernel_rfl
theorem aBP:S.tree 951=arD:=by kernel_rfl
theorem aBO:S.tree 952=arC:=by kernel_rfl
theorem JG:S.tree 953=uO:=by kernel_rfl
theorem JF:S.tree 954=uN:=by kernel_rfl
theorem ayO:S.tree 1000=aiX:=by kernel_rfl
theorem ayN:S.tree 1050=Vp:=by kernel_rfl
theorem ayM:S.tree 1100=aiW:=by kernel_rfl
theorem ayL:S.tree 1101=awL:=by kernel_rfl
theorem apC:S.tree 1102=aaR:=by kernel_rfl
theorem ayK:S.tree 1150=aiV:=by kernel_rfl
theorem ayJ:S.tree 1200=aiU:=by kernel_rfl
theorem ayI:S.tree 1250=aiT:=by kernel_rfl
theorem ayH:S.tree 1300=aiS:=by kernel_rfl
theorem ayG:S.tree 1350=aiR:=by kernel_rfl
theorem ayF:S.tree 1400=aiQ:=by kernel_rfl
theorem aoE:S.tree 1450=aaQ:=by kernel_rfl
theorem aoC:S.tree 1451=Vo:=by kernel_rfl
theorem aoB:S.tree 1452=Vm:=by kernel_rfl
theorem ayE:S.tree 1500=aiP:=by kernel_rfl
theorem anZ:S.tree 1501=aaP:=by kernel_rfl
theorem ayD:S.tree 1550=aiO:=by kernel_rfl
theorem ayC:S.tree 1600=aiN:=by kernel_rfl
theorem ayB:S.tree 1650=aiM:=by kernel_rfl
theorem ayA:S.tree 1750=KO:=by kernel_rfl
theorem anX:S.tree 1751=aaO:=by kernel_rfl
theorem NS:S.tree 1850=IY:=by kernel_rfl
theorem acO:S.tree 1950=Vl:=by kernel_rfl
theorem axZ:S.tree 2050=aiK:=by kernel_rfl
theorem anW:S.tree 2051=aaN:=by kernel_rfl
theorem anV:S.tree 2052=aaM:=by kernel_rfl
theorem axY:S.tree 2100=aaL:=by kernel_rfl
theorem axX:S.tree 2450=aiJ:=by kernel_rfl
theorem anU:S.tree 2451=aaK:=by kernel_rfl
theorem acN:S.tree 2500=IX:=by kernel_rfl
theorem anT:S.tree 2501=KN:=by kernel_rfl
theorem anS:S.tree 2502=E5:=by kernel_rfl
theorem anR:S.tree 2503=EZ:=by kernel_rfl
theorem axW:S.tree 2504=aiI:=by kernel_rfl
theorem axV:S.tree 2505=aiH:=by kernel_rfl
theorem axU:S.tree 2506=aaJ:=by kernel_rfl
theorem axT:S.tree 2507=aiG:=by kernel_rfl
theorem aEs:S.tree 2508=awK:=by kernel_rfl
theorem axS:S.tree 2509=aiF:=by kernel_rfl
theorem anQ:S.tree 2510=aaI:=by kernel_rfl
theorem anP:S.tree 2511=Vk:=by kernel_rfl
theorem anO:S.tree 2512=aaH:=by kernel_rfl
theorem axR:S.tree 5000=aiB:=by kernel_rfl
theorem axQ:S.tree 5050=aiA:=by kernel_rfl
theorem anN:S.tree 5051=aaG:=by kernel_rfl
theorem axP:S.tree 5100=ahZ:=by kernel_rfl
theorem axO:S.tree 5101=awJ:=by kernel_rfl
theorem axN:S.tree 5150=ahY:=by kernel_rfl
theorem axM:S.tree 5151=awI:=by kernel_rfl
theorem axL:S.tree 5200=ahX:=by kernel_rfl
theorem axK:S.tree 5201=awH:=by kernel_rfl
theorem axJ:S.tree 5250=ahW:=by kernel_rfl
theorem anM:S.tree 5251=aaF:=by kernel_rfl
theorem axI:S.tree 5300=ahV:=by kernel_rfl
theorem anL:S.tree 5301=aaE:=by kernel_rfl
theorem axH:S.tree 5350=ahU:=by kernel_rfl
theorem anK:S.tree 5351=aaD:=by kernel_rfl
theorem axG:S.tree 5400=ahT:=by kernel_rfl
theorem anJ:S.tree 5401=aaC:=by kernel_rfl
theorem axF:S.tree 5450=ahS:=by kernel_rfl
theorem axE:S.tree 5451=ahR:=by kernel_rfl
theorem axD:S.tree 5500=ahP:=by kernel_rfl
theorem axC:S.tree 5501=ahO:=by kernel_rfl
theorem aEm:S.tree 5550=awG:=by kernel_rfl
theorem aEl:S.tree 5551=awF:=by kernel_rfl
theorem axB:S.tree 5600=ahN:=by kernel_rfl
theorem axA:S.tree 5601=ahM:=by kernel_rfl
theorem Zr:S.tree 12000=SS:=by kernel_rfl
theorem UH:S.tree 12001=KW:=by kernel_rfl
theorem apB:S.tree 12050=X9:=by kernel_rfl
theorem Zq:S.tree 12051=KU:=by kernel_rfl
theorem Zp:S.tree 12100=SQ:=by kernel_rfl
theorem UG:S.tree 12101=KR:=by kernel_rfl
theorem apA:S.tree 12150=X8:=by kernel_rfl
theorem Zo:S.tree 12151=KQ:=by kernel_rfl
theorem aoZ:S.tree 12200=X7:=by kernel_rfl
theorem aoY:S.tree 12250=X6:=by kernel_rfl
theorem aoX:S.tree 12251=X5:=by kernel_rfl
theorem aoW:S.tree 12300=X4:=by kernel_rfl
theorem aoV:S.tree 12350=X3:=by kernel_rfl
theorem aoU:S.tree 12351=X0:=by kernel_rfl
theorem aoT:S.tree 12400=XZ:=by kernel_rfl
theorem aoS:S.tree 12450=XY:=by kernel_rfl
theorem aoR:S.tree 12500=XW:=by kernel_rfl
theorem aoQ:S.tree 12550=XV:=by kernel_rfl
theorem aoP:S.tree 12600=SN:=by kernel_rfl
theorem aoO:S.tree 12650=SL:=by kernel_rfl
theorem aoN:S.tree 12700=SK:=by kernel_rfl
theorem aoM:S.tree 12750=SI:=by kernel_rfl
theorem aoL:S.tree 12800=XU:=by kernel_rfl
theorem aoK:S.tree 12801=SH:=by kernel_rfl
theorem aoJ:S.tree 12850=XT:=by kernel_rfl
theorem aoI:S.tree 12851=SG:=by kernel_rfl
theorem aoG:S.tree 14000=yL:=by kernel_rfl
theorem aoD:S.tree 14500=fF:=by kernel_rfl
theorem aoF:S.tree 14050=KP:=by kernel_rfl
theorem aoA:S.tree 14550=jO:=by kernel_rfl
theorem Zn:S.tree 15500=SC:=by kernel_rfl
theorem Zm:S.tree 15501=Ed:=by kernel_rfl
theorem Zl:S.tree 15502=Ec:=by kernel_rfl
theorem Zk:S.tree 15550=SA:=by kernel_rfl
theorem anY:S.tree 15551=XQ:=by kernel_rfl
theorem Zj:S.tree 15600=Sz:=by kernel_rfl
theorem Zi:S.tree 15601=Eb:=by kernel_rfl
theorem Zh:S.tree 15602=Ea:=by kernel_rfl
theorem aoH:S.tree 12900=XR:=by kernel_rfl
end Go.As.Try
end
section
namespace Go.As.Try
open Go hiding Stat Spec shape
open Go.As Go.Proofs
set_option maxRecDepth 100000
def listed:List Nat:=[9000,9001,9002,9003,9004,9005,9006,9007,9050,9051,9052,9053,9054,9055,9056,9057,9058,9059,9060,9061,9062,9063,9064,9065,9066,9067,9068,9069,9070,9071,9072,9073,9074,100,101,102,103,150,151,200,201,202,250,251,300,301,302,350,351,400,450,451,452,453,454,455,456,500,501,550,551,552,553,600,650,700,750,800,850,851,900,950,951,952,953,954,1000,1050,1100,1101,1102,1150,1200,1250,1300,1350,1400,1450,1451,1452,1500,1501,1550,1600,1650,1750,1751,1850,1950,2050,2051,2052,2100,2450,2451,2500,2501,2502,2503,2504,2505,2506,2507,2508,2509,2510,2511,2512,5000,5050,5051,5100,5101,5150,5151,5200,5201,5250,5251,5300,5301,5350,5351,5400,5401,5450,5451,5500,5501,5550,5551,5600,5601,12000,12001,12050,12051,12100,12101,12150,12151,12200,12250,12251,12300,12350,12351,12400,12450,12500,12550,12600,12650,12700,12750,12800,12801,12850,12851,14000,14500,14050,14550,15500,15501,15502,15550,15551,15600,15601,15602,12900]
noncomputable def trees:List (T Lf):=[OZ,uP,ahK,ahJ,aaB,aaA,Z9,Z8,IW,Z7,Z5,awE,ahI,awD,awC,avZ,avY,avX,EY,ahH,avW,EX,ahG,avV,avU,avT,avS,Z4,ZY,ZX,ZW,avR,avQ,aCy,aCx,aCw,aCv,aCu,aCt,arO,t201,aiL,arN,aiE,aiD,XP,arM,aiC,XO,kH,azV,arL,arK,arJ,arI,arH,arG,azU,arF,ahQ,arE,aCs,aCr,azT,azS,azR,azQ,azP,azO,ahL,azN,azM,arD,arC,uO,uN,aiX,Vp,aiW,awL,aaR,aiV,aiU,aiT,aiS,aiR,aiQ,aaQ,Vo,Vm,aiP,aaP,aiO,aiN,aiM,KO,aaO,IY,Vl,aiK,aaN,aaM,aaL,aiJ,aaK,IX,KN,E5,EZ,aiI,aiH,aaJ,aiG,awK,aiF,aaI,Vk,aaH,aiB,aiA,aaG,ahZ,awJ,ahY,awI,ahX,awH,ahW,aaF,ahV,aaE,ahU,aaD,ahT,aaC,ahS,ahR,ahP,ahO,awG,awF,ahN,ahM,SS,KW,X9,KU,SQ,KR,X8,KQ,X7,X6,X5,X4,X3,X0,XZ,XY,XW,XV,SN,SL,SK,SI,XU,SH,XT,SG,yL,fF,KP,jO,SC,Ed,Ec,SA,XQ,Sz,Eb,Ea,XR]
theorem afB:listed.map S.tree=trees:=by simp only [listed,trees,List.map,anI,WV,awZ,awY,anH,anG,anF,anE,anD,anC,anB,aEd,awX,awW,aEc,aEb,aEa,aD9,WU,awV,aD8,WT,awU,aD7,aD6,aD5,aD4,anA,amZ,amY,amX,aD3,aD2,e100,auR,auQ,aB2,aB1,auP,aB0,UF,auO,e250,e251,e300,e301,e302,auN,auM,aBZ,aEr,aBY,aBX,aBW,aBV,aBU,aBT,aEq,aBS,aEp,aBR,aEo,aEn,aEk,aEj,aEi,aEh,aEg,aEf,aBQ,aEe,aD1,aBP,aBO,JG,JF,ayO,ayN,ayM,ayL,apC,ayK,ayJ,ayI,ayH,ayG,ayF,aoE,aoC,aoB,ayE,anZ,ayD,ayC,ayB,ayA,anX,NS,acO,axZ,anW,anV,axY,axX,anU,acN,anT,anS,anR,axW,axV,axU,axT,aEs,axS,anQ,anP,anO,axR,axQ,anN,axP,axO,axN,axM,axL,axK,axJ,anM,axI,anL,axH,anK,axG,anJ,axF,axE,axD,axC,aEm,aEl,axB,axA,Zr,UH,apB,Zq,Zp,UG,apA,Zo,aoZ,aoY,aoX,aoW,aoV,aoU,aoT,aoS,aoR,aoQ,aoP,aoO,aoN,aoM,aoL,aoK,aoJ,aoI,aoG,aoD,aoF,aoA,Zn,Zm,Zl,Zk,anY,Zj,Zi,Zh,aoH]
theorem ahB:trees.all (Xy [])=true:=by kernel_rfl
theorem aB5:ayP (lim 322 feT) 322 listed=true:=by kernel_rfl
theorem aqU (j:Nat):Xy [] (S.tree j)=true:=by
 cases h:Aj St.t j with
 | none=>exact adO (S:=St) h
 | some e=>
   have hm:S.tree j∈trees:=by
    rw [← afB]
    exact List.mem_map_of_mem (cov aB5 (fun k hk=>akZ hk) h)
   exact List.all_eq_true.1 ahB _ hm
noncomputable def L:Hf:=lim' S.tree
theorem aT (j:Nat) (xs:List Int):L j xs=fin L (eF (dK L (low xs)) (S.tree j)):=aAs aqU j xs
end Go.As.Try
end
section
namespace Go.As.Try
open Go hiding Stat
open Go.As Go.Proofs Go.RowKit Go.ChangeShapes Go.WideShapes Go.ChangeAt
open Go.Proofs.YtdcafdkkpdadbaaGreatDoor
set_option maxRecDepth 100000
theorem own:ownKnob Tryz.prog.godebug=none:=by kernel_rfl
theorem laidOut:laidOutB Tryz.prog=true:=by kernel_rfl
def ajZ:TypeId→Option Nat:=Jm (owns.take 10)
def ownB (P:Program) (own:TypeId→Option Nat) (l:List (Nat×Nat)):Bool:=l.all fun p=>match P.underlying p.1 with
 | some (.slice e)=>decide (xY P own 8 e=some (nT p.2)) && Nat.beq (P.cellsOf e) (nT p.2).length && Nat.ble (yD p.2) (P.bytesOf e) && Nat.ble 1 (nT p.2).length
 | _=>false
theorem QZ {t i:Nat}: ∀{l:List (Nat×Nat)},Jm l t=some i→(t,i)∈l
 | [],h=>by simp [Jm] at h
 | (a,k) :: l,h=>by
   unfold Jm at h
   split at h
   ·rename_i hb
    have:=Nat.eq_of_beq_eq_true hb
    simp only [Option.some.injEq] at h
    subst this h
    simp
   ·exact List.mem_cons_of_mem _ (QZ h)
theorem asI {P:Program} {l:List (Nat×Nat)} (h:ownB P (Jm l) l=true):aqL P (Jm l):=by
 intro t i hti
 have:=List.all_eq_true.1 h _ (QZ hti)
 simp only at this
 split at this
 ·rename_i e he
  simp only [Bool.and_eq_true,decide_eq_true_eq] at this
  exact⟨e,8,he,this.1.1.1,Nat.eq_of_beq_eq_true this.1.1.2,Nat.le_of_ble_eq_true this.1.2,Nat.le_of_ble_eq_true this.2⟩
 ·simp at this
theorem asH:aqL Tryz.prog ajZ:=asI (by kernel_rfl)
theorem atC {W:World} (h:W.ShapedOpen Tryz.prog):base.ok (Xx W) W.heap:=by
 obtain⟨m,hm⟩:=LaysM.n144.s1_3 Tryz.laysM144 W h
 exact⟨adF hm,m,by rw [← sK]; exact hm⟩
def abI:DataW Unit→Value
 | .lit (.int k n)=> .int k n
 | _=>undef
def cellsD:DataW Unit→Array Value
 | .agg l=>(l.map abI).toArray
 | d=> #[abI d]
def aC1 (d:DataW Unit):Obj→Obj
 | .cells _ t f=> .cells (cellsD d) t f
 | o=>o
noncomputable def aAt (h:Array Obj) (x:String×DataW Unit):Array Obj:=match Tryz.prog.globalNamed x.1 with
 | some g=>h.modify g (aC1 x.2)
 | none=>h
noncomputable def laidWorld (os:Os):World:=
 { World.holding Tryz.prog os ⟨#[],#[],[]⟩ with heap:=Rows.freeJoinsRow.laid.foldl aAt (World.holding Tryz.prog os ⟨#[],#[],[]⟩).heap }
theorem GH {ro:Nat→Prop} {h:Array Obj} {i:Nat} {d:D} {v:Value} (r:Rd ro h (.sl i) d v):Am ro h (.sl i) (enc d) v:=by
 show Rd ro h (.sl i) (dec (enc d)) v
 rw [aC]
 exact r
theorem aqE {ro:Nat→Prop} {h:Array Obj} {u:Value} (a:avP [.one .bool] [1] ro h u):u= .bool true:=by
 obtain⟨us,fl,hs,hc,hu⟩:=a
 cases hs with
 | one c v hs=>
   cases hs
   simp only [sW,RK.flat,List.append_nil,List.cons_append,List.nil_append] at hc
   obtain⟨n,ns',u',us',h1,h2,h3,h4⟩:=hc
   simp only [List.cons.injEq] at h1 h2
   obtain⟨rfl,_⟩:=h1
   obtain⟨rfl,_⟩:=h2
   rw [hu]
   exact h3
theorem apV {g j:Nat} {e:Hg} (hn:j∈S.nums g) (he:S.ents j=some e) (hp:e.pat=none) (hr:e.oH= [.one .bool]) {xs:List Int} (hL:L j xs=some [1]) {W:World} (hsh:W.ShapedOpen Tryz.prog) {vals fl:List Value} (h1:Shape e.Oy vals fl) (h2:jG (Xx W) W.heap (sW e.Oy) xs fl) :
 Calls Tryz.prog g vals.toArray W fun en W'=>en= .returned (.bool true)∧Below W.heap.size W W':=by
 obtain⟨n,hrun⟩:=TS hL
 refine (aiY azW hn he hp n xs [1] hrun (Xx W) W vals fl (fun _ h=>h) (atC hsh) h1 h2).mono fun en W' ⟨u,hu,hb,ro',_,_,_,ha⟩=>?_
 rw [hr] at ha
 rw [aqE ha] at hu
 exact⟨hu,hb⟩
end Go.As.Try
end
section
namespace Go.As
def prune (Y N:List SB):T Lf→T Lf
 | .fail=> .fail
 | .ret l=> .ret l
 | .split c x y=>match Y.contains c with
   | true=>prune Y N x
   | false=>match N.contains c with
     | true=>prune Y N y
     | false=> .split c (prune Y N x) (prune Y N y)
def zY (ρ:Nat→Int):List SB→Prop
 | []=>True
 | c :: l=>c.den ρ=true∧zY ρ l
def zW (ρ:Nat→Int):List SB→Prop
 | []=>True
 | c :: l=> ¬c.den ρ=true∧zW ρ l
theorem agL {ρ:Nat→Int}: ∀{l:List SB},zY ρ l→∀c∈l,c.den ρ=true
 | [],_,c,h=>by simp at h
 | a :: l,hz,c,h=>by
   rcases List.mem_cons.1 h with rfl | h
   ·exact hz.1
   ·exact agL hz.2 c h
theorem agO {ρ:Nat→Int}: ∀{l:List SB},zW ρ l→∀c∈l,c.den ρ=false
 | [],_,c,h=>by simp at h
 | a :: l,hz,c,h=>by
   rcases List.mem_cons.1 h with rfl | h
   ·simpa using hz.1
   ·exact agO hz.2 c h
theorem agM {ρ:Nat→Int}: ∀{a b:List SB},zY ρ a→zY ρ b→zY ρ (a++b)
 | [],_,_,h=>h
 | _ :: _,_,h,h'=> ⟨h.1,agM h.2 h'⟩
theorem agP {ρ:Nat→Int}: ∀{a b:List SB},zW ρ a→zW ρ b→zW ρ (a++b)
 | [],_,_,h=>h
 | _ :: _,_,h,h'=> ⟨h.1,agP h.2 h'⟩
theorem dJ {ρ:Nat→Int} {Y N:List SB} (h:zY ρ Y∧zW ρ N): ∀t,eF ρ (prune Y N t)=eF ρ t
 | .fail=>rfl
 | .ret l=>rfl
 | .split c x y=>by
   simp only [prune,eF]
   split
   ·rename_i h'
    rw [agL h.1 c (List.contains_iff_mem.1 h'),if_pos rfl]
    exact dJ h x
   ·split
    ·rename_i h'
     rw [agO h.2 c (List.contains_iff_mem.1 h'),if_neg (by simp)]
     exact dJ h y
    ·simp only [eF,dJ h x,dJ h y]
theorem bV {ρ:Nat→Int} (Y N:List SB) {t:T Lf} {R:RS} (u:T Lf) (h:zY ρ Y∧zW ρ N) (k:prune Y N t=u) (h':eF ρ u=R):eF ρ t=R:=by rw [← dJ h t,k,h']
theorem zz :
 (∀{ρ:Nat→Int} (c:SB) (a b:T Lf),eF ρ (sp c a b)=if c.den ρ=true then eF ρ a else eF ρ b)∧
 (∀{ρ:Nat→Int} (l:List SE),eF ρ (ou l)= .out (l.map (SE.den ρ)))∧
 (∀{ρ:Nat→Int} (j:Nat) (l:List SE),eF ρ (ju j l)= .jump j (l.map (SE.den ρ)))∧
 (∀{ρ:Nat→Int},eF ρ fl= .no)∧
 (∀{ρ:Nat→Int} (a b:SE),((SB.lt a b).den ρ=true)=(a.den ρ < b.den ρ))∧
 (∀{ρ:Nat→Int} (a b:SE),((SB.eq a b).den ρ=true)=(a.den ρ=b.den ρ))∧
 (∀{F:Hf} {lo:Nat→Int} {i:Nat},i < 900→(SE.aQ i).den (dK F lo)=lo i)∧
 (∀{ρ:Nat→Int} (n:Int),(SE.lit n).den ρ=n)∧
 (∀{ρ:Nat→Int} (d:D),(SE.dat d).den ρ=enc d)∧
 (∀{ρ:Nat→Int} (a:SE),(ln a).den ρ=((dec (a.den ρ)).l.length:Int))∧
 (∀{ρ:Nat→Int} (a:SE),(nm a).den ρ=(dec (a.den ρ)).n)∧
 (∀{ρ:Nat→Int} (j:Nat) (a:SE),(ce j a).den ρ=enc ((dec (a.den ρ)).hd j))∧
 (∀{ρ:Nat→Int} (a b:SE),(el a b).den ρ=enc ((dec (a.den ρ)).at (b.den ρ)))∧
 (∀{ρ:Nat→Int} (a b:SE),(cn a b).den ρ=enc (.p (dec (a.den ρ)) (dec (b.den ρ))))∧
 (∀{ρ:Nat→Int} (a:SE),(mk a).den ρ=enc (.i (a.den ρ)))∧
 (∀{ρ:Nat→Int} (a:SE),(wr a).den ρ=IntKind.i64.wrap (a.den ρ))∧
 (∀{ρ:Nat→Int} (a b:SE),(SE.add a b).den ρ=a.den ρ+b.den ρ)∧
 (∀{ρ:Nat→Int} (a b:SE),(SE.sub a b).den ρ=a.den ρ - b.den ρ)∧
 (∀{ρ:Nat→Int} (o:aG) (a b:SE),(SE.op o a b).den ρ=o.den (a.den ρ) (b.den ρ))∧
 (∀{F:Hf} {lo:Nat→Int} (j:Nat) (l:List SE),(a0 j l).den (dK F lo)=if (F j (l.map (SE.den (dK F lo)))).isSome=true then 1 else 0)∧
 (∀{F:Hf} {lo:Nat→Int} (j:Nat) (l:List SE) (i:Nat),(rr j l i).den (dK F lo)=low ((F j (l.map (SE.den (dK F lo)))).getD []) i)∧
 (∀{x:Int} {xs:List Int},low (x :: xs) 0=x)∧
 (∀{x:Int} {xs:List Int} {i:Nat},low (x :: xs) (i+1)=low xs i)∧
 (∀{f:SE→Int},List.map f []= [])∧
 (∀{f:SE→Int} {a:SE} {l:List SE},List.map f (a :: l)=f a :: List.map f l)∧
 (∀d:D,dec (enc d)=d)∧
 (∀n:Int,(D.i n).n=n)∧
 (∀{α:Type} (a:α),(some a).isSome=true)∧
 (∀{α:Type} (a b:α),(some a).getD b=a)∧
 (∀{α:Type} {_:Decidable True} (a b:α),ite True a b=a)∧
 (∀{α:Type} {_:Decidable False} (a b:α),ite False a b=b)∧
 (∀{ρ:Nat→Int},zY ρ []=True)∧
 (∀{ρ:Nat→Int} (c:SB) (l:List SB),zY ρ (c :: l)=(c.den ρ=true∧zY ρ l))∧
 (∀{ρ:Nat→Int},zW ρ []=True)∧
 (∀{ρ:Nat→Int} (c:SB) (l:List SB),zW ρ (c :: l)=(¬c.den ρ=true∧zW ρ l))∧
 (∀p:Prop,(p∧True)=p)∧(∀p:Prop,(True∧p)=p)∧(¬False)=True:=
 ⟨dS,jP,nZ,yN,oL,iL,bH,bP,iP,gY,IE,apF,IG,NZ,NY,BK,den_add,avA,NW,iI,gJ,aN _,aO _ _,rfl,rfl,aC,n_i,fun _=>rfl,fun _ _=>rfl,fun _ _=>if_pos trivial,fun _ _=>if_neg id,rfl,fun _ _=>rfl,rfl,fun _ _=>rfl,and_true,true_and,not_false_eq_true⟩
end Go.As
end
section
namespace Go.As.Try
open Go hiding Stat Spec shape
open Go.As
set_option maxRecDepth 100000
def Ends (p:List Int→Prop) (R:RS):Prop:= ∃ys,fin L R=some ys∧p ys
def Tot (j:Nat) (xs:List Int) (p:List Int→Prop):Prop:= ∃ys,L j xs=some ys∧p ys
theorem Tot.of {j:Nat} {xs:List Int} {p:List Int→Prop} (h:Ends p (eF (dK L (low xs)) (S.tree j))):Tot j xs p:=by
 obtain⟨ys,h1,h2⟩:=h
 exact⟨ys,by rw [aT]; exact h1,h2⟩
theorem Ends.ite {p:List Int→Prop} {c:Prop} [Decidable c] {a b:RS} (h1:c→Ends p a) (h2: ¬c→Ends p b):Ends p (if c then a else b):=by
 by_cases h:c
 ·rw [if_pos h]; exact h1 h
 ·rw [if_neg h]; exact h2 h
theorem Ends.out {p:List Int→Prop} {ys:List Int} (h:p ys):Ends p (.out ys):=⟨ys,rfl,h⟩
theorem Ends.jump {p:List Int→Prop} {j:Nat} {xs:List Int} (h:Tot j xs p):Ends p (.jump j xs):=h
def ED (ys:List Int):Prop:= ∃c:Int,ys= [c]∧(c=0∨c=1)
def is3 (ys:List Int):Prop:= ∃a b c:Int,ys= [a,b,c]∧(c=0∨c=1)
theorem zA:ED [0]:=⟨0,rfl,.inl rfl⟩
theorem yZ:ED [1]:=⟨1,rfl,.inr rfl⟩
theorem V3 {a b:Int}:is3 [a,b,0]:=⟨a,b,0,rfl,.inl rfl⟩
theorem awR {a b:Int}:is3 [a,b,1]:=⟨a,b,1,rfl,.inr rfl⟩
def mO (x:D):D:=dL [.i (-1),.i (if (x.hd 0).n=3∨(x.hd 0).n=9 then (x.hd 2).n else 0),.i 0,.i 0,.i 1,.i 1]
theorem Ox (d0:D) (hlen:d0.l.length≤64): ∀(k i:Nat) (acc:List D),i+k=d0.l.length→acc.length=i→
 L 302 [enc (dL acc),enc d0,(d0.l.length:Int),(i:Int)]=some [enc (dL (acc++(d0.l.drop i).map mO))]
 | 0,i,acc,h1,h2=>by
   rw [aT,e302]
   simp only [arM,dS,jP,oL,bH,aN,aO,Nat.reduceLT,fin,List.map]
   rw [if_neg (by omega)]
   simp only [fin,bH,aN,Nat.reduceLT]
   rw [List.drop_of_length_le (by omega)]
   simp
 | k+1,i,acc,h1,h2=>by
   have hi:i < d0.l.length:=by omega
   have hd:d0.l.drop i=d0.l[i] :: d0.l.drop (i+1):=List.drop_eq_getElem_cons hi
   have ih:=fun x=>Ox d0 hlen k (i+1) (acc++ [x]) (by omega) (by simp [h2])
   rw [aT,e302,hd]
   simp only [arM,dS,jP,nZ,yN,oL,iL,bH,gY,bP,IE,apF,IG,NW,NZ,NY,iP,BK,den_add,aN,aO,Nat.reduceLT,List.map,aC,aX,bC hi]
   have w:=aY (n:=i) (by omega)
   have c1:(i:Int) < (d0.l.length:Int):=by omega
   have c2: ¬((i:Int) < 0):=by omega
   have c3:(acc.length:Int) < 1759218604440:=by omega
   simp only [c1,c2,c3,w,if_true,if_false,fin,aG.den,aC,aX]
   by_cases h3:(d0.l[i].hd 0).n=3
   ·simp only [h3,if_true,fin]
    have:=ih (mO d0.l[i])
    simp only [mO,h3,true_or,if_true,dL] at this ⊢
    rw [this]
    simp
   ·by_cases h9:(d0.l[i].hd 0).n=9
    ·simp only [if_neg h3,if_pos h9,fin]
     have:=ih (mO d0.l[i])
     simp only [mO,if_pos (Or.inr h9:(d0.l[i].hd 0).n=3∨(d0.l[i].hd 0).n=9),dL] at this ⊢
     rw [this]
     simp
    ·simp only [if_neg h3,if_neg h9,fin]
     have:=ih (mO d0.l[i])
     simp only [mO,h3,h9,or_self,if_false,dL] at this ⊢
     rw [this]
     simp
end Go.As.Try
end
section
namespace Go.As.Try
open Go hiding Stat Spec shape
open Go.As
set_option maxRecDepth 100000
def Bs (d:D):Prop:=d=dL d.l∧∀(i:Nat) (h:i < d.l.length),0≤(d.l[i]).n∧(d.l[i]).n < 256
theorem aB7 (s:ByteArray):Bs (Aa s):=by
 unfold Aa vF
 refine⟨by rw [aX],fun i h=>?_⟩
 simp only [aX,List.length_map,List.getElem_map,D.n] at h ⊢
 have:=(s.data.toList[i]).toNat_lt
 omega
theorem Jg (d:D) (hb:Bs d) (hlen:d.l.length≤1000000): ∀(k i:Nat) (n:Int),i+k=d.l.length→∃a b,L 1102 [n,enc d,(d.l.length:Int),(i:Int)]=some [a,b]
 | 0,i,n,h1=>by
   rw [aT,apC]
   simp only [aaR,dS,jP,oL,bH,aN,aO,Nat.reduceLT,List.map,bP]
   rw [if_neg (by omega)]
   exact⟨_,_,rfl⟩
 | k+1,i,n,h1=>by
   have hi:i < d.l.length:=by omega
   have ih:=fun x=>Jg d hb hlen k (i+1) x (by omega)
   rw [aT,apC]
   have w:=aY (n:=i) (by omega)
   have c1:(i:Int) < (d.l.length:Int):=by omega
   have c2: ¬((i:Int) < 0):=by omega
   simp only [aaR,dS,jP,nZ,yN,oL,bH,aN,aO,Nat.reduceLT,List.map,bP,gY,aC,c1,c2,if_true,if_false,BK,den_add,w]
   split
   ·exact⟨_,_,rfl⟩
   ·exact ih _
theorem Yx (d:D) (hb:Bs d) (hlen:d.l.length≤1000000): ∃a b,L 1100 [enc d]=some [a,b]:=by
 rw [aT,ayM]
 simp only [aiW,dS,nZ,iL,bH,aN,aO,Nat.reduceLT,List.map,bP,gY,aC]
 split
 ·show ∃a b,L 1101 []=some [a,b]
  rw [aT,ayL]
  exact⟨_,_,rfl⟩
 ·exact Jg d hb hlen d.l.length 0 _ (by omega)
theorem Rw (z:Int): ∀(l:List D) (i:Nat),wC z l (i:Int)= -1∨((i:Int)≤wC z l i∧wC z l i < (i:Int)+l.length)
 | [],i=> .inl rfl
 | d :: l,i=>by
   have ih:=Rw z l (i+1)
   have hc:((i+1:Nat):Int)=(i:Int)+1:=by omega
   rw [hc] at ih
   have hl:((d :: l).length:Int)=(l.length:Int)+1:=by simp
   cases d with
   | i n=>
     simp only [wC]
     split
     ·right; omega
     ·rcases ih with h | ⟨h1,h2⟩
      ·left; exact h
      ·right; omega
   | p a b=>
     simp only [wC]
     rcases ih with h | ⟨h1,h2⟩
     ·left; exact h
     ·right; omega
theorem apN {z:Int} {d:D} {l:List D} (h:d≠.i z) (h0: ¬OO (d :: l) z < 0):1≤OO (d :: l) z∧OO (d :: l) z < (l.length:Int)+1:=by
 have h1:=Rw z l 1
 have key:OO (d :: l) z=wC z l ((1:Nat):Int):=by
  unfold OO
  cases d with
  | i n=>
    simp only [wC]
    rw [if_neg (by intro q; exact h (by rw [q]))]
    rfl
  | p a b=>rfl
 rw [key] at h0 ⊢
 omega
theorem aEt:(b0.at 10).n=1:=by
 show (b0.at ((10:Nat):Int)).n=1
 kernel_rfl
theorem BP (d:D) (hb:Bs d) (hlen:d.l.length≤1000000) (x1:Int): ∀(k i:Nat),d.l.length - i≤k→i≤d.l.length→∃p:Nat,p≤d.l.length∧L 12801 [enc d,x1,(i:Int)]=some [0,enc d,x1,(p:Int)]
 | k,i,h1,h2=>by
   rw [aT,aoK]
   have c2: ¬((i:Int) < 0):=by omega
   by_cases hi:i < d.l.length
   ·have c1:(i:Int) < (d.l.length:Int):=by omega
    have w:=aY (n:=i) (by omega)
    obtain⟨b1,b2⟩:=hb.2 i hi
    have b1: ¬(d.l[i]).n < 0:=by omega
    obtain⟨k,rfl⟩ : ∃k',k=k'+1:=⟨k - 1,by omega⟩
    have hdr:(d.l.take d.l.length).drop i=d.l[i] :: d.l.drop (i+1):=by rw [List.take_length,List.drop_eq_getElem_cons hi]
    simp only [SH,dS,jP,nZ,yN,oL,iL,bH,aN,aO,Nat.reduceLT,List.map,bP,iP,gY,aC,c1,c2,if_true,if_false,BK,den_add,w,IE,IG,bC hi,b1,b2]
    by_cases q1:(b0.at (d.l[i]).n).n=1
    ·simp only [q1,if_true]
     exact BP d hb hlen x1 k (i+1) (by omega) (by omega)
    ·by_cases q2:(b0.at (d.l[i]).n).n=2
     ·simp only [if_neg q1,if_pos q2]
      have hne:d.l[i]≠.i 10:=by
       intro h
       rw [h] at q1
       exact q1 aEt
      simp only [Int.lt_irrefl,if_false,NW,aG.den,NZ,NY,iP,gY,bH,bP,aN,aO,Nat.reduceLT,aC,D.hd,l_p,yG,n_i,List.getElem?_cons_zero,List.getElem?_cons_succ,Option.getD_some,Int.toNat_natCast,aX,hdr]
      split
      ·exact⟨d.l.length,Nat.le_refl _,by simp [fin]⟩
      ·rename_i h0
       obtain⟨g1,g2⟩:=apN hne h0
       rw [List.length_drop] at g2
       obtain⟨m,hm⟩ : ∃m:Nat,OO (d.l[i] :: d.l.drop (i+1)) 10=(m:Int):=⟨(OO (d.l[i] :: d.l.drop (i+1)) 10).toNat,by omega⟩
       have w2:IntKind.i64.wrap ((i:Int)+(m:Int))=((i+m:Nat):Int):=by rw [mM (by omega) (by omega)]; omega
       simp only [hm,w2,fin]
       exact BP d hb hlen x1 k (i+m) (by omega) (by omega)
     ·simp only [if_neg q1,if_neg q2]
      exact⟨i,by omega,rfl⟩
   ·have c1: ¬(i:Int) < (d.l.length:Int):=by omega
    simp only [SH,dS,jP,oL,bH,aN,aO,Nat.reduceLT,List.map,bP,gY,aC,c1,if_false]
    exact⟨i,by omega,rfl⟩
theorem Zz (d:D) (hb:Bs d) (hlen:d.l.length≤1000000) (i:Nat) (hi:i≤d.l.length): ∃p:Nat,p≤d.l.length∧L 12800 [enc d,(i:Int)]=some [0,enc d,(i:Int),(p:Int)]:=by
 rw [aT,aoL]
 simp only [XU,nZ,bH,aN,aO,Nat.reduceLT,List.map]
 exact BP d hb hlen _ _ i (Nat.le_refl _) hi
theorem Rn (d:D) (hb:Bs d) (hlen:d.l.length≤1000000) (x1 x2:Int): ∀(k i:Nat),d.l.length - i≤k→i≤d.l.length→∃p:Nat,i≤p∧p≤d.l.length∧L 12851 [enc d,x1,x2,(i:Int)]=some [0,enc d,x1,(p:Int)]
 | k,i,h1,h2=>by
   rw [aT,aoI]
   have c2: ¬((i:Int) < 0):=by omega
   by_cases hi:i < d.l.length
   ·have c1:(i:Int) < (d.l.length:Int):=by omega
    have w:=aY (n:=i) (by omega)
    obtain⟨b1,b2⟩:=hb.2 i hi
    have b1: ¬(d.l[i]).n < 0:=by omega
    obtain⟨k,rfl⟩ : ∃k',k=k'+1:=⟨k - 1,by omega⟩
    have ih: ∃p:Nat,i≤p∧p≤d.l.length∧L 12851 [enc d,x1,x2,((i+1:Nat):Int)]=some [0,enc d,x1,(p:Int)]:=by
     obtain⟨p,q1,q2,q3⟩:=Rn d hb hlen x1 x2 k (i+1) (by omega) (by omega)
     exact⟨p,by omega,q2,q3⟩
    simp only [SG,dS,jP,nZ,yN,oL,iL,bH,aN,aO,Nat.reduceLT,List.map,bP,iP,gY,aC,c1,c2,if_true,if_false,BK,den_add,w,IE,IG,bC hi,b1,b2]
    split
    ·exact ih
    ·split
     ·split
      ·exact ih
      ·exact⟨i,by omega,by omega,rfl⟩
     ·exact⟨i,by omega,by omega,rfl⟩
   ·have c1: ¬(i:Int) < (d.l.length:Int):=by omega
    simp only [SG,dS,jP,oL,bH,aN,aO,Nat.reduceLT,List.map,bP,gY,aC,c1,if_false]
    exact⟨i,by omega,by omega,rfl⟩
theorem abK {l:List D} {a b:D} (h:enc (dL l)=enc (.p a (.p b (.i 0)))):l.length=2:=by
 have:=congrArg (fun d=>d.l.length) (qK h)
 simpa [D.l] using this
theorem amP (d:D) (hb:Bs d) (hlen:d.l.length≤1000000) (i:Nat) (hi:i < d.l.length): ∃p:Nat,i < p∧p≤d.l.length∧L 12850 [enc d,(i:Int)]=some [0,enc d,(i:Int),(p:Int)]:=by
 have c2: ¬((i:Int) < 0):=by omega
 have c1:(i:Int) < (d.l.length:Int):=by omega
 have w:=aY (n:=i) (by omega)
 have w1:=aY (n:=i+1) (by omega)
 have w2:IntKind.i64.wrap ((i:Int)+2)=((i+2:Nat):Int):=by rw [mM (by omega) (by omega)]; omega
 obtain⟨b1,b2⟩:=hb.2 i hi
 have b1: ¬(d.l[i]).n < 0:=by omega
 have c3: ¬(((i+2:Nat):Int) < (i:Int)):=by omega
 rw [aT,aoJ]
 simp only [XT,dS,jP,nZ,yN,oL,iL,bH,aN,aO,Nat.reduceLT,List.map,bP,gY,aC,c1,c2,c3,if_true,if_false,BK,den_add,w,w1,w2,IE,IG,bC hi,b1,b2,Int.lt_irrefl,NW,aG.den,NZ,NY,iP,D.hd,l_p,yG,n_i,List.getElem?_cons_zero,List.getElem?_cons_succ,Option.getD_some,Int.toNat_natCast]
 split
 ·split
  ·rename_i h5
   split
   ·rename_i h6
    have:=abK h6
    simp only [List.length_drop,List.length_take] at this
    omega
   ·split
    ·rename_i h6
     have:=abK h6
     simp only [List.length_drop,List.length_take] at this
     omega
    ·exact⟨i+1,by omega,by omega,rfl⟩
  ·rename_i h5
   split
   ·exact⟨i+1+1,by omega,by omega,rfl⟩
   ·split
    ·exact⟨i+1+1,by omega,by omega,rfl⟩
    ·exact⟨i+1,by omega,by omega,rfl⟩
 ·obtain⟨p,q1,q2,q3⟩:=Rn d hb hlen (i:Int) ((b0.at (d.l[i]).n).n) _ (i+1) (Nat.le_refl _) (by omega)
  exact⟨p,by omega,q2,q3⟩
theorem avG {d:D} (hb:Bs d) (a b:Nat):Bs (dL ((d.l.take b).drop a)):=by
 refine⟨by rw [aX],fun i h=>?_⟩
 simp only [aX] at h ⊢
 have hl:i < d.l.length - a:=by
  simp only [List.length_drop,List.length_take] at h
  omega
 have:((d.l.take b).drop a)[i]=d.l[a+i]:=by simp
 rw [this]
 exact hb.2 _ _
theorem akM (d:D) (hb:Bs d): ∃k s n ln a e er el',L 1050 [enc d,0]=some [k,s,n,ln,a,e,er,el']:=by
 rw [aT,ayN]
 by_cases hg:(16384:Int) < (d.l.length:Int)
 ·simp only [Vp,dS,jP,oL,bH,aN,aO,Nat.reduceLT,List.map,bP,gY,aC,hg,if_true]
  exact⟨_,_,_,_,_,_,_,_,rfl⟩
 ·obtain⟨p,hp,hB⟩:=Zz d hb (by omega) 0 (by omega)
  have hB':L 12800 [enc d,0]=some [0,enc d,0,(p:Int)]:=hB
  have c0: ¬((0:Int) < 0):=by omega
  have c1: ¬((d.l.length:Int) < 0):=by omega
  have c2: ¬((p:Int) < 0):=by omega
  have c3: ¬((d.l.length:Int) < (p:Int)):=by omega
  by_cases he:(p:Int)=(d.l.length:Int)
  ·simp only [Vp,dS,jP,yN,oL,iL,bH,aN,aO,Nat.reduceLT,List.map,bP,gY,aC,hg,if_false,c0,c1,iI,gJ,hB',Option.isSome_some,if_true,Option.getD_some,c2,c3,he,Int.lt_irrefl,fin]
   exact⟨_,_,_,_,_,_,_,_,rfl⟩
  ·obtain⟨e,h1,h2,hE⟩:=amP d hb (by omega) p (by omega)
   have c4: ¬((e:Int) < (p:Int)):=by omega
   have c5: ¬((d.l.length:Int) < (e:Int)):=by omega
   have hpart:=avG hb p e
   have hpl:((d.l.take e).drop p).length=e - p:=by simp only [List.length_drop,List.length_take]; omega
   have hp0:0 < ((d.l.take e).drop p).length:=by omega
   obtain⟨na,nb,hN⟩:=Yx _ hpart (by rw [aX]; omega)
   obtain⟨b1,b2⟩:=hpart.2 0 (by rw [aX]; exact hp0)
   generalize hq:(d.l.take e).drop p=q at *
   simp only [aX] at b1 b2
   have b1: ¬(q[0]).n < 0:=by omega
   have hat:(dL q).at 0=q[0]:=by
    have:=bC (d:=dL q) (i:=0) (by rw [aX]; exact hp0)
    simpa using this
   have c6:(0:Int) < (q.length:Int):=by omega
   have c7:(q.length:Int) < 1000000000:=by omega
   have c8:((([D.i 32]++q:List D).length:Nat):Int) < 1000000000:=by simp only [List.length_append,List.length_cons,List.length_nil]; omega
   simp only [Vp,dS,jP,yN,oL,iL,bH,aN,aO,Nat.reduceLT,List.map,bP,gY,aC,hg,if_false,c0,c1,iI,gJ,hB',hE,Option.isSome_some,if_true,Option.getD_some,c2,c3,c4,c5,if_neg he,NW,aG.den,NZ,NY,iP,D.hd,l_p,yG,n_i,List.getElem?_cons_zero,List.getElem?_cons_succ,Int.toNat_natCast,hq,aX,c6,c7,c8,IE,IG,hat,b1,b2,hN]
   repeat' first | exact⟨_,_,_,_,_,_,_,_,rfl⟩ | split
theorem mX (d:D) (hb:Bs d): ∃b,(b=0∨b=1)∧L 1000 [enc d]=some [b]:=by
 obtain⟨k,s,n,ln',a,e,er,el',h⟩:=akM d hb
 rw [aT,ayO]
 simp only [aiX,dS,jP,yN,iL,bH,aN,aO,Nat.reduceLT,List.map,bP,iI,gJ,h,Option.isSome_some,if_true,Option.getD_some]
 split
 ·split
  ·split
   ·exact⟨1,.inr rfl,rfl⟩
   ·exact⟨0,.inl rfl,rfl⟩
  ·exact⟨0,.inl rfl,rfl⟩
 ·exact⟨0,.inl rfl,rfl⟩
end Go.As.Try
end
section
namespace Go.As.Try
open Go hiding Stat Spec shape
open Go.As
set_option maxRecDepth 100000
theorem aCm {d:D} (h:Wd .str d):Bs d:=by
 obtain⟨s,rfl⟩:=h.s
 exact aB7 s
theorem Dh {kids:D} (h:Wd (.sl 6) kids) {i:Nat} (hi:i < kids.l.length): ∃k s n ks,kids.l[i]=dL [.i k,s,.i n,ks]∧iT .u8 k∧Wd .str s∧iT .i64 n∧Wd (.sl 6) ks:=by
 obtain⟨r,h1,hl,hc⟩:=h.elN (cs:=[.int .u8,.str,.int .i64,.sl 6]) rfl _ (List.getElem_mem hi)
 match r,hl with
 | [a,b,c,d],_=>
   obtain⟨k,rfl,hk⟩:=(hc 0 _ _ rfl rfl).i
   obtain⟨n,rfl,hn⟩:=(hc 2 _ _ rfl rfl).i
   exact⟨k,b,n,d,h1,hk,hc 1 _ _ rfl rfl,hn,hc 3 _ _ rfl rfl⟩
theorem adP (d:D) (hb:Bs d): ∃b,(b=0∨b=1)∧L 12900 [enc d,0]=some [b,enc d,0]:=by
 obtain⟨b,hb1,h⟩:=mX d hb
 rw [aT,aoH]
 simp only [XR,zz,aG.den,Nat.reduceLT,h]
 rcases hb1 with rfl | rfl
 ·exact⟨_,.inl rfl,rfl⟩
 ·exact⟨_,.inr rfl,rfl⟩
theorem Py: ∀(m deep:Nat),21 - deep≤m→∀(k n left loc:Int) (s kids:D),Wd .str s→Wd (.sl 6) kids→
 Tot 5050 [k,enc s,n,enc kids,(deep:Int),left,loc] is3
 | m,deep,hm,k,n,left,loc,s,kids,hs,hk=>by
   refine Tot.of ?_
   rw [axQ]
   simp only [aiA,zz,aG.den,Nat.reduceLT]
   refine .ite (fun _=> .out V3) fun _=> .ite (fun _=> .out V3) fun hd=> .jump ?_
   obtain⟨m,rfl⟩ : ∃m',m=m'+1:=⟨m - 1,by omega⟩
   have ih:=Py m (deep+1) (by omega)
   have hlen:=hk.len
   have w0:=aY (n:=deep) (by omega)
   have loop: ∀(j i:Nat) (l' c':Int),i+j=kids.l.length→Tot 5051 [(deep:Int),enc kids,(kids.l.length:Int),(i:Int),l',c',k,enc s,n] is3:=by
    intro j
    induction j with
    | zero=>
      intro i l' c' hi
      have c1: ¬(i:Int) < (kids.l.length:Int):=by omega
      obtain⟨b,hb,hR⟩:=adP s (aCm hs)
      refine Tot.of ?_
      rw [anN]
      simp only [aaG,zz,aG.den,Nat.reduceLT,c1,hR]
      rcases hb with rfl | rfl
      ·simp only [Int.reduceEq,if_true,if_false]
       repeat' first | exact .out V3 | exact .out awR | refine .ite (fun _=>?_) (fun _=>?_)
      ·simp only [Int.reduceEq,if_true,if_false]
       repeat' first | exact .out V3 | exact .out awR | refine .ite (fun _=>?_) (fun _=>?_)
    | succ j ih2=>
      intro i l' c' hi
      have hil:i < kids.l.length:=by omega
      have c1:(i:Int) < (kids.l.length:Int):=by omega
      have c2: ¬((i:Int) < 0):=by omega
      have w:=aY (n:=i) (by omega)
      obtain⟨k',s',n',ks',he,_,h1,_,h2⟩:=Dh hk hil
      obtain⟨ys,hR,a,b,c,rfl,hc⟩:=ih k' n' l' c' s' ks' h1 h2
      refine Tot.of ?_
      rw [anN]
      simp only [aaG,zz,aG.den,Nat.reduceLT,c1,c2,bC hil,he,dR,List.getElem?_cons_zero,List.getElem?_cons_succ,w0,w,hR]
      exact .ite (fun _=> .out V3) fun _=> .jump (ih2 (i+1) _ _ (by omega))
   exact loop kids.l.length 0 _ _ (by omega)
theorem adU (k n loc:Int) (s kids:D) (hs:Wd .str s) (hk:Wd (.sl 6) kids):Tot 800 [k,enc s,n,enc kids,loc] ED:=by
 obtain⟨ys,hR,a,b,c,rfl,hc⟩:=Py 20 1 (by omega) k n 1000 loc s kids hs hk
 have hR':L 5050 [k,enc s,n,enc kids,1,1000,loc]=some [a,b,c]:=hR
 refine Tot.of ?_
 rw [aEg]
 simp only [azP,zz,aG.den,Nat.reduceLT,hR']
 exact .ite (fun _=> .out zA) fun _=> .out yZ
end Go.As.Try
end
section
namespace Go.As.Try
open Go hiding Stat Spec shape
open Go.As
set_option maxRecDepth 100000
def awP (a b c:Int) (ys:List Int):Prop:= ∃i:Int,ys= [a,b,c,i]
def aAy (a b c:Int) (ys:List Int):Prop:= ∃i:Int,ys= [a,b,c,i]∧(i=0∨i=1)
theorem Gf (kids loc:D) (nm' code:Int) (hk:Wd (.sl 6) kids): ∀(j i:Nat),i+j=kids.l.length→Tot 5401 [enc kids,(kids.l.length:Int),(i:Int),nm',enc loc,code] (awP nm' (enc loc) code)
 | 0,i,hi=>by
   have c1: ¬(i:Int) < (kids.l.length:Int):=by omega
   refine Tot.of ?_
   rw [anJ]
   simp only [aaC,zz,aG.den,Nat.reduceLT,c1]
   exact .out ⟨_,rfl⟩
 | j+1,i,hi=>by
   have hlen:=hk.len
   have hil:i < kids.l.length:=by omega
   have c1:(i:Int) < (kids.l.length:Int):=by omega
   have c2: ¬((i:Int) < 0):=by omega
   have w:=aY (n:=i) (by omega)
   obtain⟨k',s',n',ks',he,_,h1,_,h2⟩:=Dh hk hil
   obtain⟨ys,hR,b,rfl,hb⟩:=adU k' n' (loc.l.length:Int) s' ks' h1 h2
   refine Tot.of ?_
   rw [anJ]
   simp only [aaC,zz,aG.den,Nat.reduceLT,c1,c2,bC hil,he,dR,List.getElem?_cons_zero,List.getElem?_cons_succ,w,hR]
   exact .ite (fun _=> .out ⟨_,rfl⟩) fun _=> .jump (Gf kids loc nm' code hk j (i+1) (by omega))
theorem afO (kids loc:D) (nm' code:Int) (hk:Wd (.sl 6) kids):Tot 5000 [enc kids,nm',enc loc,code] (aAy nm' (enc loc) code):=by
 have h0:Tot 5400 [enc kids,nm',enc loc,code] (awP nm' (enc loc) code):=by
  refine Tot.of ?_
  rw [axG]
  simp only [ahT,zz,aG.den,Nat.reduceLT]
  exact .jump (Gf kids loc nm' code hk kids.l.length 0 (by omega))
 obtain⟨ys,hR,i,rfl⟩:=h0
 refine Tot.of ?_
 rw [axR]
 simp only [aiB,zz,aG.den,Nat.reduceLT,hR]
 exact .ite (fun _=> .out ⟨_,rfl,.inl rfl⟩) fun _=> .out ⟨_,rfl,.inr rfl⟩
theorem TF (o:Int):Tot 1200 [o] (fun ys=> ∃k,ys= [k]):=by
 refine Tot.of ?_
 rw [ayJ]
 simp only [aiU,zz,aG.den,Nat.reduceLT]
 repeat' first | exact .out ⟨_,rfl⟩ | refine .ite (fun _=>?_) (fun _=>?_)
theorem sN (o:Int):Tot 1250 [o] ED:=by
 refine Tot.of ?_
 rw [ayI]
 simp only [aiT,zz,aG.den,Nat.reduceLT]
 repeat' first | exact .out zA | exact .out yZ | refine .ite (fun _=>?_) (fun _=>?_)
theorem rZ (o:Int):Tot 1300 [o] ED:=by
 refine Tot.of ?_
 rw [ayH]
 simp only [aiS,zz,aG.den,Nat.reduceLT]
 repeat' first | exact .out zA | exact .out yZ | refine .ite (fun _=>?_) (fun _=>?_)
theorem W9 (o:Int):Tot 1350 [o] ED:=by
 refine Tot.of ?_
 rw [ayG]
 simp only [aiR,zz,aG.den,Nat.reduceLT]
 repeat' first | exact .out zA | exact .out yZ | refine .ite (fun _=>?_) (fun _=>?_)
end Go.As.Try
end
section
namespace Go.As.Try
open Go hiding Stat Spec shape
open Go.As
set_option maxRecDepth 100000
def E1:D:=.p (.i 1) (.p (.i 0) (.p (.i 0) (.p (.i 1) (.i 0))))
theorem DF:Bs (.i 0):=⟨rfl,fun i h=>by simp [D.l] at h⟩
theorem DC {b:Int} (h1:0≤b) (h2:b < 256):Bs (.p (.i b) (.i 0)):=⟨rfl,fun i h=>by
 simp only [D.l,List.length_cons,List.length_nil] at h
 obtain rfl:i=0:=by omega
 exact⟨h1,h2⟩⟩
theorem iE (k n x5:Int) (s s':D) (hs:Bs s) (hs':Bs s'):Tot 1400 [k,enc s,n,enc s',x5] ED:=by
 obtain⟨b,hb,hR⟩:=mX s hs
 obtain⟨b',hb',hR'⟩:=mX s' hs'
 obtain⟨ys,hC,c,rfl,hc⟩:=W9 k
 refine Tot.of ?_
 rw [ayF]
 simp only [aiQ,zz,aG.den,Nat.reduceLT,hR,hR',hC]
 repeat' first | exact .out zA | exact .out yZ | refine .ite (fun _=>?_) (fun _=>?_)
theorem avK:L 1150 [1,enc (.i 0),0,enc (.i 1)]=some [1]:=by
 rw [aT,ayK]
 simp only [aiV,zz,aG.den,Nat.reduceLT,yG,List.length_nil,Int.reduceLT,Int.reduceEq]
 rfl
theorem afP (a b:Int):L 5450 [enc (.i 1),a,b]=some [b]:=by
 rw [aT,axF]
 simp only [ahS,zz,aG.den,Nat.reduceLT,yG,List.length_nil,fin]
 rw [aT,axE]
 simp only [ahR,zz,aG.den,Nat.reduceLT]
 rfl
theorem Df:L 5250 [enc (dL [E1]),2,1]=some [2,enc (dL [E1])]:=by
 have h1:=avK
 have h2:=afP 3 2
 have w1:IntKind.i64.wrap (1+1)=2:=mM (by omega) (by omega)
 have w2:IntKind.i64.wrap (2+1)=3:=mM (by omega) (by omega)
 have w3:IntKind.i64.wrap (0+1)=1:=mM (by omega) (by omega)
 have ha:(dL [E1]).at 0=E1:=rfl
 have g0:E1.hd 0= .i 1:=rfl
 have g1:E1.hd 1= .i 0:=rfl
 have g2:E1.hd 2= .i 0:=rfl
 have g3:E1.hd 3= .i 1:=rfl
 rw [aT,axJ]
 simp only [ahW,zz,aG.den,Nat.reduceLT,aX,List.length_cons,List.length_nil,Nat.zero_add,fin]
 rw [aT,anM]
 simp only [aaF,zz,aG.den,Nat.reduceLT,aX,List.length_cons,List.length_nil,Nat.zero_add,ha,g0,g1,g2,g3,w1,w2,w3,h1,h2,Int.reduceLT,Int.reduceEq,fin,Int.natCast_one,Int.lt_irrefl]
 rw [aT,anM]
 simp only [aaF,zz,aG.den,Nat.reduceLT,Int.lt_irrefl]
 rfl
theorem adR (k m:Int):L 5500 [enc (.i 1),k,m]=some [k,m,1]:=by
 rw [aT,axD]
 simp only [ahP,zz,aG.den,Nat.reduceLT,yG,List.length_nil,fin]
 rw [aT,axC]
 simp only [ahO,zz,aG.den,Nat.reduceLT]
 rfl
theorem adQ (a k m:Int):L 5600 [enc (.i 1),a,k,m]=some [a,k,m,1]:=by
 rw [aT,axB]
 simp only [ahN,zz,aG.den,Nat.reduceLT,yG,List.length_nil,fin]
 rw [aT,axA]
 simp only [ahM,zz,aG.den,Nat.reduceLT]
 rfl
theorem ahD (k m:Int):L 5150 [k,m]=some [k,m,1]:=by
 rw [aT,axN]
 simp only [ahY,zz,aG.den,Nat.reduceLT,fin]
 rw [aT,axM]
 rfl
theorem ahC (k m:Int):L 5200 [k,m]=some [1,k,m,1]:=by
 rw [aT,axL]
 simp only [ahX,zz,aG.den,Nat.reduceLT,fin]
 rw [aT,axK]
 rfl
theorem Kr (k m:Int):L 5100 [k,m]=some [m]:=by
 rw [aT,axP]
 simp only [ahZ,zz,aG.den,Nat.reduceLT,fin]
 rw [aT,axO]
 rfl
theorem nY (k m:Int):L 5300 [1,enc (dL [E1]),k,m]=some [enc (dL [E1]),k,m,1]:=by
 have h2:=adR k m
 have w3:IntKind.i64.wrap (0+1)=1:=mM (by omega) (by omega)
 have ha:(dL [E1]).at 0=E1:=rfl
 have g0:E1.hd 0= .i 1:=rfl
 have g1:E1.hd 1= .i 0:=rfl
 have g3:E1.hd 3= .i 1:=rfl
 rw [aT,axI]
 simp only [ahV,zz,aG.den,Nat.reduceLT,fin]
 rw [aT,anL]
 simp only [aaE,zz,aG.den,Nat.reduceLT,aX,List.length_cons,List.length_nil,Nat.zero_add,ha,g0,g1,g3,w3,h2,Int.reduceLT,Int.reduceEq,fin,Int.natCast_one,Int.lt_irrefl]
 rw [aT,anL]
 simp only [aaE,zz,aG.den,Nat.reduceLT,Int.lt_irrefl]
 rfl
theorem Sm (k m:Int):L 5350 [1,enc (dL [E1]),k,m]=some [enc (dL [E1]),1,k,m,1]:=by
 have h2:=adQ 1 k m
 have w3:IntKind.i64.wrap (0+1)=1:=mM (by omega) (by omega)
 have ha:(dL [E1]).at 0=E1:=rfl
 have g0:E1.hd 0= .i 1:=rfl
 have g1:E1.hd 1= .i 0:=rfl
 have g3:E1.hd 3= .i 1:=rfl
 rw [aT,axH]
 simp only [ahU,zz,aG.den,Nat.reduceLT,fin]
 rw [aT,anK]
 simp only [aaD,zz,aG.den,Nat.reduceLT,aX,List.length_cons,List.length_nil,Nat.zero_add,ha,g0,g1,g3,w3,h2,Int.reduceLT,Int.reduceEq,fin,Int.natCast_one,Int.lt_irrefl]
 rw [aT,anK]
 simp only [aaD,zz,aG.den,Nat.reduceLT,Int.lt_irrefl]
 rfl
def YH (ys:List Int):Prop:= ∃b l,ys=b :: l∧(b=0∨b=1)
theorem abU {l:List Int}:YH (0 :: l):=⟨0,l,rfl,.inl rfl⟩
theorem abT {l:List Int}:YH (1 :: l):=⟨1,l,rfl,.inr rfl⟩
theorem Tq (a b c d e f g:Int):Tot 12400 [a,b,c,d,e,f,g] YH:=by
 obtain⟨ys,h1,o,rfl,_⟩:=iE a b c _ _ (DC (b:=97) (by omega) (by omega)) DF
 obtain⟨ys,h2,q,rfl,_⟩:=sN e
 obtain⟨ys,h3,r,rfl,_⟩:=rZ e
 obtain⟨n,_,h4⟩:=mX _ DF
 refine Tot.of ?_
 rw [aoT]
 simp only [XZ,zz,aG.den,Nat.reduceLT,h1,h2,h3,h4,Kr]
 repeat' first | exact .out abU | exact .out abT | refine .ite (fun _=>?_) (fun _=>?_)
theorem Tn (a b c d e f g:Int):Tot 12500 [a,b,c,d,e,f,g] YH:=by
 obtain⟨ys,h1,o,rfl,_⟩:=iE a b c _ _ (DC (b:=97) (by omega) (by omega)) DF
 obtain⟨ys,h2,q,rfl,_⟩:=sN e
 obtain⟨ys,h3,r,rfl,_⟩:=rZ e
 obtain⟨n,_,h4⟩:=mX _ DF
 refine Tot.of ?_
 rw [aoR]
 simp only [XW,zz,aG.den,Nat.reduceLT,h1,h2,h3,h4,Kr]
 repeat' first | exact .out abU | exact .out abT | refine .ite (fun _=>?_) (fun _=>?_)
theorem ajV (a b c d e f g h i:Int):Tot 12450 [a,b,c,d,e,f,g,h,i] YH:=by
 obtain⟨ys,h0,o,rfl,_⟩:=iE 1 a b _ _ (DC (b:=98) (by omega) (by omega)) DF
 obtain⟨ys,h1,o',rfl,_⟩:=iE c d e _ _ (DC (b:=97) (by omega) (by omega)) (DC (b:=98) (by omega) (by omega))
 obtain⟨ys,h2,q,rfl,_⟩:=sN g
 obtain⟨ys,h3,r,rfl,_⟩:=rZ g
 obtain⟨n,_,h4⟩:=mX _ DF
 refine Tot.of ?_
 rw [aoS]
 simp only [XY,zz,aG.den,Nat.reduceLT,h0,h1,h2,h3,h4,Kr]
 repeat' first | exact .out abU | exact .out abT | refine .ite (fun _=>?_) (fun _=>?_)
theorem ajU (a b c d e f g h i:Int):Tot 12550 [a,b,c,d,e,f,g,h,i] YH:=by
 obtain⟨ys,h0,o,rfl,_⟩:=iE 1 a b _ _ (DC (b:=98) (by omega) (by omega)) DF
 obtain⟨ys,h1,o',rfl,_⟩:=iE c d e _ _ (DC (b:=97) (by omega) (by omega)) (DC (b:=98) (by omega) (by omega))
 obtain⟨ys,h2,q,rfl,_⟩:=sN g
 obtain⟨ys,h3,r,rfl,_⟩:=rZ g
 obtain⟨n,_,h4⟩:=mX _ DF
 refine Tot.of ?_
 rw [aoQ]
 simp only [XV,zz,aG.den,Nat.reduceLT,h0,h1,h2,h3,h4,Kr]
 repeat' first | exact .out abU | exact .out abT | refine .ite (fun _=>?_) (fun _=>?_)
def alC (m k:Nat) (ys:List Int):Prop:=(∃l,ys=0 :: l)∨(m=1∧low ys 0=1∧low ys k=1∧low ys (k+1)=enc (dL [E1]))
theorem Bj {m k:Nat} {l:List Int}:alC m k (0 :: l):=.inl ⟨l,rfl⟩
def wH (m:Nat):D:=dL (List.replicate m E1)
theorem xH (m:Nat):(wH m).l.length=m:=by unfold wH; rw [aX,List.length_replicate]
theorem Bc (m:Nat) (hm:1≤m) (a b c d e f g:Int):Tot 12600 [a,b,c,d,e,f,enc (wH m),g] (alC m 9):=by
 obtain⟨ys,h1,o,rfl,_⟩:=iE a b c _ _ (DC (b:=97) (by omega) (by omega)) DF
 obtain⟨ys,h2,q,rfl,hq⟩:=sN e
 obtain⟨ys,h3,r,rfl,_⟩:=rZ e
 obtain⟨n,_,h4⟩:=mX _ DF
 refine Tot.of ?_
 rw [aoP]
 by_cases h:m=1
 ·subst h
  have h5:=Df
  simp only [SN,zz,aG.den,Nat.reduceLT,h1,h2,h3,h4,wH,List.replicate,h5]
  repeat' first | exact .out Bj | exact .out (.inr ⟨rfl,rfl,rfl,rfl⟩) | refine .ite (fun _=>?_) (fun _=>?_)
 ·have c1: ¬((m:Int)=q):=by rcases hq with rfl | rfl <;> omega
  simp only [SN,zz,aG.den,Nat.reduceLT,h1,h2,h3,h4,xH,c1]
  repeat' first | exact .out Bj | refine .ite (fun _=>?_) (fun _=>?_)
theorem Ba (m:Nat) (hm:1≤m) (a b c d e f g:Int):Tot 12700 [a,b,c,d,e,f,enc (wH m),g] (alC m 9):=by
 obtain⟨ys,h1,o,rfl,_⟩:=iE a b c _ _ (DC (b:=97) (by omega) (by omega)) DF
 obtain⟨ys,h2,q,rfl,hq⟩:=sN e
 obtain⟨ys,h3,r,rfl,_⟩:=rZ e
 obtain⟨n,_,h4⟩:=mX _ DF
 refine Tot.of ?_
 rw [aoN]
 by_cases h:m=1
 ·subst h
  have h5:=Df
  simp only [SK,zz,aG.den,Nat.reduceLT,h1,h2,h3,h4,wH,List.replicate,h5]
  repeat' first | exact .out Bj | exact .out (.inr ⟨rfl,rfl,rfl,rfl⟩) | refine .ite (fun _=>?_) (fun _=>?_)
 ·have c1: ¬((m:Int)=q):=by rcases hq with rfl | rfl <;> omega
  simp only [SK,zz,aG.den,Nat.reduceLT,h1,h2,h3,h4,xH,c1]
  repeat' first | exact .out Bj | refine .ite (fun _=>?_) (fun _=>?_)
theorem ajT (m:Nat) (hm:1≤m) (a b c d e f g h' i:Int):Tot 12650 [a,b,c,d,e,f,g,h',enc (wH m),i] (alC m 11):=by
 obtain⟨ys,h0,o,rfl,_⟩:=iE 1 a b _ _ (DC (b:=98) (by omega) (by omega)) DF
 obtain⟨ys,h1,o',rfl,_⟩:=iE c d e _ _ (DC (b:=97) (by omega) (by omega)) (DC (b:=98) (by omega) (by omega))
 obtain⟨ys,h2,q,rfl,hq⟩:=sN g
 obtain⟨ys,h3,r,rfl,_⟩:=rZ g
 obtain⟨n,_,h4⟩:=mX _ DF
 refine Tot.of ?_
 rw [aoO]
 by_cases h:m=1
 ·subst h
  have h5:=Df
  simp only [SL,zz,aG.den,Nat.reduceLT,h0,h1,h2,h3,h4,wH,List.replicate,h5]
  repeat' first | exact .out Bj | exact .out (.inr ⟨rfl,rfl,rfl,rfl⟩) | refine .ite (fun _=>?_) (fun _=>?_)
 ·have c1: ¬((m:Int)=q):=by rcases hq with rfl | rfl <;> omega
  simp only [SL,zz,aG.den,Nat.reduceLT,h0,h1,h2,h3,h4,xH,c1]
  repeat' first | exact .out Bj | refine .ite (fun _=>?_) (fun _=>?_)
theorem ajS (m:Nat) (hm:1≤m) (a b c d e f g h' i:Int):Tot 12750 [a,b,c,d,e,f,g,h',enc (wH m),i] (alC m 11):=by
 obtain⟨ys,h0,o,rfl,_⟩:=iE 1 a b _ _ (DC (b:=98) (by omega) (by omega)) DF
 obtain⟨ys,h1,o',rfl,_⟩:=iE c d e _ _ (DC (b:=97) (by omega) (by omega)) (DC (b:=98) (by omega) (by omega))
 obtain⟨ys,h2,q,rfl,hq⟩:=sN g
 obtain⟨ys,h3,r,rfl,_⟩:=rZ g
 obtain⟨n,_,h4⟩:=mX _ DF
 refine Tot.of ?_
 rw [aoM]
 by_cases h:m=1
 ·subst h
  have h5:=Df
  simp only [SI,zz,aG.den,Nat.reduceLT,h0,h1,h2,h3,h4,wH,List.replicate,h5]
  repeat' first | exact .out Bj | exact .out (.inr ⟨rfl,rfl,rfl,rfl⟩) | refine .ite (fun _=>?_) (fun _=>?_)
 ·have c1: ¬((m:Int)=q):=by rcases hq with rfl | rfl <;> omega
  simp only [SI,zz,aG.den,Nat.reduceLT,h0,h1,h2,h3,h4,xH,c1]
  repeat' first | exact .out Bj | refine .ite (fun _=>?_) (fun _=>?_)
end Go.As.Try
end

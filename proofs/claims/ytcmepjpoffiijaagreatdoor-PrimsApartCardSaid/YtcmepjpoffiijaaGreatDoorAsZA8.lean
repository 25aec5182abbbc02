import GoSem.Claim
import Derived.Orders
import Derived.Scope
import Derived.LoopN
import Derived.Below
import GoSem.Core.View
import GoSem.Core.Layout
import GoSem.Op.Equal
import Derived.WalkKit
import Derived.Lib.Strings
import Derived.Laws.IdiomStrings
import Derived.Laws.RangeString
import Derived.Laws.StructEq
import Derived.Lib.Bytealg
import Derived.Lib.IndexMore
import Derived.Deep.LoopGhost
import Derived.IntWalk
import Derived.ChangeArms
import Derived.DataReads
import GoSem.ClaimJoined
import Derived.KernelRfl
import Derived.Test.YtcmepjpoffiijaaGreatDoorProg
import Derived.Shelf.Strings.Search3
import Derived.Shelf.LaysM
import Derived.Shelf.Strings.Shaped
import Derived.Test.YtcmepjpoffiijaaGreatDoorCards
import Derived.Test.YtcmepjpoffiijaaGreatDoorTie
import Derived.ProofKit
import Derived.OpenShut
import Derived.Deep.DeepHandedRow
import Derived.LaidLaws
import Derived.Test.YtcmepjpoffiijaaGreatDoorAsZA7
set_option linter.unusedSectionVars false
set_option linter.unusedVariables false
set_option linter.unusedSimpArgs false
section
namespace Go.As.Try
open Go hiding Stat Spec shape
open Go.As Go.Proofs
set_option maxRecDepth 100000
noncomputable section
def b0 : D := .p (.i 0) (.p (.i 0) (.p (.i 0) (.p (.i 0) (.p (.i 0) (.p (.i 0) (.p (.i 0) (.p (.i 0) (.p (.i 0) (.p (.i 1) (.p (.i 1) (.p (.i 0) (.p (.i 0) (.p (.i 1) (.p (.i 0) (.p (.i 0) (.p (.i 0) (.p (.i 0) (.p (.i 0) (.p (.i 0) (.p (.i 0) (.p (.i 0) (.p (.i 0) (.p (.i 0) (.p (.i 0) (.p (.i 0) (.p (.i 0) (.p (.i 0) (.p (.i 0) (.p (.i 0) (.p (.i 0) (.p (.i 0) (.p (.i 1) (.p (.i 0) (.p (.i 0) (.p (.i 2) (.p (.i 0) (.p (.i 0) (.p (.i 0) (.p (.i 0) (.p (.i 5) (.p (.i 5) (.p (.i 5) (.p (.i 5) (.p (.i 0) (.p (.i 5) (.p (.i 0) (.p (.i 0) (.p (.i 3) (.p (.i 3) (.p (.i 3) (.p (.i 3) (.p (.i 3) (.p (.i 3) (.p (.i 3) (.p (.i 3) (.p (.i 3) (.p (.i 3) (.p (.i 0) (.p (.i 5) (.p (.i 5) (.p (.i 5) (.p (.i 0) (.p (.i 0) (.p (.i 0) (.p (.i 4) (.p (.i 4) (.p (.i 4) (.p (.i 4) (.p (.i 4) (.p (.i 4) (.p (.i 4) (.p (.i 4) (.p (.i 4) (.p (.i 4) (.p (.i 4) (.p (.i 4) (.p (.i 4) (.p (.i 4) (.p (.i 4) (.p (.i 4) (.p (.i 4) (.p (.i 4) (.p (.i 4) (.p (.i 4) (.p (.i 4) (.p (.i 4) (.p (.i 4) (.p (.i 4) (.p (.i 4) (.p (.i 4) (.p (.i 0) (.p (.i 0) (.p (.i 0) (.p (.i 0) (.p (.i 4) (.p (.i 0) (.p (.i 4) (.p (.i 4) (.p (.i 4) (.p (.i 4) (.p (.i 4) (.p (.i 4) (.p (.i 4) (.p (.i 4) (.p (.i 4) (.p (.i 4) (.p (.i 4) (.p (.i 4) (.p (.i 4) (.p (.i 4) (.p (.i 4) (.p (.i 4) (.p (.i 4) (.p (.i 4) (.p (.i 4) (.p (.i 4) (.p (.i 4) (.p (.i 4) (.p (.i 4) (.p (.i 4) (.p (.i 4) (.p (.i 4) (.p (.i 5) (.p (.i 0) (.p (.i 5) (.p (.i 0) (.p (.i 0) (.p (.i 0) (.p (.i 0) (.p (.i 0) (.p (.i 0) (.p (.i 0) (.p (.i 0) (.p (.i 0) (.p (.i 0) (.p (.i 0) (.p (.i 0) (.p (.i 0) (.p (.i 0) (.p (.i 0) (.p (.i 0) (.p (.i 0) (.p (.i 0) (.p (.i 0) (.p (.i 0) (.p (.i 0) (.p (.i 0) (.p (.i 0) (.p (.i 0) (.p (.i 0) (.p (.i 0) (.p (.i 0) (.p (.i 0) (.p (.i 0) (.p (.i 0) (.p (.i 0) (.p (.i 0) (.p (.i 0) (.p (.i 0) (.p (.i 0) (.p (.i 0) (.p (.i 0) (.p (.i 0) (.p (.i 0) (.p (.i 0) (.p (.i 0) (.p (.i 0) (.p (.i 0) (.p (.i 0) (.p (.i 0) (.p (.i 0) (.p (.i 0) (.p (.i 0) (.p (.i 0) (.p (.i 0) (.p (.i 0) (.p (.i 0) (.p (.i 0) (.p (.i 0) (.p (.i 0) (.p (.i 0) (.p (.i 0) (.p (.i 0) (.p (.i 0) (.p (.i 0) (.p (.i 0) (.p (.i 0) (.p (.i 0) (.p (.i 0) (.p (.i 0) (.p (.i 0) (.p (.i 0) (.p (.i 0) (.p (.i 0) (.p (.i 0) (.p (.i 0) (.p (.i 0) (.p (.i 0) (.p (.i 0) (.p (.i 0) (.p (.i 0) (.p (.i 0) (.p (.i 0) (.p (.i 0) (.p (.i 0) (.p (.i 0) (.p (.i 0) (.p (.i 0) (.p (.i 0) (.p (.i 0) (.p (.i 0) (.p (.i 0) (.p (.i 0) (.p (.i 0) (.p (.i 0) (.p (.i 0) (.p (.i 0) (.p (.i 0) (.p (.i 0) (.p (.i 0) (.p (.i 0) (.p (.i 0) (.p (.i 0) (.p (.i 0) (.p (.i 0) (.p (.i 0) (.p (.i 0) (.p (.i 0) (.p (.i 0) (.p (.i 0) (.p (.i 0) (.p (.i 0) (.p (.i 0) (.p (.i 0) (.p (.i 0) (.p (.i 0) (.p (.i 0) (.p (.i 0) (.p (.i 0) (.p (.i 0) (.p (.i 0) (.p (.i 0) (.p (.i 0) (.p (.i 0) (.p (.i 0) (.p (.i 0) (.p (.i 0) (.p (.i 0) (.p (.i 0) (.p (.i 0) (.p (.i 0) (.p (.i 0) (.p (.i 0) (.p (.i 0) (.p (.i 0) (.i 0))))))))))))))))))))))))))))))))))))))))))))))))))))))))))))))))))))))))))))))))))))))))))))))))))))))))))))))))))))))))))))))))))))))))))))))))))))))))))))))))))))))))))))))))))))))))))))))))))))))))))))))))))))))))))))))))))))))))))))))))))))))))))))))))
def b1 : D := .p (.i 32) (.p (.i 97) (.p (.i 99) (.p (.i 113) (.p (.i 117) (.p (.i 105) (.p (.i 114) (.p (.i 101) (.p (.i 32) (.p (.i 97) (.p (.i 100) (.p (.i 100) (.p (.i 32) (.p (.i 97) (.p (.i 114) (.p (.i 114) (.p (.i 105) (.p (.i 118) (.p (.i 101) (.p (.i 32) (.p (.i 98) (.p (.i 97) (.p (.i 114) (.p (.i 114) (.p (.i 105) (.p (.i 101) (.p (.i 114) (.p (.i 32) (.p (.i 98) (.p (.i 114) (.p (.i 111) (.p (.i 97) (.p (.i 100) (.p (.i 99) (.p (.i 97) (.p (.i 115) (.p (.i 116) (.p (.i 32) (.p (.i 99) (.p (.i 111) (.p (.i 110) (.p (.i 100) (.p (.i 32) (.p (.i 100) (.p (.i 111) (.p (.i 32) (.p (.i 100) (.p (.i 111) (.p (.i 110) (.p (.i 101) (.p (.i 32) (.p (.i 101) (.p (.i 108) (.p (.i 115) (.p (.i 101) (.p (.i 32) (.p (.i 105) (.p (.i 102) (.p (.i 32) (.p (.i 108) (.p (.i 111) (.p (.i 99) (.p (.i 107) (.p (.i 32) (.p (.i 108) (.p (.i 111) (.p (.i 99) (.p (.i 107) (.p (.i 102) (.p (.i 111) (.p (.i 114) (.p (.i 32) (.p (.i 108) (.p (.i 111) (.p (.i 111) (.p (.i 112) (.p (.i 32) (.p (.i 109) (.p (.i 117) (.p (.i 116) (.p (.i 101) (.p (.i 120) (.p (.i 32) (.p (.i 111) (.p (.i 110) (.p (.i 99) (.p (.i 101) (.p (.i 32) (.p (.i 112) (.p (.i 117) (.p (.i 116) (.p (.i 32) (.p (.i 113) (.p (.i 117) (.p (.i 101) (.p (.i 117) (.p (.i 101) (.p (.i 32) (.p (.i 114) (.p (.i 101) (.p (.i 97) (.p (.i 100) (.p (.i 32) (.p (.i 114) (.p (.i 101) (.p (.i 108) (.p (.i 101) (.p (.i 97) (.p (.i 115) (.p (.i 101) (.p (.i 32) (.p (.i 114) (.p (.i 108) (.p (.i 111) (.p (.i 99) (.p (.i 107) (.p (.i 32) (.p (.i 114) (.p (.i 117) (.p (.i 110) (.p (.i 108) (.p (.i 111) (.p (.i 99) (.p (.i 107) (.p (.i 32) (.p (.i 114) (.p (.i 119) (.p (.i 108) (.p (.i 111) (.p (.i 99) (.p (.i 107) (.p (.i 32) (.p (.i 115) (.p (.i 101) (.p (.i 109) (.p (.i 32) (.p (.i 115) (.p (.i 101) (.p (.i 116) (.p (.i 32) (.p (.i 115) (.p (.i 105) (.p (.i 103) (.p (.i 110) (.p (.i 97) (.p (.i 108) (.p (.i 32) (.p (.i 116) (.p (.i 97) (.p (.i 107) (.p (.i 101) (.p (.i 32) (.p (.i 116) (.p (.i 104) (.p (.i 114) (.p (.i 101) (.p (.i 97) (.p (.i 100) (.p (.i 32) (.p (.i 116) (.p (.i 114) (.p (.i 121) (.p (.i 97) (.p (.i 99) (.p (.i 113) (.p (.i 117) (.p (.i 105) (.p (.i 114) (.p (.i 101) (.p (.i 32) (.p (.i 116) (.p (.i 114) (.p (.i 121) (.p (.i 108) (.p (.i 111) (.p (.i 99) (.p (.i 107) (.p (.i 32) (.p (.i 117) (.p (.i 110) (.p (.i 108) (.p (.i 111) (.p (.i 99) (.p (.i 107) (.p (.i 32) (.p (.i 118) (.p (.i 97) (.p (.i 114) (.p (.i 32) (.p (.i 119) (.p (.i 97) (.p (.i 105) (.p (.i 116) (.p (.i 32) (.p (.i 119) (.p (.i 97) (.p (.i 105) (.p (.i 116) (.p (.i 102) (.p (.i 111) (.p (.i 114) (.p (.i 32) (.p (.i 119) (.p (.i 97) (.p (.i 105) (.p (.i 116) (.p (.i 111) (.p (.i 110) (.p (.i 32) (.p (.i 119) (.p (.i 108) (.p (.i 111) (.p (.i 99) (.p (.i 107) (.p (.i 32) (.p (.i 119) (.p (.i 114) (.p (.i 105) (.p (.i 116) (.p (.i 101) (.p (.i 32) (.p (.i 119) (.p (.i 117) (.p (.i 110) (.p (.i 108) (.p (.i 111) (.p (.i 99) (.p (.i 107) (.p (.i 32) (.i 0)))))))))))))))))))))))))))))))))))))))))))))))))))))))))))))))))))))))))))))))))))))))))))))))))))))))))))))))))))))))))))))))))))))))))))))))))))))))))))))))))))))))))))))))))))))))))))))))))))))))))))))))))))))))))))))))))))))
abbrev Qa : SE := .lit 0
abbrev Qb : SE := .aA 1
abbrev Qc : SE := ln Qb
abbrev Qd : SB := .lt Qc (.lit 1759218604441)
abbrev Qe : SE := .aA 0
abbrev Qf : SE := .op .norm Qb Qa
abbrev Qg : SE := .dat (.i 1)
abbrev Qh : SE := .dat (.i 2)
def MH : T Lf := sp (.lt Qa Qc) (sp Qd (ju 9001 [Qe, Qb, Qc, Qa]) fl) (sp (.eq Qf Qg) (ju 9002 [Qe]) (sp (.eq Qf Qh) (ju 9003 [Qe]) fl))
abbrev Qi : SE := .aA 3
abbrev Qj : SB := .eq Qi Qe
abbrev Qk : SE := .aA 2
abbrev Ql : SB := .lt Qi Qk
abbrev Qm : SB := .lt Qi Qa
abbrev Qn : SB := .lt Qi Qc
abbrev Qo : SE := el Qb Qi
abbrev Qp : SE := ce 4 Qo
abbrev Qq : SB := .lt Qa (ln Qp)
abbrev Qr : SE := .lit 17592186044416
abbrev Qs : SB := .lt (ln Qp) Qr
abbrev Qt : SE := ce 5 Qo
abbrev Qu : SB := .lt Qa (ln Qt)
abbrev Qv : SB := .lt (ln Qt) Qr
abbrev Qw : SE := .lit 1
abbrev Qx : SE := wr (.add Qi Qw)
abbrev Qy : SE := el Qb Qe
abbrev Qz : SE := nm (ce 0 Qy)
abbrev Q0 : SE := nm (ce 1 Qy)
abbrev Q1 : SE := nm (ce 2 Qy)
abbrev Q2 : SE := nm (ce 3 Qy)
abbrev Q3 : SB := .eq Qt Qg
abbrev Q4 : SB := .eq Qt Qh
abbrev Q5 : SB := .eq Qp Qg
abbrev Q6 : SB := .eq Qp Qh
abbrev Q7 : T Lf := ou [Qa, Qe, Qb]
abbrev Q8 : SE := mk Qi
abbrev Q9 : SE := .dat (.i 4)
abbrev Qba : SE := .op .set Qb (cn Q8 (.op .set Qo (cn Q9 Qp)))
abbrev Qbb : SE := .dat (.i 5)
abbrev Qbc : SE := .op .set Qba (cn Q8 (.op .set (el Qba Qi) (cn Qbb Qt)))
abbrev Qbd : SE := cn Qbb Qg
abbrev Qbe : SE := .op .set Qba (cn Q8 (.op .set (el Qba Qi) Qbd))
abbrev Qbf : SE := cn Qbb Qh
abbrev Qbg : SE := .op .set Qba (cn Q8 (.op .set (el Qba Qi) Qbf))
abbrev Qbh : SE := .op .set Qb (cn Q8 (.op .set Qo (cn Q9 Qg)))
abbrev Qbi : SE := .op .set Qbh (cn Q8 (.op .set (el Qbh Qi) (cn Qbb Qt)))
abbrev Qbj : SE := .op .set Qbh (cn Q8 (.op .set (el Qbh Qi) Qbd))
abbrev Qbk : SE := .op .set Qbh (cn Q8 (.op .set (el Qbh Qi) Qbf))
abbrev Qbl : SE := .op .set Qb (cn Q8 (.op .set Qo (cn Q9 Qh)))
abbrev Qbm : SE := .op .set Qbl (cn Q8 (.op .set (el Qbl Qi) (cn Qbb Qt)))
abbrev Qbn : SE := .op .set Qbl (cn Q8 (.op .set (el Qbl Qi) Qbd))
abbrev Qbo : SE := .op .set Qbl (cn Q8 (.op .set (el Qbl Qi) Qbf))
def sW : T Lf := sp Qj (sp Ql (sp Qm fl (sp Qn (sp Qq (sp Qs (sp Qu (sp Qv (ju 9004 [Qe, Qb, Qk, Qx, Qz, Q0, Q1, Q2, Qp, Qt]) fl) (sp Q3 (ju 9005 [Qe, Qb, Qk, Qx, Qz, Q0, Q1, Q2, Qp, Qg]) (sp Q4 (ju 9005 [Qe, Qb, Qk, Qx, Qz, Q0, Q1, Q2, Qp, Qh]) fl))) fl) (sp Q5 (sp Qu (sp Qv (ju 9006 [Qe, Qb, Qk, Qx, Qz, Q0, Q1, Q2, Qg, Qt]) fl) (sp Q3 (ju 9007 [Qe, Qb, Qk, Qx, Qz, Q0, Q1, Q2, Qg, Qg]) (sp Q4 (ju 9007 [Qe, Qb, Qk, Qx, Qz, Q0, Q1, Q2, Qg, Qh]) fl))) (sp Q6 (sp Qu (sp Qv (ju 9006 [Qe, Qb, Qk, Qx, Qz, Q0, Q1, Q2, Qh, Qt]) fl) (sp Q3 (ju 9007 [Qe, Qb, Qk, Qx, Qz, Q0, Q1, Q2, Qh, Qg]) (sp Q4 (ju 9007 [Qe, Qb, Qk, Qx, Qz, Q0, Q1, Q2, Qh, Qh]) fl))) fl))) fl)) Q7) (sp Ql (sp Qm fl (sp Qn (sp Qq (sp Qs (sp Qu (sp Qv (ju 9001 [Qe, Qbc, Qk, Qx]) fl) (sp Q3 (ju 9001 [Qe, Qbe, Qk, Qx]) (sp Q4 (ju 9001 [Qe, Qbg, Qk, Qx]) fl))) fl) (sp Q5 (sp Qu (sp Qv (ju 9001 [Qe, Qbi, Qk, Qx]) fl) (sp Q3 (ju 9001 [Qe, Qbj, Qk, Qx]) (sp Q4 (ju 9001 [Qe, Qbk, Qk, Qx]) fl))) (sp Q6 (sp Qu (sp Qv (ju 9001 [Qe, Qbm, Qk, Qx]) fl) (sp Q3 (ju 9001 [Qe, Qbn, Qk, Qx]) (sp Q4 (ju 9001 [Qe, Qbo, Qk, Qx]) fl))) fl))) fl)) Q7)
def aaT : T Lf := sp (.eq Qa Qe) (ou [Qw, Qe]) (ou [Qw, Qe])
abbrev rU : SE := .lit 2
def aaS : T Lf := sp (.eq Qa Qe) (ou [rU, Qe]) (ou [rU, Qe])
abbrev Qbq : T Lf := sp Qm fl (sp Qn fl fl)
abbrev GI : SE := .lit 3
abbrev dK : SE := .aA 4
abbrev eU : SE := .aA 5
abbrev iL : SE := .aA 6
abbrev lY : SE := .aA 7
abbrev oW : SE := .aA 8
abbrev vU : SE := .aA 9
abbrev Qby : T Lf := ou [GI, Qe, Qb, dK, eU, iL, lY, oW, vU]
abbrev Qbz : List SE := [Qe, Qbc, Qk, Qx, dK, eU, iL, lY, oW, vU]
abbrev Qb0 : List SE := [Qe, Qbe, Qk, Qx, dK, eU, iL, lY, oW, vU]
abbrev Qb1 : List SE := [Qe, Qbg, Qk, Qx, dK, eU, iL, lY, oW, vU]
abbrev Qb2 : List SE := [Qe, Qbi, Qk, Qx, dK, eU, iL, lY, oW, vU]
abbrev Qb3 : List SE := [Qe, Qbj, Qk, Qx, dK, eU, iL, lY, oW, vU]
abbrev Qb4 : List SE := [Qe, Qbk, Qk, Qx, dK, eU, iL, lY, oW, vU]
abbrev Qb5 : List SE := [Qe, Qbm, Qk, Qx, dK, eU, iL, lY, oW, vU]
abbrev Qb6 : List SE := [Qe, Qbn, Qk, Qx, dK, eU, iL, lY, oW, vU]
abbrev Qb7 : List SE := [Qe, Qbo, Qk, Qx, dK, eU, iL, lY, oW, vU]
def Xo : T Lf := sp Qj (sp Ql Qbq Qby) (sp Ql (sp Qm fl (sp Qn (sp Qq (sp Qs (sp Qu (sp Qv (ju 9004 Qbz) fl) (sp Q3 (ju 9004 Qb0) (sp Q4 (ju 9004 Qb1) fl))) fl) (sp Q5 (sp Qu (sp Qv (ju 9004 Qb2) fl) (sp Q3 (ju 9004 Qb3) (sp Q4 (ju 9004 Qb4) fl))) (sp Q6 (sp Qu (sp Qv (ju 9004 Qb5) fl) (sp Q3 (ju 9004 Qb6) (sp Q4 (ju 9004 Qb7) fl))) fl))) fl)) Qby)
abbrev ZX : SE := .lit 4
abbrev Qb9 : T Lf := ou [ZX, Qe, Qb, dK, eU, iL, lY, oW, vU]
def Xn : T Lf := sp Qj (sp Ql Qbq Qb9) (sp Ql (sp Qm fl (sp Qn (sp Qq (sp Qs (sp Qu (sp Qv (ju 9005 Qbz) fl) (sp Q3 (ju 9005 Qb0) (sp Q4 (ju 9005 Qb1) fl))) fl) (sp Q5 (sp Qu (sp Qv (ju 9005 Qb2) fl) (sp Q3 (ju 9005 Qb3) (sp Q4 (ju 9005 Qb4) fl))) (sp Q6 (sp Qu (sp Qv (ju 9005 Qb5) fl) (sp Q3 (ju 9005 Qb6) (sp Q4 (ju 9005 Qb7) fl))) fl))) fl)) Qb9)
abbrev Qca : SE := .lit 5
abbrev Qcb : T Lf := ou [Qca, Qe, Qb, dK, eU, iL, lY, oW, vU]
def Xm : T Lf := sp Qj (sp Ql Qbq Qcb) (sp Ql (sp Qm fl (sp Qn (sp Qq (sp Qs (sp Qu (sp Qv (ju 9006 Qbz) fl) (sp Q3 (ju 9006 Qb0) (sp Q4 (ju 9006 Qb1) fl))) fl) (sp Q5 (sp Qu (sp Qv (ju 9006 Qb2) fl) (sp Q3 (ju 9006 Qb3) (sp Q4 (ju 9006 Qb4) fl))) (sp Q6 (sp Qu (sp Qv (ju 9006 Qb5) fl) (sp Q3 (ju 9006 Qb6) (sp Q4 (ju 9006 Qb7) fl))) fl))) fl)) Qcb)
abbrev YP : SE := .lit 6
abbrev Qcd : T Lf := ou [YP, Qe, Qb, dK, eU, iL, lY, oW, vU]
def Xl : T Lf := sp Qj (sp Ql Qbq Qcd) (sp Ql (sp Qm fl (sp Qn (sp Qq (sp Qs (sp Qu (sp Qv (ju 9007 Qbz) fl) (sp Q3 (ju 9007 Qb0) (sp Q4 (ju 9007 Qb1) fl))) fl) (sp Q5 (sp Qu (sp Qv (ju 9007 Qb2) fl) (sp Q3 (ju 9007 Qb3) (sp Q4 (ju 9007 Qb4) fl))) (sp Q6 (sp Qu (sp Qv (ju 9007 Qb5) fl) (sp Q3 (ju 9007 Qb6) (sp Q4 (ju 9007 Qb7) fl))) fl))) fl)) Qcd)
abbrev U0 : List SE := [Qe, Qb]
abbrev pF : T Lf := ou [Qw]
def t0 : T Lf := sp (.eq (a0 100 U0) Qw) (sp (.eq (rr 100 U0 0) Qa) (sp (.eq (a0 300 U0) Qw) (ju 1 [Qk, rr 300 U0 0, Qa, Qe, Qb]) fl) pF) fl
abbrev sS : SE := ln Qe
abbrev YO : SB := .lt Qk sS
abbrev RF : SB := .lt Qk Qa
abbrev UZ : SE := el Qe Qk
abbrev Qck : SE := nm (ce 0 UZ)
abbrev Qcl : SE := ce 1 UZ
abbrev Qcm : SE := nm Qcl
abbrev Qcn : SE := nm (ce 2 UZ)
abbrev Qco : SE := ce 3 UZ
abbrev Qcp : SE := ce 4 UZ
abbrev Qcq : List SE := [Qi, dK, Qb, Qck, Qcm, Qcn, nm Qco, nm Qcp]
abbrev Ip : SE := wr (.add Qk Qw)
abbrev Qcs : SE := rr 400 Qcq 0
abbrev Qct : SE := rr 400 Qcq 1
abbrev Qcu : SE := rr 400 Qcq 2
abbrev Qcv : SE := rr 400 Qcq 3
abbrev Qcw : SE := rr 400 Qcq 4
def t1 : T Lf := sp YO (sp (.lt Qk (.lit 40)) (sp RF fl (sp (.eq (a0 400 Qcq) Qw) (sp (.eq (rr 400 Qcq 6) Qa) (ju 1 [Qe, Qb, Ip, Qi, dK]) (ju 2 [Qe, Qb, Qk, Qcs, rr 400 Qcq 6, Qc, Qa, Qi, dK, Qct, Qcu, Qcv, Qcw, rr 400 Qcq 5])) fl)) pF) pF
abbrev AB : SE := .aA 11
abbrev Qcy : SE := wr (.add iL Qw)
abbrev Ia : SE := .aA 10
abbrev UL : SE := .aA 12
abbrev ZW : SE := .aA 13
abbrev Qc2 : T Lf := ju 2 [Qe, Qb, Qk, Qi, dK, eU, Qcy, lY, oW, vU, Ia, AB, UL, ZW]
abbrev Qc3 : SB := .lt iL Qa
abbrev Qc4 : SE := ln Qi
abbrev Qc5 : List SE := [.op .drop (.op .take Qb Qcy) iL, .op .drop (.op .take Qi Qcy) iL]
abbrev dG : T Lf := ou [Qa]
abbrev Qc7 : SB := .eq Qc Qa
abbrev Qc8 : SB := .eq (a0 300 [lY, oW]) Qw
abbrev Qc9 : SB := .lt iL (ln (rr 300 [lY, oW] 0))
abbrev rE : SE := .dat (.i 0)
abbrev Qdb : SE := el (rr 300 [lY, oW] 0) iL
abbrev Qdc : List SE := [lY, oW, .op .set Qb (cn (mk iL) (.op .set (.op .set (.op .set (.op .set (.op .set (.op .set (el Qb iL) (cn rE (mk (nm (ce 0 Qdb))))) (cn Qg (mk (nm (ce 1 Qdb))))) (cn Qh (.op .bit (mk (nm (ce 2 Qdb))) Qa))) (cn (.dat (.i 3)) (mk (nm (ce 3 Qdb))))) (cn Q9 (ce 4 Qdb))) (cn Qbb (ce 5 Qdb)))), Qck, Qcm, Qcn, nm Qco, nm Qcp]
abbrev Qdd : SE := wr (.add AB Qw)
abbrev Qde : List SE := [.op .drop (.op .take (rr 400 Qdc 0) Qdd) AB, .op .drop (.op .take Qi Qdd) AB]
abbrev Qdf : T Lf := sp (.lt Qc Qcy) fl (sp Qc3 fl (sp (.lt Qcy iL) fl (sp (.lt Qc4 Qcy) fl (sp (.eq (a0 200 Qc5) Qw) (sp (.eq (rr 200 Qc5 0) Qa) dG (sp Qc7 (sp Qc8 (sp Qc9 fl fl) fl) (sp Qd (sp Qc8 (sp Qc9 (sp (.lt iL Qc) (sp RF fl (sp YO (sp (.eq (a0 400 Qdc) Qw) (sp (.and (.eq (rr 400 Qdc 1) vU) (.and (.eq (rr 400 Qdc 2) Ia) (.and (.eq (rr 400 Qdc 3) AB) (.and (.eq (rr 400 Qdc 4) UL) (.eq (rr 400 Qdc 5) ZW))))) (sp (.eq (rr 400 Qdc 6) dK) (sp (.lt (ln (rr 400 Qdc 0)) Qdd) fl (sp (.lt Qdd AB) fl (sp (.lt Qc4 Qdd) fl (sp (.eq (a0 200 Qde) Qw) (sp (.eq (rr 200 Qde 0) Qa) dG Qc2) fl)))) dG) dG) fl) fl)) fl) fl) fl) fl))) fl))))
def t2 : T Lf := sp (.lt iL eU) (sp (.lt AB Qa) fl (sp (.lt AB (ln lY)) (sp (.eq (nm (ce 0 (el lY AB))) ZX) (sp (.eq iL AB) Qc2 (sp (.eq (nm (ce 2 (el lY AB))) iL) Qc2 Qdf)) (sp (.eq iL AB) Qc2 Qdf)) fl)) (ju 1 [Qe, Qi, Ip, lY, oW])
abbrev Qdg : SB := .eq (a0 200 [Qb, Qcs]) Qw
abbrev Qdh : SB := .eq (rr 200 [Qb, Qcs] 0) Qa
abbrev Qdi : SB := .eq (rr 400 Qcq 5) Qa
abbrev UK : SE := .lit 20
abbrev Qdk : SE := .op .norm (mk Qcv) Qa
abbrev Qdl : SB := .eq (.op .JJ eU Qdk) Qa
abbrev Qdm : SE := .op .JK eU Qdk
abbrev Qdn : SE := .lit 7
abbrev Qdo : T Lf := ju 51 [Qe, Qcs, Ip, Qi, dK, eU]
abbrev Qdp : T Lf := sp (.eq Qcu UK) (sp Qdl (ju 51 [Qe, Qcs, Ip, Qi, dK, .op .Eb eU (cn Qdk (.op .snoc rE (mk Qcw)))]) fl) (sp (.eq Qcu (.lit 21)) (sp Qdl dG (sp (.eq (ln Qdm) Qa) dG (sp (.eq (nm (el Qdm Qa)) Qcw) (ju 51 [Qe, Qcs, Ip, Qi, dK, .op .Eb eU (cn Qdk (.op .drop Qdm Qw))]) dG))) (sp (.eq Qcu Qdn) (sp (.lt Qcv Qa) fl (sp (.lt Qcv (ln Qcs)) (sp (.eq (nm (ce 0 (el Qcs Qcv))) Qct) (sp (.lt Qa (ln (ce 4 (el Qcs Qcv)))) dG Qdo) dG) fl)) Qdo))
abbrev Qdq : T Lf := sp (.eq (rr 400 Qcq 6) Qa) (sp Qdg (sp Qdh dG (sp (.and (.eq Qct Qa) (.and (.eq Qcu Qa) (.and (.eq Qcv Qa) (.and (.eq Qcw Qa) Qdi)))) Qdp dG)) fl) (sp (.eq Qcu (.lit 27)) (sp Qdg (sp Qdh dG (sp (.eq Qct Qck) (sp (.eq Qcv Qcn) (sp Qdi (sp (.eq Qcu Qcm) Qdo (sp (.eq Qcw (wr Qcm)) Qdo dG)) dG) dG) dG)) fl) (sp (.eq Qct Qck) (sp (.eq Qcv Qcn) (sp Qdi (sp (.eq Qcu Qcm) Qdp dG) dG) dG) dG))
def auZ : T Lf := ju 101 [wr (.add sS Qc), Qc, Qa, Qe, Qb]
abbrev ZV : SB := .lt Qk Qb
abbrev Qds : SE := ln dK
def auY : T Lf := sp ZV (sp RF fl (sp (.lt Qk Qds) (ju 102 [wr (.add Qe (wr (.add (ln (ce 1 (el dK Qk))) (ln (ce 2 (el dK Qk)))))), Qk, Qa, Qb, Qi, dK]) fl)) (sp (.lt (.lit 6000) Qe) pF dG)
abbrev Qdt : SB := .lt Qb Qa
abbrev Qdu : SE := wr (.add Qb Qw)
abbrev Qdv : T Lf := ju 101 [Qe, Qi, Qdu, dK, eU]
abbrev Qdw : SE := ce 6 (el (ce 2 (el eU Qb)) Qk)
def auX : T Lf := sp Qdt fl (sp (.lt Qb (ln eU)) (sp (.lt Qk (ln (ce 2 (el eU Qb)))) (sp (.lt (.lit 6000) Qe) Qdv (sp RF fl (ju 103 [Qe, Qb, Qk, Qi, Qdw, ln Qdw, Qa, dK, eU]))) Qdv) fl)
abbrev Qdx : SE := el dK iL
abbrev Qdy : List SE := [nm (ce 0 Qdx), ce 1 Qdx, nm (ce 2 Qdx), ce 3 Qdx, .lit 60]
def auW : T Lf := sp (.lt iL eU) (sp Qc3 fl (sp (.lt iL Qds) (sp (.eq (a0 150 Qdy) Qw) (ju 103 [wr (.add Qe (rr 150 Qdy 0)), Qb, Qk, Qi, dK, eU, Qcy, lY, oW]) fl) fl)) (ju 102 [Qe, Qb, Ip, Qi, lY, oW])
abbrev Qdz : SB := .lt dK Qw
def auV : T Lf := sp Qdz (ou [.lit 10000]) (ju 151 [dK, wr (.add Qw (wr (.quo Qc (.lit 100)))), Qa, Qe, Qb, Qk, Qi])
abbrev Qd0 : SE := el iL Qk
abbrev Qd1 : List SE := [nm (ce 0 Qd0), ce 1 Qd0, nm (ce 2 Qd0), ce 3 Qd0, wr (.sub Qe Qw)]
def auU : T Lf := sp (.lt Qk (ln iL)) (sp (.lt (.lit 10000) Qb) (ou [Qb]) (sp RF fl (sp (.eq (a0 150 Qd1) Qw) (ju 151 [Qe, wr (.add Qb (rr 150 Qd1 0)), Ip, Qi, dK, eU, iL]) fl))) (ou [Qb])
def ajF : T Lf := sp (.eq sS Qc) (ju 201 [Qe, Qb, sS, Qa]) dG
abbrev RI : SE := el Qe Qi
abbrev Qd3 : SE := nm (ce 0 Qo)
abbrev Qd4 : SB := .not (.eq (nm (ce 2 RI)) Qa)
abbrev Qd5 : SE := nm (ce 2 Qo)
def t201 : T Lf := sp Ql (sp Qm fl (sp (.lt Qi sS) (sp Qn (sp (.eq (nm (ce 0 RI)) Qd3) (sp (.eq (nm (ce 1 RI)) (nm (ce 1 Qo))) (sp (.and (.not (.and Qd4 (.not (.eq Qd5 Qa)))) (.not (.and (.not Qd4) (.not (.not (.eq Qd5 Qa)))))) dG (sp (.eq (nm (ce 3 RI)) (nm (ce 3 Qo))) (sp (.eq (a0 250 [ce 4 RI, Qp]) Qw) (sp (.eq (rr 250 [ce 4 RI, Qp] 0) Qa) dG (sp (.eq (ln (ce 5 RI)) (ln Qt)) (ju 202 [Qe, Qb, Qk, Qi, ln (ce 5 RI), Qa, nm (ce 0 RI), nm (ce 1 RI), nm (ce 2 RI), nm (ce 3 RI), ce 4 RI, ce 5 RI, Qd3, nm (ce 1 Qo), Qd5, nm (ce 3 Qo), Qp, Qt]) dG)) fl) dG)) dG) dG) fl) fl)) pF
abbrev Qd6 : SB := .lt eU Qa
abbrev LU : SE := .aA 14
abbrev Qd8 : SE := .aA 15
abbrev Qd9 : List SE := [Qe, Qb, Qk, Qx]
def abP : T Lf := sp (.lt eU dK) (sp Qd6 fl (sp (.lt eU (ln AB)) (sp (.lt eU (ln (.aA 17))) (sp (.eq (nm (el AB eU)) (nm (el (.aA 17) eU))) (ju 202 [Qe, Qb, Qk, Qi, dK, wr (.add eU Qw), iL, lY, oW, vU, Ia, AB, UL, ZW, LU, Qd8, .aA 16, .aA 17]) dG) fl) fl)) (ju 201 Qd9)
def ajE : T Lf := sp (.eq sS Qc) (ju 251 [Qe, Qb, Qa]) dG
def abO : T Lf := sp YO (sp RF fl (sp (.lt Qk Qc) (sp (.eq (nm UZ) (nm (el Qb Qk))) (ju 251 [Qe, Qb, Ip]) dG) fl)) pF
def abN : T Lf := sp (.eq (a0 450 U0) Qw) (sp (.eq (rr 450 U0 0) Qa) (ju 301 [Qe, sS]) (ou [Qg])) fl
abbrev Qea : SE := .dat (.i (-1))
abbrev Qeb : SE := cn rE (cn rE (cn Qg (cn Qg rE)))
abbrev Qec : T Lf := ju 302 [.op .snoc rE (cn Qea (cn (mk (nm (ce 2 (el Qe Qa)))) Qeb)), Qe, Qb, Qw]
abbrev Qed : SE := .lit 9
def U7 : T Lf := sp (.lt Qa Qb) (sp (.lt Qa sS) (sp (.eq (nm (ce 0 (el Qe Qa))) GI) Qec (sp (.eq (nm (ce 0 (el Qe Qa))) Qed) Qec (ju 302 [.op .snoc rE (cn Qea (cn rE Qeb)), Qe, Qb, Qw]))) fl) (ou [Qg])
abbrev Qee : SB := .lt sS (.lit 1759218604440)
abbrev Qef : T Lf := sp Qee (ju 302 [.op .snoc Qe (cn Qea (cn (mk Qd5) Qeb)), Qb, Qk, Qx]) fl
def aiY : T Lf := sp Ql (sp Qm fl (sp Qn (sp (.eq Qd3 GI) Qef (sp (.eq Qd3 Qed) Qef (sp Qee (ju 302 [.op .snoc Qe (cn Qea (cn rE Qeb)), Qb, Qk, Qx]) fl))) fl)) (ou [Qe])
def abM : T Lf := sp (.eq (a0 450 U0) Qw) (sp (.eq (rr 450 U0 0) Qa) (sp (.eq (ln Qk) sS) (ju 351 [Qk, ln Qk, Qa, Qe, Qb]) dG) dG) fl
abbrev Qeg : SE := el Qi Qk
abbrev ZU : SE := ce 5 UZ
abbrev Qei : List SE := [nm (ce 0 Qeg), ce 1 Qeg, nm (ce 2 Qeg), ce 3 Qeg, nm (ce 4 Qeg), Qck, Qcm, Qa, nm Qco, Qcp, ZU, Qds]
abbrev Qej : T Lf := ju 351 [Qe, Qb, Ip, Qi, dK]
abbrev Qek : List SE := [nm (ce 0 Qeg), ce 1 Qeg, nm (ce 2 Qeg), ce 3 Qeg, nm (ce 4 Qeg), Qck, Qcm, Qw, nm Qco, Qcp, ZU, Qds]
def U6 : T Lf := sp ZV (sp RF fl (sp YO (sp (.lt Qk Qc4) (sp (.eq Qcn Qa) (sp (.eq (a0 500 Qei) Qw) (sp (.eq (rr 500 Qei 0) Qa) dG Qej) fl) (sp (.eq (a0 500 Qek) Qw) (sp (.eq (rr 500 Qek 0) Qa) dG Qej) fl)) fl) fl)) pF
abbrev Qel : List SE := [eU, Qk]
abbrev Qem : SE := rr 9000 Qel 0
abbrev Qen : SB := .eq (a0 350 [Qe, Qb, Qk]) Qw
abbrev Qeo : SB := .eq (rr 350 [Qe, Qb, Qk] 0) Qa
abbrev Dx : SE := rr 9000 Qel 2
abbrev Qeq : T Lf := ou [Dx, Qa, Qa, Qa, Qa, Qa, Qa]
abbrev Qer : T Lf := sp Qen (sp Qeo Qeq (sp Qm Qeq (sp Qn Qeq Qeq))) fl
abbrev Qes : SB := .lt eU (ln Dx)
abbrev Qet : T Lf := ou [Qg, Qa, Qa, Qa, Qa, Qa, Qa]
abbrev Qeu : T Lf := ou [Qh, Qa, Qa, Qa, Qa, Qa, Qa]
abbrev Io : SE := mk eU
abbrev Qew : SE := rr 9000 Qel 3
abbrev RH : SE := mk Qew
abbrev UJ : SE := rr 9000 Qel 4
abbrev UY : SE := mk UJ
abbrev Qe0 : SE := rr 9000 Qel 5
abbrev YN : SE := .op .bit (mk Qe0) Qa
abbrev Qe2 : SE := rr 9000 Qel 6
abbrev YL : SE := mk Qe2
abbrev RD : SE := rr 9000 Qel 7
abbrev Qe5 : SE := rr 9000 Qel 8
abbrev Qe6 : SE := cn Qe5 rE
abbrev Qe7 : SE := cn YN (cn YL (cn RD Qe6))
abbrev Qe8 : SE := cn Io (cn RH (cn UY Qe7))
abbrev Qe9 : SE := .op .set Dx Qe8
abbrev Jb : T Lf := ou [Qe9, Qa, Qa, Qa, Qa, Qa, Qa]
abbrev Qfb : SB := .eq (a0 600 [dK]) Qw
abbrev Qfc : SB := .lt eU sS
abbrev Qfd : SB := .eq (rr 600 [dK] 0) (nm (ce 0 (el Qe eU)))
abbrev Qfe : SB := .eq dK Qw
abbrev Qff : SB := .eq Qew Qi
abbrev H9 : T Lf := sp (.eq (a0 550 [Qk]) Qw) (ou [rr 550 [Qk] 0, Qi, .lit 27, eU, wr dK, Qa, rU]) fl
abbrev Qfh : SB := .eq (a0 900 [RD, Qi]) Qw
abbrev Qfi : SB := .eq (rr 900 [RD, Qi] 0) Qa
abbrev Qfj : SB := .lt Qew Qa
abbrev Qfk : SE := .op .set Dx (cn Io (cn Q8 (cn UY Qe7)))
abbrev UW : T Lf := sp (.eq (a0 550 [Qk]) Qw) (ou [rr 550 [Qk] 0, Qa, Qa, Qa, Qa, Qa, Qa]) fl
abbrev Qfm : T Lf := sp Qfj (ou [Qfk, Qi, dK, eU, Qa, Qa, rU]) UW
abbrev Qfn : T Lf := sp Qff H9 (sp Qfh (sp Qfi Qfm H9) fl)
abbrev Qfo : SB := .eq dK rU
abbrev Qfp : T Lf := sp Qff (ou [.op .set Dx (cn Io (cn Qea (cn UY Qe7))), Qi, dK, eU, Qa, Qa, rU]) H9
abbrev Qfq : SB := .eq dK (.lit 8)
abbrev Qfr : SB := .eq dK GI
abbrev Qfs : T Lf := ou [Qfk, Qi, dK, eU, Qw, Qa, rU]
abbrev Qft : T Lf := ou [Qe9, Qi, dK, eU, Qa, Qa, rU]
abbrev Qfu : T Lf := sp Qfj Qfs Qft
abbrev Qfv : SB := .eq dK ZX
abbrev Qfw : T Lf := sp Qfj Qfs (sp (.lt lY iL) UW Qft)
abbrev Qfx : SB := .eq dK Qca
abbrev Rz : SE := ln RD
abbrev Qfz : SB := .lt Rz (.lit 17592186044415)
abbrev Qf0 : SE := cn UY (cn YN (cn YL (cn (.op .snoc RD Q8) Qe6)))
abbrev Qf1 : T Lf := sp Qff H9 (sp Qfh (sp Qfi (sp Qfj (sp Qfz (ou [.op .set Dx (cn Io (cn RH Qf0)), Qi, dK, eU, Qa, Qa, rU]) fl) UW) H9) fl)
abbrev Qf2 : SB := .eq dK YP
abbrev Qf3 : SB := .eq (a0 850 [RD, Qi]) Qw
abbrev Qf4 : SE := rr 850 [RD, Qi] 0
abbrev Qf5 : SE := wr (.add Qf4 Qw)
abbrev Qf6 : SE := .sub Rz Qf5
abbrev Qf7 : SE := .add Qf4 Qf6
abbrev Qf8 : SE := .op .cat (.op .cat (.op .take RD Qf4) (.op .drop (.op .take RD (.add Qf5 Qf6)) Qf5)) (.op .drop RD Qf7)
abbrev Qf9 : SE := .op .fill Qf8 (cn (mk Qf7) rE)
abbrev Qga : T Lf := sp (.lt (.sub Rz Qf7) Qa) fl (sp (.eq (.add Qf7 (.sub Rz Qf7)) (ln Qf8)) (sp (.lt (ln Qf9) Qf7) fl (ou [.op .set Dx (cn Io (cn RH (cn UY (cn YN (cn YL (cn (.op .take Qf9 Qf7) Qe6)))))), Qi, dK, eU, Qa, Qa, rU])) fl)
abbrev Qgb : T Lf := sp Qf3 (sp (.lt Qf4 Qa) H9 (sp (.lt Qf5 Qf4) fl (sp (.lt Rz Qf5) fl (sp (.lt Rz Rz) fl (sp (.eq Qf4 Qf5) Qft (sp (.lt Rz Qf4) fl (sp (.lt Qf5 Qa) fl (sp (.lt Qf6 Qa) fl (sp (.lt Rz (.add Qf5 Qf6)) fl (sp (.lt Rz Qf7) fl (sp (.lt Qf7 Qa) fl (sp (.lt Qf7 Rz) (sp (.lt (ln Qf8) Rz) fl Qga) Qga)))))))))))) fl
abbrev Qgc : SB := .eq dK Qdn
abbrev Qgd : T Lf := sp Qff H9 (sp Qfh (sp Qfi (sp (.eq Rz Qa) Qfm UW) H9) fl)
abbrev Qge : SB := .eq dK Qed
abbrev Qgf : SE := .op .set Dx (cn Io (cn RH (cn (mk (wr (.sub UJ Qw))) Qe7)))
abbrev Qgg : T Lf := sp (.lt Qa UJ) (ou [Qgf, Qi, dK, eU, Qa, Qa, rU]) UW
abbrev Qgh : SB := .eq dK (.lit 11)
abbrev Qgi : T Lf := sp (.lt Qa UJ) (ou [Qgf, Qi, dK, eU, Qw, Qa, rU]) Qft
abbrev Qgj : SE := .lit 10
abbrev Qgk : SB := .eq dK Qgj
abbrev YJ : SE := nm (ce 2 (el Qe eU))
abbrev Qgm : SE := .op .set Dx (cn Io (cn RH (cn (mk (wr (.add UJ Qw))) Qe7)))
abbrev Qgn : T Lf := sp (.lt UJ YJ) (ou [Qgm, Qi, dK, eU, Qa, Qa, rU]) H9
abbrev Qgo : SB := .eq dK (.lit 17)
abbrev Qgp : T Lf := sp (.lt iL (wr (.sub Qa UJ))) H9 (sp (.lt (wr (.sub (.lit 1099511627776) UJ)) iL) H9 (ou [.op .set Dx (cn Io (cn RH (cn (mk (wr (.add UJ iL))) Qe7))), Qi, dK, eU, wr (.add UJ iL), Qa, rU]))
abbrev Qgq : SB := .eq dK (.lit 18)
abbrev Qgr : T Lf := sp (.lt Qa UJ) (ou [Qgf, Qi, dK, eU, wr (.sub UJ Qw), Qa, rU]) H9
abbrev Qgs : SB := .eq dK (.lit 19)
abbrev Qgt : T Lf := sp (.eq UJ Qa) Qft UW
abbrev Qgu : SB := .eq dK (.lit 22)
abbrev Qgv : T Lf := ou [Qe9, Qi, dK, eU, UJ, Qa, rU]
abbrev Qgw : SB := .eq dK (.lit 23)
abbrev Qgx : T Lf := ou [.op .set Dx (cn Io (cn RH (cn (mk iL) Qe7))), Qi, dK, eU, iL, Qa, rU]
abbrev Qgy : SB := .eq dK UK
abbrev Qgz : T Lf := sp (.lt (ln Qe5) YJ) (sp (.lt (ln Qe5) (.lit 17592186044415)) (ou [.op .set Dx (cn Io (cn RH (cn UY (cn YN (cn YL (cn RD (cn (.op .snoc Qe5 (mk iL)) rE))))))), Qi, dK, eU, iL, Qa, rU]) fl) UW
abbrev Qg0 : SB := .eq dK (.lit 21)
abbrev Qg1 : SE := .add Qw (.sub (ln Qe5) Qw)
abbrev Qg2 : T Lf := sp (.eq (ln Qe5) Qa) UW (sp (.lt (.sub (ln Qe5) Qw) Qa) fl (sp (.lt (ln Qe5) Qg1) fl (ou [.op .set Dx (cn Io (cn RH (cn UY (cn YN (cn YL (cn RD (cn (.op .drop (.op .take Qe5 Qg1) Qw) rE))))))), Qi, dK, eU, nm (el Qe5 Qa), Qa, rU])))
abbrev Qg3 : SB := .eq dK (.lit 12)
abbrev Qg4 : SB := .lt YJ Qa
abbrev Qg5 : SB := .lt YJ (ln Dx)
abbrev Qg6 : SB := .eq YJ eU
abbrev Qg7 : SE := .lit (-1)
abbrev YK : List SE := [RD, Qi, eU, YJ, Dx, dK, iL, lY, Qg7, UJ, Qe0, Qe2, Qe5]
abbrev Qg9 : T Lf := sp Qfz (ou [.op .set Dx (cn Io (cn Qea Qf0)), Qi, dK, eU, Qa, Qa, GI]) fl
abbrev Qha : SE := rr 12000 YK 14
abbrev Qhb : SE := rr 12000 YK 15
abbrev Qhc : SE := .add Qha Qw
abbrev Qhd : SE := .op .snoc rE Q8
abbrev Qhe : SE := .op .cat (.op .cat (.op .take Qhb Qha) Qhd) (.op .drop Qhb Qhc)
abbrev Qhf : SE := nm (ce 0 (el Dx YJ))
abbrev Qhg : SB := .eq Qhf Qi
abbrev Qhh : SE := .op .set Dx (cn (mk YJ) (.op .set (el Dx YJ) (cn rE Qea)))
abbrev YI : List SE := [RD, Qi, eU, YJ, Qhh, dK, iL, lY, Qew, UJ, Qe0, Qe2, Qe5]
abbrev Qhj : T Lf := sp Qfz (ou [.op .set Qhh (cn Io (cn RH Qf0)), Qi, dK, eU, Qa, Qa, GI]) fl
abbrev Qhk : SE := rr 12000 YI 14
abbrev Qhl : SE := rr 12000 YI 15
abbrev Qhm : SE := .add Qhk Qw
abbrev Qhn : SE := .op .cat (.op .cat (.op .take Qhl Qhk) Qhd) (.op .drop Qhl Qhm)
abbrev Qho : SE := .op .set Dx (cn Io (cn RH (cn UY (cn YN (cn YL (cn Qg Qe6))))))
abbrev Qhp : SE := .lit 4611686018427387904
abbrev Qhq : SE := .lit 16
abbrev Qhr : T Lf := sp (.eq dK (.lit 24)) (sp Qg4 fl (sp Qg5 (sp Qfh (sp Qfi (sp Qg6 Qfm (sp (.lt Qhf Qa) (ou [.op .set (.op .set Dx (cn (mk YJ) (.op .set (el Dx YJ) (cn rE Q8)))) Qe8, Qi, dK, eU, Qa, Qa, rU]) UW)) UW) fl) fl)) (sp (.eq dK (.lit 15)) (sp (.lt Qe2 Qhp) (sp (.eq (wr (.add UJ Qw)) YJ) (ou [.op .set Dx (cn Io (cn RH (cn rE (cn YN (cn (mk (wr (.add Qe2 Qw))) (cn RD Qe6)))))), Qi, dK, eU, Qe2, Qa, GI]) (ou [Qgm, Qi, dK, eU, Qe2, Qa, GI])) H9) (sp (.eq dK (.lit 25)) (sp (.lt iL Qe2) (ou [Qe9, Qi, dK, eU, iL, Qa, rU]) UW) (sp (.eq dK Qhq) (sp (.eq Qe0 Qa) (sp Qff H9 (sp Qfj Qfs UW)) Qft) (sp (.eq dK (.lit 26)) (sp Qff (ou [.op .set Dx (cn Io (cn Qea (cn UY (cn Qg (cn YL (cn RD Qe6)))))), Qi, dK, eU, Qa, Qa, rU]) H9) fl))))
abbrev Qhs : T Lf := sp (.eq dK (.lit 13)) (sp (.eq Rz Qa) Qft (sp (.lt (.sub Rz Qw) Qa) fl (sp (.lt Rz (.add Qw (.sub Rz Qw))) fl (ou [.op .set Dx (cn Io (cn RH (cn UY (cn YN (cn YL (cn (.op .drop (.op .take RD (.add Qw (.sub Rz Qw))) Qw) Qe6)))))), Qi, dK, eU, wr (.add (nm (el RD Qa)) Qw), Qa, rU])))) (sp (.eq dK (.lit 14)) (ou [Qho, Qi, dK, eU, Rz, Qa, rU]) Qhr)
abbrev Qht : T Lf := sp (.lt Qa YJ) (ou [.op .set Dx (cn Io (cn RH (cn UY (cn YN (cn YL (cn RD (cn (.op .snoc rE (mk iL)) rE))))))), Qi, dK, eU, iL, Qa, rU]) UW
abbrev Qhu : SE := rr 12100 YK 14
abbrev Qhv : SE := rr 12100 YK 15
abbrev Qhw : SE := .add Qhu Qw
abbrev Qhx : SE := .op .cat (.op .cat (.op .take Qhv Qhu) Qhd) (.op .drop Qhv Qhw)
abbrev Qhy : SE := rr 12100 YI 14
abbrev Qhz : SE := rr 12100 YI 15
abbrev Qh0 : SE := .add Qhy Qw
abbrev Qh1 : SE := .op .cat (.op .cat (.op .take Qhz Qhy) Qhd) (.op .drop Qhz Qh0)
abbrev Qh2 : SE := cn UY (cn YN (cn YL (cn Qhd Qe6)))
abbrev Qh3 : T Lf := sp Qff H9 (sp Qfh (sp Qfi (sp Qfj (ou [.op .set Dx (cn Io (cn RH Qh2)), Qi, dK, eU, Qa, Qa, rU]) UW) H9) fl)
abbrev Qh4 : T Lf := sp Qf3 (sp (.lt Qf4 Qa) H9 fl) fl
abbrev Qh5 : T Lf := ou [.op .set Dx (cn Io (cn Qea Qh2)), Qi, dK, eU, Qa, Qa, GI]
abbrev Qh6 : T Lf := ou [.op .set Qhh (cn Io (cn RH Qh2)), Qi, dK, eU, Qa, Qa, GI]
abbrev Qh7 : T Lf := sp (.eq dK (.lit 13)) Qft (sp (.eq dK (.lit 14)) (ou [Qho, Qi, dK, eU, Qa, Qa, rU]) Qhr)
def jU : T Lf := sp (.eq (a0 9000 Qel) Qw) (sp (.eq Qem Qa) (sp Qd6 Qer (sp Qes fl Qer)) (sp (.eq Qem Qw) (sp Qen (sp Qeo Qet (sp Qm Qet (sp Qn (sp Qd6 Qet Qet) Qet))) fl) (sp (.eq Qem rU) (sp Qen (sp Qeo Qeu (sp Qm Qeu (sp Qn (sp Qd6 Qeu Qeu) Qeu))) fl) (sp (.eq Qem GI) (sp Qen (sp Qeo Jb (sp Qm Jb (sp Qn (sp Qd6 Jb (sp Qes (sp Qfb (sp Qfc (sp Qfd (sp Qfe Qfn (sp Qfo Qfp (sp Qfq Qfp (sp Qfr Qfu (sp Qfv Qfw (sp Qfx Qf1 (sp Qf2 Qgb (sp Qgc Qgd (sp Qge Qgg (sp Qgh Qgi (sp Qgk Qgn (sp Qgo Qgp (sp Qgq Qgr (sp Qgs Qgt (sp Qgu Qgv (sp Qgw Qgx (sp Qgy Qgz (sp Qg0 Qg2 (sp Qg3 (sp Qg4 fl (sp Qg5 (sp Qg6 (sp Qff (sp (.eq (a0 12000 YK) Qw) (sp (.eq (rr 12000 YK 0) Qa) Qg9 (sp (.eq (rr 12000 YK 0) Qw) (sp (.lt Qha Qa) fl (sp (.lt (ln Qhb) Qhc) fl (sp (.lt Qhc Qa) fl (sp (.lt (ln Qhe) Qhc) fl (ou [.op .set Dx (cn Io (cn Qea (cn UY (cn YN (cn YL (cn (.op .take Qhe Qhc) Qe6)))))), Qi, dK, eU, Qa, Qa, GI]))))) fl)) fl) H9) (sp Qhg (sp (.eq (a0 12000 YI) Qw) (sp (.eq (rr 12000 YI 0) Qa) Qhj (sp (.eq (rr 12000 YI 0) Qw) (sp (.lt Qhk Qa) fl (sp (.lt (ln Qhl) Qhm) fl (sp (.lt Qhm Qa) fl (sp (.lt (ln Qhn) Qhm) fl (ou [.op .set Qhh (cn Io (cn RH (cn UY (cn YN (cn YL (cn (.op .take Qhn Qhm) Qe6)))))), Qi, dK, eU, Qa, Qa, GI]))))) fl)) fl) H9)) fl)) Qhs))))))))))))))))))) Jb) fl) fl) Jb)) Jb))) fl) (sp (.eq Qem ZX) (sp Qen (sp Qeo Jb (sp Qm Jb (sp Qn (sp Qd6 Jb (sp Qes (sp Qfb (sp Qfc (sp Qfd (sp Qfe Qfn (sp Qfo Qfp (sp Qfq Qfp (sp Qfr Qfu (sp Qfv Qfw (sp Qfx Qf1 (sp Qf2 Qgb (sp Qgc Qgd (sp Qge Qgg (sp Qgh Qgi (sp Qgk Qgn (sp Qgo Qgp (sp Qgq Qgr (sp Qgs Qgt (sp Qgu Qgv (sp Qgw Qgx (sp Qgy Qht (sp Qg0 UW (sp Qg3 (sp Qg4 fl (sp Qg5 (sp Qg6 (sp Qff (sp (.eq (a0 12100 YK) Qw) (sp (.eq (rr 12100 YK 0) Qa) Qg9 (sp (.eq (rr 12100 YK 0) Qw) (sp (.lt Qhu Qa) fl (sp (.lt (ln Qhv) Qhw) fl (sp (.lt Qhw Qa) fl (sp (.lt (ln Qhx) Qhw) fl (ou [.op .set Dx (cn Io (cn Qea (cn UY (cn YN (cn YL (cn (.op .take Qhx Qhw) Qe6)))))), Qi, dK, eU, Qa, Qa, GI]))))) fl)) fl) H9) (sp Qhg (sp (.eq (a0 12100 YI) Qw) (sp (.eq (rr 12100 YI 0) Qa) Qhj (sp (.eq (rr 12100 YI 0) Qw) (sp (.lt Qhy Qa) fl (sp (.lt (ln Qhz) Qh0) fl (sp (.lt Qh0 Qa) fl (sp (.lt (ln Qh1) Qh0) fl (ou [.op .set Qhh (cn Io (cn RH (cn UY (cn YN (cn YL (cn (.op .take Qh1 Qh0) Qe6)))))), Qi, dK, eU, Qa, Qa, GI]))))) fl)) fl) H9)) fl)) Qhs))))))))))))))))))) Jb) fl) fl) Jb)) Jb))) fl) (sp (.eq Qem Qca) (sp Qen (sp Qeo Jb (sp Qm Jb (sp Qn (sp Qd6 Jb (sp Qes (sp Qfb (sp Qfc (sp Qfd (sp Qfe Qfn (sp Qfo Qfp (sp Qfq Qfp (sp Qfr Qfu (sp Qfv Qfw (sp Qfx Qh3 (sp Qf2 Qh4 (sp Qgc Qfn (sp Qge Qgg (sp Qgh Qgi (sp Qgk Qgn (sp Qgo Qgp (sp Qgq Qgr (sp Qgs Qgt (sp Qgu Qgv (sp Qgw Qgx (sp Qgy Qgz (sp Qg0 Qg2 (sp Qg3 (sp Qg4 fl (sp Qg5 (sp Qg6 (sp Qff (sp (.eq (a0 12200 YK) Qw) (sp (.eq (rr 12200 YK 0) Qa) Qh5 fl) fl) H9) (sp Qhg (sp (.eq (a0 12200 YI) Qw) (sp (.eq (rr 12200 YI 0) Qa) Qh6 fl) fl) H9)) fl)) Qh7))))))))))))))))))) Jb) fl) fl) Jb)) Jb))) fl) (sp (.eq Qem YP) (sp Qen (sp Qeo Jb (sp Qm Jb (sp Qn (sp Qd6 Jb (sp Qes (sp Qfb (sp Qfc (sp Qfd (sp Qfe Qfn (sp Qfo Qfp (sp Qfq Qfp (sp Qfr Qfu (sp Qfv Qfw (sp Qfx Qh3 (sp Qf2 Qh4 (sp Qgc Qfn (sp Qge Qgg (sp Qgh Qgi (sp Qgk Qgn (sp Qgo Qgp (sp Qgq Qgr (sp Qgs Qgt (sp Qgu Qgv (sp Qgw Qgx (sp Qgy Qht (sp Qg0 UW (sp Qg3 (sp Qg4 fl (sp Qg5 (sp Qg6 (sp Qff (sp (.eq (a0 12300 YK) Qw) (sp (.eq (rr 12300 YK 0) Qa) Qh5 fl) fl) H9) (sp Qhg (sp (.eq (a0 12300 YI) Qw) (sp (.eq (rr 12300 YI 0) Qa) Qh6 fl) fl) H9)) fl)) Qh7))))))))))))))))))) Jb) fl) fl) Jb)) Jb))) fl) fl))))))) fl
abbrev Qh8 : T Lf := ju 451 [Qe, sS, Qa, Qb]
def apL : T Lf := sp (.lt (.lit 64) sS) Qh8 (sp (.lt Qhq Qc) Qh8 (ju 452 [Qe, sS, Qa, Qb]))
abbrev Qh9 : T Lf := ju 451 [Qe, Qb, Ip, Qi]
def aiX : T Lf := sp ZV (sp RF fl (sp YO Qh9 fl)) (ju 453 [Qi, Qc4, Qa, Qe])
abbrev Qia : List SE := [Qe, Qi, Qck, Qcl, Qcn, Qco, nm Qcp]
def aiW : T Lf := sp ZV (sp RF fl (sp YO (sp (.eq (a0 700 Qia) Qw) (sp (.eq (rr 700 Qia 0) Qa) Qh9 (ju 452 [Qe, Qb, Ip, Qi])) fl) fl)) (ju 454 [Qi, Qc4, Qa, Qe])
abbrev Qib : List SE := [Qa, Qe, Qb, Qk, Qi, ce 0 UZ, Qcl, ce 2 UZ]
def aiV : T Lf := sp ZV (sp RF fl (sp YO (ju 455 Qib) fl)) (ou [.lit 120])
def aiU : T Lf := sp ZV (sp RF fl (sp YO (sp (.lt (.lit 120) (ln Qcl)) (ju 455 Qib) (sp (.lt (.lit 4000) (ln (ce 2 UZ))) (ju 455 Qib) (ju 456 Qib))) fl)) dG
abbrev Qic : T Lf := ju 453 [Qb, Qk, Qx, dK]
def aiT : T Lf := sp (.lt Qe (ln lY)) Qic Qic
abbrev Qid : SE := el lY Qe
abbrev Qie : List SE := [dK, Qb, eU, iL, lY, nm (ce 0 Qid), nm (ce 1 Qid), nm (ce 2 Qid), nm (ce 3 Qid), nm (ce 4 Qid), nm (ce 5 Qid), ce 6 Qid]
abbrev Qif : SE := wr (.add Qe Qw)
abbrev Qig : List SE := [ce 6 Qid, eU, iL, lY]
abbrev Qih : List SE := [Qif, Qb, Qk, Qi, dK, rr 5000 Qig 0, rr 5000 Qig 1, rr 5000 Qig 2]
def aiS : T Lf := sp (.lt Qe (ln lY)) (sp (.lt Qe Qa) fl (sp (.eq (a0 750 Qie) Qw) (sp (.eq (rr 750 Qie 0) Qa) (ju 455 [Qif, Qb, Qk, Qi, dK, eU, iL, lY]) (sp (.eq (a0 5000 Qig) Qw) (sp (.eq (rr 5000 Qig 3) Qa) (ju 456 Qih) (ju 455 Qih)) fl)) fl)) (ju 454 [Qb, Qk, Qx, dK])
abbrev Qii : List SE := [Qe, Qb, Qk, Qi, dK]
abbrev Qij : SB := .lt oW Qa
abbrev Qik : SB := .lt Qa (ln vU)
abbrev Qil : SB := .eq Qe ZX
abbrev Qim : SB := .lt Qa (ln Ia)
abbrev Qin : SB := .eq lY Qa
abbrev Qio : T Lf := ju 501 [AB, vU, ln vU, Qa, Qe, Qb, Qk, Qi, dK, eU, iL, lY, oW, Ia, rE]
abbrev Qip : T Lf := sp (.lt Qa oW) dG Qio
abbrev Qiq : T Lf := sp Qim dG (sp Qin Qip dG)
abbrev Qir : SB := .eq Qe rU
abbrev Qis : SB := .eq Qe (.lit 8)
abbrev Qit : SB := .eq Qe Qca
abbrev Qiu : T Lf := sp (.lt eU Qg7) dG (sp (.lt eU AB) (sp Qij dG (sp (.lt Qhp oW) dG (sp Qd6 (sp Qik (sp Qil Qiq (sp Qir Qiq dG)) (sp Qim (sp Qis (sp Qin Qip dG) dG) (sp Qin (sp (.lt Qa oW) (sp Qit Qio dG) Qio) (sp (.eq Qe YP) Qip dG)))) (sp (.eq Qe Qw) (sp Qik dG Qiq) (sp Qir (sp Qik Qiq Qiq) (sp (.eq Qe YP) (sp Qik dG (sp Qim dG (sp Qin Qip Qip))) dG)))))) dG)
def aiR : T Lf := sp (.eq (a0 650 Qii) Qw) (sp (.eq (rr 650 Qii 1) Qa) Qiu (sp Qc3 dG (sp (.lt (rr 650 Qii 0) iL) dG Qiu))) fl
abbrev Qiv : SE := .op .norm (mk (nm Qo)) Qa
abbrev Qiw : T Lf := ju 501 [Qe, Qb, Qk, Qx, dK, eU, iL, lY, oW, vU, Ia, AB, UL, ZW, .op .Eb LU (cn Qiv Qg)]
abbrev Qix : SE := ln ZW
abbrev Qiy : T Lf := sp (.lt vU Qa) pF (sp Qc7 (sp (.eq AB Qa) pF dG) dG)
def abK : T Lf := sp Ql (sp Qm fl (sp Qn (sp (.lt (nm Qo) Qa) dG (sp (.lt (nm Qo) Qe) (sp (.eq (.op .JJ LU Qiv) Qa) Qiw (sp (.eq (nm (.op .JK LU Qiv)) Qw) dG Qiw)) dG)) fl)) (sp Qc3 (sp (.lt Qa Qix) dG Qiy) (sp (.lt iL Qix) dG Qiy))
def aaY : T Lf := sp (.lt Qa sS) (sp (.lt sS (.lit 1759218604441)) (ju 551 [Qe, sS, Qa]) fl) (sp (.eq (.op .norm Qe Qa) Qg) (ju 552 []) (sp (.eq (.op .norm Qe Qa) Qh) (ju 553 []) fl))
abbrev Qiz : SB := .lt Qa (ln ZU)
abbrev Qi0 : SB := .lt (ln ZU) Qr
abbrev ZT : SE := mk Qk
abbrev Qi2 : SE := .op .set Qe (cn ZT (.op .set UZ (cn Q9 Qcp)))
abbrev Qi3 : SE := .op .set Qe (cn ZT (.op .set UZ (cn Q9 Qg)))
abbrev Qi4 : SE := .op .set Qe (cn ZT (.op .set UZ (cn Q9 Qh)))
def aiQ : T Lf := sp ZV (sp RF fl (sp YO (sp (.lt Qa (ln Qcp)) (sp (.lt (ln Qcp) Qr) (sp Qiz (sp Qi0 (ju 551 [.op .set Qi2 (cn ZT (.op .set (el Qi2 Qk) (cn Qbb ZU))), Qb, Ip]) fl) (sp (.eq ZU Qg) (ju 551 [.op .set Qi2 (cn ZT (.op .set (el Qi2 Qk) Qbd)), Qb, Ip]) (sp (.eq ZU Qh) (ju 551 [.op .set Qi2 (cn ZT (.op .set (el Qi2 Qk) Qbf)), Qb, Ip]) fl))) fl) (sp (.eq Qcp Qg) (sp Qiz (sp Qi0 (ju 551 [.op .set Qi3 (cn ZT (.op .set (el Qi3 Qk) (cn Qbb ZU))), Qb, Ip]) fl) (sp (.eq ZU Qg) (ju 551 [.op .set Qi3 (cn ZT (.op .set (el Qi3 Qk) Qbd)), Qb, Ip]) (sp (.eq ZU Qh) (ju 551 [.op .set Qi3 (cn ZT (.op .set (el Qi3 Qk) Qbf)), Qb, Ip]) fl))) (sp (.eq Qcp Qh) (sp Qiz (sp Qi0 (ju 551 [.op .set Qi4 (cn ZT (.op .set (el Qi4 Qk) (cn Qbb ZU))), Qb, Ip]) fl) (sp (.eq ZU Qg) (ju 551 [.op .set Qi4 (cn ZT (.op .set (el Qi4 Qk) Qbd)), Qb, Ip]) (sp (.eq ZU Qh) (ju 551 [.op .set Qi4 (cn ZT (.op .set (el Qi4 Qk) Qbf)), Qb, Ip]) fl))) fl))) fl)) (ou [Qe])
def auT : T Lf := ou [Qg]
def auS : T Lf := ou [Qh]
abbrev Qi5 : SB := .eq Qe GI
abbrev Qi6 : T Lf := ou [rU]
abbrev Qi7 : T Lf := ou [ZX]
def aiP : T Lf := sp (.lt (wr Qe) (.lit 27)) (sp (.lt Qe Qa) fl (sp (.lt Qe (.lit 27)) (sp (.eq Qe Qa) dG (sp (.eq Qe Qw) pF (sp Qir pF (sp Qi5 pF (sp Qil pF (sp Qit Qi6 (sp (.eq Qe YP) Qi6 (sp (.eq Qe Qdn) Qi6 (sp Qis Qi6 (sp (.eq Qe Qed) (ou [GI]) (sp (.eq Qe Qgj) (ou [GI]) (sp (.eq Qe (.lit 11)) (ou [GI]) (sp (.eq Qe (.lit 12)) Qi7 (sp (.eq Qe (.lit 13)) Qi7 (sp (.eq Qe (.lit 14)) Qi7 (sp (.eq Qe (.lit 15)) (ou [Qca]) (sp (.eq Qe Qhq) (ou [YP]) (sp (.eq Qe (.lit 17)) (ou [Qdn]) (sp (.eq Qe (.lit 18)) (ou [Qdn]) (sp (.eq Qe (.lit 19)) (ou [Qdn]) (sp (.eq Qe UK) (ou [.lit 8]) (sp (.eq Qe (.lit 21)) (ou [.lit 8]) (sp (.eq Qe (.lit 22)) (ou [Qed]) (sp (.eq Qe (.lit 23)) (ou [Qed]) (sp (.eq Qe (.lit 24)) Qi7 (sp (.eq Qe (.lit 25)) (ou [Qca]) (ou [YP]))))))))))))))))))))))))))) fl)) dG
def aiO : T Lf := sp Qi5 (ou [Qk, Qw]) (sp Qit (ou [wr (.sub Qk Qw), Qw]) (sp (.eq Qe Qdn) (ou [.lit 1099511627776, Qw]) (sp (.eq Qe Qed) (ou [Qa, Qa]) (ou [Qa, Qw]))))
abbrev Qi8 : T Lf := sp (.eq dK Qa) pF dG
abbrev Qi9 : T Lf := sp Qdz dG (sp (.lt (.lit 1048576) dK) dG pF)
def apK : T Lf := sp (.eq Qk Qw) Qi8 (sp (.eq Qk rU) Qi8 (sp (.eq Qk YP) Qi8 (sp (.eq Qk Qdn) Qi8 (sp (.eq Qk GI) Qi9 (sp (.eq Qk (.lit 8)) Qi9 (sp (.eq Qk Qca) (sp Qdz dG (sp (.lt Qhq dK) dG pF)) (sp (.eq Qk ZX) (sp (.lt dK Qa) dG (sp (.lt dK sS) (sp (.eq (nm (ce 0 (el Qe dK))) Qw) pF dG) dG)) (sp (.eq Qk Qed) pF dG))))))))
abbrev Qja : SB := .lt lY Qa
abbrev Qjb : SB := .eq eU Qw
abbrev Qjc : SB := .eq eU rU
abbrev Qjd : SB := .eq eU GI
abbrev Qje : SB := .eq eU ZX
abbrev Qjf : SB := .eq eU Qca
abbrev Qjg : T Lf := sp (.eq eU YP) dG (sp (.eq eU Qdn) dG dG)
abbrev Qjh : T Lf := sp Qjd dG (sp Qje dG (sp Qjf dG Qjg))
abbrev Qji : SB := .lt lY sS
abbrev Qjj : SE := nm (ce 0 (el Qe lY))
abbrev Qjk : List SE := [Qjj, eU, iL, lY, oW, vU, Ia, AB, Qa]
abbrev Qjl : T Lf := sp (.eq iL Qhq) dG pF
abbrev Qjm : T Lf := sp (.eq (a0 950 Qjk) Qw) (sp (.eq (rr 950 Qjk 0) Qa) dG Qjl) fl
abbrev Qjn : T Lf := sp Qji (sp (.eq Qjj YP) pF dG) dG
abbrev Qjo : T Lf := sp (.eq (ln AB) Qw) pF dG
abbrev Qjp : T Lf := sp (.lt Qds vU) dG Qjo
abbrev Qjq : T Lf := sp (.lt Qds vU) dG pF
abbrev Qjr : T Lf := sp Qjd dG (sp Qje Qjp (sp Qjf Qjq Qjg))
abbrev Qjs : T Lf := sp (.eq iL Qhq) Qjq pF
abbrev Qjt : T Lf := sp (.eq (a0 950 Qjk) Qw) (sp (.eq (rr 950 Qjk 0) Qa) dG Qjs) fl
abbrev Qju : SB := .lt oW Qc4
abbrev Qjv : T Lf := sp Qjd (sp Qju Qjo dG) (sp Qje dG (sp Qjf dG (sp (.eq eU YP) (sp Qju pF dG) (sp (.eq eU Qdn) (sp Qju dG dG) dG))))
abbrev Qjw : List SE := [Qjj, eU, iL, lY, oW, vU, Ia, AB, Qw]
abbrev Qjx : T Lf := sp Qjd (sp Qju Qjo dG) (sp Qje Qjp (sp Qjf Qjq (sp (.eq eU YP) (sp Qju pF dG) (sp (.eq eU Qdn) (sp Qju Qjq dG) dG))))
def apJ : T Lf := sp Qij (sp (.lt vU Qa) (sp Qja (sp Qjb dG (sp Qjc dG Qjh)) (sp Qjb (sp Qji Qjm dG) (sp Qjc Qjn Qjh))) (sp Qja (sp Qjb dG (sp Qjc dG Qjr)) (sp Qjb (sp Qji Qjt dG) (sp Qjc Qjn Qjr)))) (sp (.lt vU Qa) (sp Qja (sp Qjb dG (sp Qjc dG Qjv)) (sp Qjb (sp Qji (sp Qju (sp (.eq (a0 950 Qjw) Qw) (sp (.eq (rr 950 Qjw 0) Qa) dG Qjl) fl) Qjm) dG) (sp Qjc Qjn Qjv))) (sp Qja (sp Qjb dG (sp Qjc dG Qjx)) (sp Qjb (sp Qji (sp Qju (sp (.eq (a0 950 Qjw) Qw) (sp (.eq (rr 950 Qjw 0) Qa) dG Qjs) fl) Qjt) dG) (sp Qjc Qjn Qjx))))
abbrev Qjy : List SE := [Qe, Qb, Qk, Qi, Qw, .lit 1000, dK]
def apI : T Lf := sp (.eq (a0 5050 Qjy) Qw) (sp (.eq (rr 5050 Qjy 2) Qa) dG pF) fl
def aiN : T Lf := ju 851 [Qe, Qb, sS, Qa]
def U5 : T Lf := sp Ql (sp Qm fl (sp (.lt Qi sS) (sp (.eq Qb (nm RI)) (ou [Qi]) (ju 851 Qd9)) fl)) (ou [Qg7])
def aiM : T Lf := sp (.eq (a0 850 U0) Qw) (sp (.lt (rr 850 U0 0) Qa) dG pF) fl
abbrev Qjz : List SE := [Qe, ln lY, Qb, Qk, Qi, dK, eU, iL, lY]
def apH : T Lf := sp (.eq oW Qa) (ju 951 Qjz) (ju 952 Qjz)
abbrev Qj0 : SE := cn Qg (cn rE (cn rE (cn Qg rE)))
abbrev Qj1 : List SE := [Qe, Qb, Qw, Qk, Qi, dK, eU, iL, lY, oW, .op .snoc rE Qj0]
abbrev Qj2 : List SE := [Qe, Qw, Qa, Qa, Qi, Qa, Qa]
abbrev Qj3 : SB := .eq (a0 1200 [Qi]) Qw
abbrev Qj4 : SB := .eq Qe (rr 1200 [Qi] 0)
abbrev Qj5 : List SE := [Qe, rE]
abbrev Qj6 : SB := .eq (a0 5150 Qj5) Qw
abbrev Qj7 : SB := .eq (rr 5150 Qj5 2) Qa
abbrev Qj8 : T Lf := sp (.eq Qi Qhq) pF pF
abbrev Qj9 : T Lf := sp Qj3 (sp Qj4 (sp Qj6 (sp Qj7 dG (sp (.lt UK (ln (rr 5150 Qj5 1))) dG Qj8)) fl) dG) fl
abbrev Qka : T Lf := sp (.eq (a0 12400 Qj2) Qw) (sp (.eq (rr 12400 Qj2 0) Qa) dG (sp (.eq (rr 12400 Qj2 0) Qw) Qj9 fl)) fl
abbrev Qkb : List SE := [Qa, Qa, Qe, Qa, Qa, Qa, Qi, Qa, Qa]
abbrev Qkc : SB := .eq (a0 5200 Qj5) Qw
abbrev Qkd : SB := .eq (rr 5200 Qj5 3) Qa
abbrev Qke : List SE := [Qe, Qa, Qa, Qa, Qi, Qa, Qa]
abbrev Qkf : T Lf := sp Qi5 Qka (sp Qis Qka (sp Qit Qka (sp Qil (sp (.eq (a0 12450 Qkb) Qw) (sp (.eq (rr 12450 Qkb 0) Qa) dG (sp (.eq (rr 12450 Qkb 0) Qw) (sp Qj3 (sp Qj4 (sp Qkc (sp Qkd dG (sp (.lt UK (ln (rr 5200 Qj5 2))) dG Qj8)) fl) dG) fl) fl)) fl) (sp (.eq (a0 12400 Qke) Qw) (sp (.eq (rr 12400 Qke 0) Qa) dG (sp (.eq (rr 12400 Qke 0) Qw) Qj9 fl)) fl))))
abbrev Qkg : SB := .eq (rr 12500 Qj2 0) Qa
abbrev Qkh : SB := .eq (rr 12500 Qj2 0) Qw
abbrev Qki : SE := .dat (.p (.i 97) (.i 0))
abbrev Qkj : SE := cn Qki Qg
abbrev Qkk : SB := .lt UK (ln (.op .Eb (rr 5150 Qj5 1) Qkj))
abbrev Qkl : T Lf := sp Qj3 (sp Qj4 (sp Qj6 (sp Qj7 dG (sp Qkk dG (sp (.eq Qi Qhq) dG dG))) fl) dG) fl
abbrev Qkm : T Lf := sp (.eq (a0 12500 Qj2) Qw) (sp Qkg dG (sp Qkh Qkl fl)) fl
abbrev Qkn : SB := .eq (rr 12550 Qkb 0) Qa
abbrev Qko : SB := .eq (rr 12550 Qkb 0) Qw
abbrev Qkp : SB := .lt UK (ln (.op .Eb (rr 5200 Qj5 2) Qkj))
abbrev Qkq : SB := .eq (rr 12500 Qke 0) Qa
abbrev Qkr : SB := .eq (rr 12500 Qke 0) Qw
def aiL : T Lf := sp (.lt Qa Qb) (ju 953 Qj1) (sp (.eq eU Qg7) Qkf (sp Qi5 Qkm (sp Qis Qkm (sp Qit Qkm (sp Qil (sp (.eq (a0 12550 Qkb) Qw) (sp Qkn dG (sp Qko (sp Qj3 (sp Qj4 (sp Qkc (sp Qkd dG (sp Qkp dG (sp (.eq Qi Qhq) dG dG))) fl) dG) fl) fl)) fl) (sp (.eq (a0 12500 Qke) Qw) (sp Qkq dG (sp Qkr Qkl fl)) fl))))))
abbrev Qks : T Lf := sp Qj3 (sp Qj4 (sp Qj6 (sp Qj7 dG (sp Qkk dG Qj8)) fl) dG) fl
abbrev Qkt : T Lf := sp (.eq (a0 12500 Qj2) Qw) (sp Qkg dG (sp Qkh Qks fl)) fl
def aiK : T Lf := sp (.lt Qa Qb) (ju 954 Qj1) (sp (.eq eU Qg7) Qkf (sp Qi5 Qkt (sp Qis Qkt (sp Qit Qkt (sp Qil (sp (.eq (a0 12550 Qkb) Qw) (sp Qkn dG (sp Qko (sp Qj3 (sp Qj4 (sp Qkc (sp Qkd dG (sp Qkp dG Qj8)) fl) dG) fl) fl)) fl) (sp (.eq (a0 12500 Qke) Qw) (sp Qkq dG (sp Qkr Qks fl)) fl))))))
abbrev Qku : SB := .lt (ln Ia) (.lit 2513169434915)
abbrev Qkv : List SE := [Qe, Qb, Ip, Qi, dK, eU, iL, lY, oW, vU, .op .snoc Ia Qj0]
abbrev Qkw : List SE := [Qe, Qw, Qa, Qa, dK, Qa, Ia, Qa]
abbrev Qkx : SB := .eq (a0 1200 [dK]) Qw
abbrev Qky : SB := .eq Qe (rr 1200 [dK] 0)
abbrev Qkz : List SE := [rr 12600 Qkw 9, rr 12600 Qkw 10, Qe, rE]
abbrev Qk0 : T Lf := sp (.eq dK Qhq) pF pF
abbrev Qk1 : T Lf := sp (.eq (a0 12600 Qkw) Qw) (sp (.eq (rr 12600 Qkw 0) Qa) dG (sp (.eq (rr 12600 Qkw 0) Qw) (sp Qkx (sp Qky (sp (.eq (a0 5300 Qkz) Qw) (sp (.eq (rr 5300 Qkz 3) Qa) dG (sp (.lt UK (ln (rr 5300 Qkz 2))) dG Qk0)) fl) dG) fl) fl)) fl
abbrev Qk2 : List SE := [Qa, Qa, Qe, Qa, Qa, Qa, dK, Qa, Ia, Qa]
abbrev Qk3 : List SE := [rr 12650 Qk2 11, rr 12650 Qk2 12, Qe, rE]
abbrev Qk4 : List SE := [Qe, Qa, Qa, Qa, dK, Qa, Ia, Qa]
abbrev Qk5 : List SE := [rr 12600 Qk4 9, rr 12600 Qk4 10, Qe, rE]
abbrev Qk6 : T Lf := sp Qi5 Qk1 (sp Qis Qk1 (sp Qit Qk1 (sp Qil (sp (.eq (a0 12650 Qk2) Qw) (sp (.eq (rr 12650 Qk2 0) Qa) dG (sp (.eq (rr 12650 Qk2 0) Qw) (sp Qkx (sp Qky (sp (.eq (a0 5350 Qk3) Qw) (sp (.eq (rr 5350 Qk3 4) Qa) dG (sp (.lt UK (ln (rr 5350 Qk3 3))) dG Qk0)) fl) dG) fl) fl)) fl) (sp (.eq (a0 12600 Qk4) Qw) (sp (.eq (rr 12600 Qk4 0) Qa) dG (sp (.eq (rr 12600 Qk4 0) Qw) (sp Qkx (sp Qky (sp (.eq (a0 5300 Qk5) Qw) (sp (.eq (rr 5300 Qk5 3) Qa) dG (sp (.lt UK (ln (rr 5300 Qk5 2))) dG Qk0)) fl) dG) fl) fl)) fl))))
abbrev Qk7 : SB := .eq (rr 12700 Qkw 0) Qa
abbrev Qk8 : SB := .eq (rr 12700 Qkw 0) Qw
abbrev Qk9 : List SE := [rr 12700 Qkw 9, rr 12700 Qkw 10, Qe, rE]
abbrev Qla : SB := .eq (rr 5300 Qk9 3) Qa
abbrev Qlb : SB := .lt UK (ln (.op .Eb (rr 5300 Qk9 2) Qkj))
abbrev Qlc : T Lf := sp (.eq dK Qhq) dG dG
abbrev Qld : T Lf := sp (.eq (a0 12700 Qkw) Qw) (sp Qk7 dG (sp Qk8 (sp Qkx (sp Qky (sp (.eq (a0 5300 Qk9) Qw) (sp Qla dG (sp Qlb dG Qlc)) fl) dG) fl) fl)) fl
abbrev Qle : SB := .eq (rr 12750 Qk2 0) Qa
abbrev Qlf : SB := .eq (rr 12750 Qk2 0) Qw
abbrev Qlg : List SE := [rr 12750 Qk2 11, rr 12750 Qk2 12, Qe, rE]
abbrev Qlh : SB := .eq (rr 5350 Qlg 4) Qa
abbrev Qli : SB := .lt UK (ln (.op .Eb (rr 5350 Qlg 3) Qkj))
abbrev Qlj : SB := .eq (rr 12700 Qk4 0) Qa
abbrev Qlk : SB := .eq (rr 12700 Qk4 0) Qw
abbrev Qll : List SE := [rr 12700 Qk4 9, rr 12700 Qk4 10, Qe, rE]
abbrev Qlm : SB := .eq (rr 5300 Qll 3) Qa
abbrev Qln : SB := .lt UK (ln (.op .Eb (rr 5300 Qll 2) Qkj))
def sV : T Lf := sp ZV (sp Qku (ju 953 Qkv) fl) (sp (.eq iL Qg7) Qk6 (sp Qi5 Qld (sp Qis Qld (sp Qit Qld (sp Qil (sp (.eq (a0 12750 Qk2) Qw) (sp Qle dG (sp Qlf (sp Qkx (sp Qky (sp (.eq (a0 5350 Qlg) Qw) (sp Qlh dG (sp Qli dG Qlc)) fl) dG) fl) fl)) fl) (sp (.eq (a0 12700 Qk4) Qw) (sp Qlj dG (sp Qlk (sp Qkx (sp Qky (sp (.eq (a0 5300 Qll) Qw) (sp Qlm dG (sp Qln dG Qlc)) fl) dG) fl) fl)) fl))))))
abbrev Qlo : T Lf := sp (.eq (a0 12700 Qkw) Qw) (sp Qk7 dG (sp Qk8 (sp Qkx (sp Qky (sp (.eq (a0 5300 Qk9) Qw) (sp Qla dG (sp Qlb dG Qk0)) fl) dG) fl) fl)) fl
def sU : T Lf := sp ZV (sp Qku (ju 954 Qkv) fl) (sp (.eq iL Qg7) Qk6 (sp Qi5 Qlo (sp Qis Qlo (sp Qit Qlo (sp Qil (sp (.eq (a0 12750 Qk2) Qw) (sp Qle dG (sp Qlf (sp Qkx (sp Qky (sp (.eq (a0 5350 Qlg) Qw) (sp Qlh dG (sp Qli dG Qk0)) fl) dG) fl) fl)) fl) (sp (.eq (a0 12700 Qk4) Qw) (sp Qlj dG (sp Qlk (sp Qkx (sp Qky (sp (.eq (a0 5300 Qll) Qw) (sp Qlm dG (sp Qln dG Qk0)) fl) dG) fl) fl)) fl))))))
def abV : T Lf := sp (.eq (a0 1050 [Qe, Qa]) Qw) (sp (.eq (rr 1050 [Qe, Qa] 6) Qa) (sp (.eq (rr 1050 [Qe, Qa] 0) rU) (sp (.eq (wr (.sub (rr 1050 [Qe, Qa] 5) (rr 1050 [Qe, Qa] 4))) sS) pF dG) dG) dG) fl
abbrev Qlp : T Lf := ou [Qa, rE, Qa, Qa, Qa, Qa, rU, Qa]
abbrev Xa : SE := rr 12800 U0 3
abbrev Qlr : SE := wr (.add (.op .cnt (.op .sub Qe (cn rE (cn (mk Xa) rE))) Qgj) Qw)
abbrev Qls : SE := rr 12850 [Qe, Xa] 3
abbrev Qlt : SE := .op .sub Qe (cn (mk Xa) (cn (mk Qls) rE))
abbrev Qlu : SE := nm (el Qlt Qa)
abbrev Qlv : SE := .lit 256
abbrev Qlw : SE := nm (el (.dat b0) Qlu)
abbrev Qlx : T Lf := ou [Qa, rE, Qa, Qa, Qa, Qa, .lit 100, Qlr]
abbrev Qly : SE := .dat (.p (.i 32) (.i 0))
abbrev Qlz : SB := .eq (.op .norm Qlt Qa) (.dat (.p (.i 61) (.i 0)))
def Sj : T Lf := sp (.lt (.lit 16384) sS) (ou [Qa, rE, Qa, Qa, Qa, Qa, GI, Qa]) (sp Qdt Qlp (sp (.lt sS Qb) Qlp (sp (.eq (a0 12800 U0) Qw) (sp (.eq (rr 12800 U0 0) Qa) (sp (.lt Xa Qa) fl (sp (.lt sS Xa) fl (sp (.eq Xa sS) (ou [Qca, rE, Qa, Qlr, Xa, Xa, Qa, Qa]) (sp (.eq (a0 12850 [Qe, Xa]) Qw) (sp (.eq (rr 12850 [Qe, Xa] 0) Qa) (sp (.lt Qls Xa) fl (sp (.lt sS Qls) fl (sp (.lt Qa (ln Qlt)) (sp (.lt Qlu Qa) fl (sp (.lt Qlu Qlv) (sp (.eq Qlw GI) (sp (.eq (a0 1100 [Qlt]) Qw) (sp (.eq (rr 1100 [Qlt] 1) Qa) Qlx (ou [Qw, rE, rr 1100 [Qlt] 0, Qlr, Xa, Qls, Qa, Qa])) fl) (sp (.eq Qlw ZX) (sp (.lt (ln Qlt) (.lit 1000000000)) (sp (.lt (ln (.op .cat Qly Qlt)) (.lit 1000000000)) (sp (.eq (.op .con (.dat b1) (.op .cat (.op .cat Qly Qlt) Qly)) Qa) (sp Qlz Qlx (ou [rU, Qlt, Qa, Qlr, Xa, Qls, Qa, Qa])) (sp Qlz Qlx (ou [GI, Qlt, Qa, Qlr, Xa, Qls, Qa, Qa]))) fl) fl) (sp (.eq Qlw Qca) (sp Qlz Qlx (ou [ZX, Qlt, Qa, Qlr, Xa, Qls, Qa, Qa])) Qlx))) fl)) fl))) fl) fl)))) fl) fl)))
def abU : T Lf := sp (.eq sS Qa) (ju 1101 []) (ju 1102 [Qa, Qe, sS, Qa])
def anC : T Lf := ou [Qa, Qw]
abbrev Ql0 : SE := wr (.wrap .u8 (.sub (nm Qo) (.lit 48)))
def Xw : T Lf := sp Ql (sp Qm fl (sp Qn (sp (.lt (wr (.quo (wr (.sub (.lit 9223372036854775807) Ql0)) Qgj)) Qe) (ou [Qa, Qa]) (ju 1102 [wr (.add (wr (.mul Qe Qgj)) Ql0), Qb, Qk, Qx])) fl)) (ou [Qe, Qw])
abbrev Ql1 : SB := .eq (rr 1000 [Qb] 0) Qa
abbrev Ql2 : SE := wr (.sub Qc4 Qw)
abbrev Ql3 : SE := .dat (.p (.i 45) (.i 0))
abbrev Ql4 : SE := .dat (.p (.i 43) (.i 0))
abbrev Ql5 : SE := .dat (.p (.i 42) (.i 0))
abbrev Ql6 : SE := .dat (.p (.i 61) (.p (.i 61) (.i 0)))
abbrev Ql7 : SE := .dat (.p (.i 60) (.i 0))
def MI : T Lf := sp (.eq Qe Qw) (sp RF dG (sp (.eq Qf rE) (sp (.eq Qc4 Qa) pF dG) dG)) (sp Qir (sp (.eq Qk Qa) (sp (.eq Qc4 Qa) (sp (.eq (a0 1000 [Qb]) Qw) (sp Ql1 dG pF) fl) dG) dG) (sp Qi5 (sp (.eq Qk Qa) (sp (.lt Qc4 Qw) dG (sp (.lt rU Qc4) dG (sp (.lt Ql2 Qa) fl (sp (.lt Ql2 rU) (sp (.eq Ql2 Qa) (sp (.eq Qf Ql3) pF dG) (sp (.eq Qf Ql4) pF (sp (.eq Qf Ql3) pF (sp (.eq Qf Ql5) pF (sp (.eq Qf Ql6) pF (sp (.eq Qf Ql7) pF dG)))))) fl)))) dG) dG))
def abT : T Lf := sp (.lt ZX Qe) (sp (.lt (.lit 8) Qe) (sp (.lt (.lit 11) Qe) (sp (.lt (.lit 14) Qe) (sp (.eq Qe (.lit 15)) (ou [Qca]) (sp (.eq Qe Qhq) (ou [YP]) (sp (.lt (.lit 19) Qe) (sp (.lt (.lit 21) Qe) (ou [Qed]) (ou [.lit 8])) (ou [Qdn])))) Qi7) (ou [GI])) Qi6) pF
def abS : T Lf := sp Qil pF (sp (.eq Qe (.lit 17)) pF (sp (.eq Qe UK) pF (sp (.eq Qe (.lit 23)) pF dG)))
def abR : T Lf := sp Qi5 pF (sp Qil pF (sp (.eq Qe (.lit 11)) pF (sp (.eq Qe (.lit 21)) pF (sp (.eq Qe (.lit 22)) pF dG))))
def abQ : T Lf := sp Qi5 pF (sp Qit pF (sp Qis pF (sp (.eq Qe Qed) pF dG)))
abbrev Ql8 : T Lf := sp Qil (sp (.eq (a0 1000 [Qi]) Qw) (sp (.eq (rr 1000 [Qi] 0) Qa) dG pF) fl) (sp (.eq (.op .norm Qi Qa) rE) pF dG)
def Xv : T Lf := sp (.lt Qe Qw) dG (sp (.lt Qed Qe) dG (sp (.eq (a0 1000 [Qb]) Qw) (sp Ql1 dG (sp RF dG (sp (.lt Qa Qk) (sp (.eq (a0 1350 [Qe]) Qw) (sp (.eq (rr 1350 [Qe] 0) Qa) dG Ql8) fl) Ql8))) fl))
abbrev Ql9 : List SE := [Qe, Qb, Qk, Qi]
def abL : T Lf := sp (.eq (a0 5400 Ql9) Qw) (sp (.lt (rr 5400 Ql9 3) Qa) (ou [rr 5400 Ql9 0, rr 5400 Ql9 1, rr 5400 Ql9 2, Qa]) (ou [rr 5400 Ql9 0, rr 5400 Ql9 1, rr 5400 Ql9 2, Qw])) fl
abbrev Qma : SE := wr (.sub eU Qw)
def abJ : T Lf := sp (.lt Qma Qa) (ou [Qma, iL, Qa]) (sp (.lt UK dK) (ou [Qma, iL, Qa]) (ju 5051 [dK, Qi, Qc4, Qa, Qma, iL, Qe, Qb, Qk]))
abbrev Qmb : List SE := [Qd3, ce 1 Qo, Qd5, ce 3 Qo, Qif, dK, eU]
abbrev Qmc : SE := .op .norm lY Qa
abbrev Qmd : T Lf := ou [dK, eU, Qa]
abbrev Qme : T Lf := ou [dK, eU, Qw]
def Xu : T Lf := sp Ql (sp Qm fl (sp Qn (sp (.eq (a0 5050 Qmb) Qw) (sp (.eq (rr 5050 Qmb 2) Qa) (ou [rr 5050 Qmb 0, rr 5050 Qmb 1, Qa]) (ju 5051 [Qe, Qb, Qk, Qx, rr 5050 Qmb 0, rr 5050 Qmb 1, iL, lY, oW])) fl) fl)) (sp (.eq iL Qw) (sp Qc7 (sp (.eq Qmc rE) (sp Qij Qmd Qme) Qmd) Qmd) (sp (.eq iL rU) (sp Qc7 (sp Qij Qmd (sp (.lt oW eU) (sp (.eq (a0 12900 [lY, Qa]) Qw) (sp (.eq (rr 12900 [lY, Qa] 0) Qa) Qmd (sp (.eq (rr 12900 [lY, Qa] 0) Qw) Qme fl)) fl) Qmd)) Qmd) (sp (.eq iL GI) (sp (.eq oW Qa) (sp (.eq Qc Qw) (sp (.eq Qmc Ql3) Qme Qmd) (sp (.eq Qc rU) (sp (.eq Qmc Ql4) Qme (sp (.eq Qmc Ql3) Qme (sp (.eq Qmc Ql5) Qme (sp (.eq Qmc Ql6) Qme (sp (.eq Qmc Ql7) Qme Qmd))))) Qmd)) Qmd) Qmd)))
def abI : T Lf := ju 5101 U0
def anB : T Lf := ou [Qb]
def abH : T Lf := ju 5151 U0
def anA : T Lf := ou [Qe, Qb, Qw]
def abG : T Lf := ju 5201 U0
def amZ : T Lf := ou [Qw, Qe, Qb, Qw]
def abE : T Lf := ju 5251 [Qb, Qe, sS, Qa, Qk]
abbrev Qmf : SB := .lt (.lit 1000) (wr (.add dK Qw))
abbrev Qmg : SB := .eq (a0 1150 [Qd3, ce 1 Qo, Qd5, ce 3 Qo]) Qw
abbrev Qmh : SB := .eq (rr 1150 [Qd3, ce 1 Qo, Qd5, ce 3 Qo] 0) Qa
abbrev Qmi : List SE := [ce 3 Qo, Qif, wr (.add dK Qw)]
abbrev Qmj : List SE := [Qe, Qb, Qk, Qx, rr 5450 Qmi 0]
def Xt : T Lf := sp Ql (sp Qm fl (sp Qn (sp Qmf fl (sp (.lt UK Qe) fl (sp Qmg (sp Qmh fl (sp (.eq (a0 5450 Qmi) Qw) (ju 5251 Qmj) fl)) fl))) fl)) (ou [dK, Qb])
def abD : T Lf := ju 5301 [Qe, Qa, Qb, Qk, Qi]
abbrev Qmk : SB := .eq (nm (ce 0 (el Qk Qb))) rU
abbrev Qml : SE := ce 1 (el Qk Qb)
abbrev Qmm : List SE := [ce 3 (el Qk Qb), Qi, dK]
abbrev Qmn : T Lf := sp (.eq (a0 5500 Qmm) Qw) (sp (.eq (rr 5500 Qmm 2) Qa) (ou [Qk, rr 5500 Qmm 0, rr 5500 Qmm 1, Qa]) (ju 5301 [Qe, Qdu, Qk, rr 5500 Qmm 0, rr 5500 Qmm 1])) fl
def Xr : T Lf := sp (.lt Qb Qe) (sp Qdt fl (sp (.lt Qb (ln Qk)) (sp Qmk (sp (.eq (.op .JJ dK Qml) Qa) (ou [Qk, Qi, dK, Qa]) (sp (.eq (nm (.op .JK dK Qml)) Qa) (ou [Qk, Qi, dK, Qa]) Qmn)) Qmn) fl)) (ou [Qk, Qi, dK, Qw])
def abC : T Lf := ju 5351 [Qe, Qa, Qb, Qw, Qk, Qi]
abbrev Qmo : T Lf := ou [Qk, Qi, dK, eU, Qa]
abbrev Qmp : List SE := [ce 3 (el Qk Qb), Qi, dK, eU]
abbrev Qmq : T Lf := sp (.eq (a0 5600 Qmp) Qw) (sp (.eq (rr 5600 Qmp 3) Qa) (ou [Qk, rr 5600 Qmp 0, rr 5600 Qmp 1, rr 5600 Qmp 2, Qa]) (ju 5351 [Qe, Qdu, Qk, rr 5600 Qmp 0, rr 5600 Qmp 1, rr 5600 Qmp 2])) fl
def Xq : T Lf := sp (.lt Qb Qe) (sp Qdt fl (sp (.lt Qb (ln Qk)) (sp Qmk (sp (.eq (.op .JJ eU Qml) Qa) Qmo (sp (.eq (nm (.op .JK eU Qml)) Qa) Qmo Qmq)) Qmq) fl)) (ou [Qk, Qi, dK, eU, Qw])
def abB : T Lf := ju 5401 [Qe, sS, Qa, Qb, Qk, Qi]
def Xp : T Lf := sp ZV (sp RF fl (sp YO (sp (.eq (a0 800 [Qck, Qcl, Qcn, Qco, Qds]) Qw) (sp (.eq (rr 800 [Qck, Qcl, Qcn, Qco, Qds] 0) Qa) (ou [Qi, dK, eU, Qk]) (ju 5401 [Qe, Qb, Ip, Qi, dK, eU])) fl) fl)) (ou [Qi, dK, eU, Qg7])
def abA : T Lf := ju 5451 [Qb, Qe, sS, Qa, Qk]
def aaZ : T Lf := sp Ql (sp Qm fl (sp Qn (sp Qmf fl (sp (.lt UK Qe) fl (sp Qmg (sp Qmh fl (sp (.eq (a0 5450 Qmi) Qw) (ju 5451 Qmj) fl)) fl))) fl)) (ou [dK])
def aaX : T Lf := ju 5501 [Qe, sS, Qa, Qb, Qk]
abbrev Qmr : List SE := [Qco, Qi, dK]
abbrev Qms : T Lf := sp (.eq (a0 5500 Qmr) Qw) (sp (.eq (rr 5500 Qmr 2) Qa) (ou [rr 5500 Qmr 0, rr 5500 Qmr 1, Qa]) (ju 5501 [Qe, Qb, Ip, rr 5500 Qmr 0, rr 5500 Qmr 1])) fl
def aaW : T Lf := sp ZV (sp RF fl (sp YO (sp (.eq Qck rU) (sp (.eq (.op .JJ dK Qcl) Qa) (ou [Qi, dK, Qa]) (sp (.eq (nm (.op .JK dK Qcl)) Qa) (ou [Qi, dK, Qa]) Qms)) Qms) fl)) (ou [Qi, dK, Qw])
def amY : T Lf := ju 5551 [Qe, sS, Qa, Qw, Qb, Qk]
abbrev Qmt : SB := .eq (.op .JJ eU Qcl) Qa
abbrev Qmu : T Lf := ou [Qi, dK, eU, Qa]
abbrev Qmv : SB := .eq (nm (.op .JK eU Qcl)) Qa
abbrev Qmw : List SE := [Qco, Qi, dK, eU]
abbrev Qmx : SB := .eq (rr 5600 Qmw 3) Qa
abbrev Qmy : T Lf := ou [rr 5600 Qmw 0, rr 5600 Qmw 1, rr 5600 Qmw 2, Qa]
abbrev Qmz : List SE := [Qe, Qb, Ip, rr 5600 Qmw 0, rr 5600 Qmw 1, rr 5600 Qmw 2]
abbrev Qm0 : T Lf := sp (.eq (a0 5600 Qmw) Qw) (sp Qmx Qmy (ju 5551 Qmz)) fl
def amX : T Lf := sp ZV (sp RF fl (sp YO (sp (.eq Qck rU) (sp Qmt Qmu (sp Qmv Qmu Qm0)) Qm0) fl)) (ou [Qi, dK, eU, Qw])
def aaV : T Lf := ju 5601 [Qe, sS, Qa, Qb, Qk, Qi]
abbrev Qm1 : T Lf := sp (.eq (a0 5600 Qmw) Qw) (sp Qmx Qmy (ju 5601 Qmz)) fl
def aaU : T Lf := sp ZV (sp RF fl (sp YO (sp (.eq Qck rU) (sp Qmt Qmu (sp Qmv Qmu Qm1)) Qm1) fl)) (ou [Qi, dK, eU, Qw])
abbrev Qm2 : List SE := [Qe, Qb, Qk, Qi, dK, eU, iL, lY, oW, vU, Ia, AB, UL]
abbrev Qm3 : SE := rr 12050 Qm2 14
abbrev Qm4 : T Lf := ou [Qa, Qe, Qb, Qk, Qi, dK, eU, iL, lY, oW, vU, Ia, AB, UL]
def O7 : T Lf := sp (.eq (a0 12050 Qm2) Qw) (sp (.eq (rr 12050 Qm2 0) Qa) (sp (.eq Qm3 Qg7) Qm4 (ju 12001 [Qe, Qb, Qk, Qi, dK, eU, iL, lY, oW, vU, Ia, AB, UL, Qe, Qm3, wr (.add Qm3 Qw)])) fl) fl
abbrev Qm5 : SB := .eq (nm (el ZW Qd8)) Qb
abbrev Qm6 : List SE := [Qe, Qb, Qk, Qi, dK, eU, iL, lY, oW, vU, Ia, AB, UL, ZW, LU, wr (.add Qd8 Qw)]
abbrev Qm7 : SB := .lt LU Qa
abbrev Qm8 : List SE := [Qe, Qb, Qk, Qi, dK, eU, iL, lY, oW, vU, Ia, AB, UL, .op .set ZW (cn (mk LU) (mk (nm (el ZW Qd8)))), wr (.add LU Qw), wr (.add Qd8 Qw)]
abbrev Qm9 : T Lf := sp Qm7 fl (sp (.lt Qix LU) fl (sp (.lt (.sub Qix LU) Qa) fl (sp (.eq (.add LU (.sub Qix LU)) Qix) (ou [Qw, Qe, Qb, Qk, Qi, dK, eU, iL, lY, oW, vU, Ia, AB, UL, LU, .op .fill ZW (cn (mk LU) rE), Qix]) fl)))
def Ji : T Lf := sp (.lt Qd8 Qix) (sp (.lt Qd8 Qa) fl (sp Qm5 (ju 12001 Qm6) (sp Qm7 fl (sp (.lt LU Qix) (ju 12001 Qm8) fl)))) Qm9
abbrev Qna : List SE := [Qe, Qb, Qk, Qi, dK, eU, iL, lY, oW, vU, Ia, AB, UL, sS, Qa]
def Vp : T Lf := ju 12051 Qna
abbrev Qnb : SB := .eq (nm (el Qe LU)) Qb
abbrev Qnc : T Lf := ou [Qa, Qe, Qb, Qk, Qi, dK, eU, iL, lY, oW, vU, Ia, AB, UL, LU]
abbrev Qnd : List SE := [Qe, Qb, Qk, Qi, dK, eU, iL, lY, oW, vU, Ia, AB, UL, ZW, wr (.add LU Qw)]
abbrev Qne : T Lf := ou [Qa, Qe, Qb, Qk, Qi, dK, eU, iL, lY, oW, vU, Ia, AB, UL, Qg7]
def Jh : T Lf := sp (.lt LU ZW) (sp Qm7 fl (sp (.lt LU sS) (sp Qnb Qnc (ju 12051 Qnd)) fl)) Qne
abbrev Qnf : SE := rr 12150 Qm2 14
def O6 : T Lf := sp (.eq (a0 12150 Qm2) Qw) (sp (.eq (rr 12150 Qm2 0) Qa) (sp (.eq Qnf Qg7) Qm4 (ju 12101 [Qe, Qb, Qk, Qi, dK, eU, iL, lY, oW, vU, Ia, AB, UL, Qe, Qnf, wr (.add Qnf Qw)])) fl) fl
def Jg : T Lf := sp (.lt Qd8 Qix) (sp (.lt Qd8 Qa) fl (sp Qm5 (ju 12101 Qm6) (sp Qm7 fl (sp (.lt LU Qix) (ju 12101 Qm8) fl)))) Qm9
def Vo : T Lf := ju 12151 Qna
def Jf : T Lf := sp (.lt LU ZW) (sp Qm7 fl (sp (.lt LU sS) (sp Qnb Qnc (ju 12151 Qnd)) fl)) Qne
def Vm : T Lf := sp (.eq (a0 12250 Qm2) Qw) (sp (.eq (rr 12250 Qm2 0) Qa) Qm4 fl) fl
def Vl : T Lf := ju 12251 Qm2
def Vk : T Lf := ou [Qa, Qe, Qb, Qk, Qi, dK, eU, iL, lY, oW, vU, Ia, AB, UL]
def Vj : T Lf := sp (.eq (a0 12350 Qm2) Qw) (sp (.eq (rr 12350 Qm2 0) Qa) Qm4 fl) fl
def Vh : T Lf := ju 12351 Qm2
def Vg : T Lf := ou [Qa, Qe, Qb, Qk, Qi, dK, eU, iL, lY, oW, vU, Ia, AB, UL]
abbrev Qng : SB := .eq (a0 1400 [Qe, Qki, Qb, rE, Qk]) Qw
abbrev Qnh : SB := .eq (rr 1400 [Qe, Qki, Qb, rE, Qk] 0) Qa
abbrev Z8 : T Lf := ou [Qa, Qe, Qb, Qk, Qi, dK, eU, iL]
abbrev Qnj : SB := .lt (.lit 23) dK
abbrev Qnk : SB := .eq eU Qa
abbrev Qnl : SB := .eq (a0 1250 [dK]) Qw
abbrev Qnm : SB := .eq (rr 1250 [dK] 0) Qa
abbrev Qnn : SB := .eq (a0 1300 [dK]) Qw
abbrev Qno : SB := .eq (rr 1300 [dK] 0) Qa
abbrev Qnp : SB := .eq (a0 5100 [rU, Qw]) Qw
abbrev Qnq : T Lf := sp Qnp (ou [Qw, Qe, Qb, Qk, Qi, dK, eU, iL]) fl
abbrev Qnr : SB := .eq (a0 1000 [rE]) Qw
abbrev Qns : SB := .eq (rr 1000 [rE] 0) Qa
def Vf : T Lf := sp Qng (sp Qnh Z8 (sp Qdz Z8 (sp Qnj Z8 (sp Qnk (sp Qnl (sp Qnm (sp Qnn (sp Qno Qnq (sp Qnr (sp Qns Z8 Qnq) fl)) fl) Z8) fl) Z8)))) fl
abbrev Qnt : SE := .dat (.p (.i 98) (.i 0))
abbrev Qnu : SB := .eq (a0 1400 [Qw, Qnt, Qe, rE, Qb]) Qw
abbrev Qnv : SB := .eq (rr 1400 [Qw, Qnt, Qe, rE, Qb] 0) Qa
abbrev YF : T Lf := ou [Qa, Qe, Qb, Qk, Qi, dK, eU, iL, lY, oW]
abbrev Qnx : SB := .eq (a0 1400 [Qk, Qki, Qi, Qnt, dK]) Qw
abbrev Qny : SB := .eq (rr 1400 [Qk, Qki, Qi, Qnt, dK] 0) Qa
abbrev Qnz : SB := .lt iL Qw
abbrev Qn0 : SB := .lt (.lit 23) iL
abbrev Qn1 : SB := .eq (a0 1250 [iL]) Qw
abbrev Qn2 : SB := .eq (rr 1250 [iL] 0) Qa
abbrev Qn3 : SB := .eq (a0 1300 [iL]) Qw
abbrev Qn4 : SB := .eq (rr 1300 [iL] 0) Qa
abbrev Qn5 : T Lf := sp Qnp (ou [Qw, Qe, Qb, Qk, Qi, dK, eU, iL, lY, oW]) fl
def Ve : T Lf := sp Qnu (sp Qnv YF (sp Qnx (sp Qny YF (sp Qnz YF (sp Qn0 YF (sp Qin (sp Qn1 (sp Qn2 (sp Qn3 (sp Qn4 Qn5 (sp Qnr (sp Qns YF Qn5) fl)) fl) YF) fl) YF)))) fl)) fl
def Vd : T Lf := sp Qng (sp Qnh Z8 (sp Qdz Z8 (sp Qnj Z8 (sp Qnk (sp Qnl (sp Qnm (sp Qnn (sp Qno Z8 Qnq) fl) Z8) fl) Z8)))) fl
def Vb : T Lf := sp Qnu (sp Qnv YF (sp Qnx (sp Qny YF (sp Qnz YF (sp Qn0 YF (sp Qin (sp Qn1 (sp Qn2 (sp Qn3 (sp Qn4 YF Qn5) fl) YF) fl) YF)))) fl)) fl
abbrev Z9 : T Lf := ou [Qa, Qe, Qb, Qk, Qi, dK, eU, iL, lY]
abbrev Qn7 : SB := .eq (ln iL) (rr 1250 [dK] 0)
abbrev Qn8 : T Lf := sp (.eq (a0 5250 [iL, rU, Qw]) Qw) (ou [Qw, Qe, Qb, Qk, Qi, dK, eU, iL, lY, ln iL, rr 5250 [iL, rU, Qw] 1]) fl
def O5 : T Lf := sp Qng (sp Qnh Z9 (sp Qdz Z9 (sp Qnj Z9 (sp Qnk (sp Qnl (sp Qn7 (sp Qnn (sp Qno Qn8 (sp Qnr (sp Qns Z9 Qn8) fl)) fl) Z9) fl) Z9)))) fl
abbrev YH : T Lf := ou [Qa, Qe, Qb, Qk, Qi, dK, eU, iL, lY, oW, vU]
abbrev Qoa : SB := .eq (ln oW) (rr 1250 [iL] 0)
abbrev Qob : T Lf := sp (.eq (a0 5250 [oW, rU, Qw]) Qw) (ou [Qw, Qe, Qb, Qk, Qi, dK, eU, iL, lY, oW, vU, ln oW, rr 5250 [oW, rU, Qw] 1]) fl
def O4 : T Lf := sp Qnu (sp Qnv YH (sp Qnx (sp Qny YH (sp Qnz YH (sp Qn0 YH (sp Qin (sp Qn1 (sp Qoa (sp Qn3 (sp Qn4 Qob (sp Qnr (sp Qns YH Qob) fl)) fl) YH) fl) YH)))) fl)) fl
def O1 : T Lf := sp Qng (sp Qnh Z9 (sp Qdz Z9 (sp Qnj Z9 (sp Qnk (sp Qnl (sp Qn7 (sp Qnn (sp Qno Z9 Qn8) fl) Z9) fl) Z9)))) fl
def OZ : T Lf := sp Qnu (sp Qnv YH (sp Qnx (sp Qny YH (sp Qnz YH (sp Qn0 YH (sp Qin (sp Qn1 (sp Qoa (sp Qn3 (sp Qn4 YH Qob) fl) YH) fl) YH)))) fl)) fl
def Va : T Lf := ju 12801 [Qe, Qb, Qb]
abbrev Qoc : SE := nm (el (.dat b0) (nm UZ))
abbrev Qod : SE := .op .idx (.op .sub Qe (cn ZT (cn (mk sS) rE))) Qgj
def OY : T Lf := sp YO (sp RF fl (sp (.lt (nm UZ) Qa) fl (sp (.lt (nm UZ) Qlv) (sp (.eq Qoc Qw) (ju 12801 [Qe, Qb, Ip]) (sp (.eq Qoc rU) (sp (.lt sS sS) fl (sp (.lt Qod Qa) (ou [Qa, Qe, Qb, sS]) (ju 12801 [Qe, Qb, wr (.add Qk Qod)]))) (ou [Qa, Qe, Qb, Qk]))) fl))) (ou [Qa, Qe, Qb, Qk])
abbrev Qoe : SE := nm (el Qe Qb)
abbrev Qof : SE := wr (.add Qb rU)
abbrev Qog : SE := .op .norm (.op .sub Qe (cn (mk Qb) (cn (mk sS) rE))) Qa
abbrev Qoh : SE := .dat (.p (.i 45) (.p (.i 62) (.i 0)))
abbrev Qoi : T Lf := ou [Qa, Qe, Qb, wr (.add Qdu Qw)]
abbrev Qoj : SE := .op .norm (.op .sub Qe (cn (mk Qb) (cn (mk Qof) rE))) Qa
def U9 : T Lf := sp Qdt fl (sp (.lt Qb sS) (sp (.lt Qoe Qa) fl (sp (.lt Qoe Qlv) (sp (.eq (nm (el (.dat b0) Qoe)) Qca) (sp (.lt sS Qof) (sp (.lt sS sS) fl (sp (.eq Qog Qoh) Qoi (sp (.eq Qog Ql6) Qoi (ou [Qa, Qe, Qb, Qdu])))) (sp (.lt Qof Qb) fl (sp (.eq Qoj Qoh) Qoi (sp (.eq Qoj Ql6) Qoi (ou [Qa, Qe, Qb, Qdu]))))) (ju 12851 [Qe, Qb, nm (el (.dat b0) Qoe), Qdu])) fl)) fl)
abbrev Qok : SE := nm (el (.dat b0) (nm RI))
abbrev Qol : T Lf := ou [Qa, Qe, Qb, Qi]
def OX : T Lf := sp (.lt Qi sS) (sp Qm fl (sp (.lt (nm RI) Qa) fl (sp (.lt (nm RI) Qlv) (sp (.eq Qok GI) (ju 12851 Qd9) (sp (.eq Qok ZX) (sp (.eq Qk ZX) (ju 12851 Qd9) Qol) Qol)) fl))) Qol
def U8 : T Lf := sp (.eq (a0 1000 [Qe]) Qw) (sp (.eq (rr 1000 [Qe] 0) Qa) Q7 (ou [Qw, Qe, Qb])) fl
end
theorem afG : S.tree 9000 = MH := by kernel_rfl
theorem Uj : S.tree 9001 = sW := by kernel_rfl
theorem anK : S.tree 9002 = aaT := by kernel_rfl
theorem anJ : S.tree 9003 = aaS := by kernel_rfl
theorem afF : S.tree 9004 = Xo := by kernel_rfl
theorem afE : S.tree 9005 = Xn := by kernel_rfl
theorem afD : S.tree 9006 = Xm := by kernel_rfl
theorem afC : S.tree 9007 = Xl := by kernel_rfl
theorem e0 : S.tree 0 = t0 := by kernel_rfl
theorem e1 : S.tree 1 = t1 := by kernel_rfl
theorem e2 : S.tree 2 = t2 := by kernel_rfl
theorem e100 : S.tree 100 = auZ := by kernel_rfl
theorem alY : S.tree 101 = auY := by kernel_rfl
theorem alX : S.tree 102 = auX := by kernel_rfl
theorem atU : S.tree 103 = auW := by kernel_rfl
theorem atT : S.tree 150 = auV := by kernel_rfl
theorem alW : S.tree 151 = auU := by kernel_rfl
theorem atS : S.tree 200 = ajF := by kernel_rfl
theorem Rh : S.tree 201 = t201 := by kernel_rfl
theorem alV : S.tree 202 = abP := by kernel_rfl
theorem e250 : S.tree 250 = ajE := by kernel_rfl
theorem e251 : S.tree 251 = abO := by kernel_rfl
theorem e300 : S.tree 300 = abN := by kernel_rfl
theorem e301 : S.tree 301 = U7 := by kernel_rfl
theorem e302 : S.tree 302 = aiY := by kernel_rfl
theorem alU : S.tree 350 = abM := by kernel_rfl
theorem alT : S.tree 351 = U6 := by kernel_rfl
theorem atQ : S.tree 400 = jU := by kernel_rfl
theorem ayS : S.tree 450 = apL := by kernel_rfl
theorem atP : S.tree 451 = aiX := by kernel_rfl
theorem atO : S.tree 452 = aiW := by kernel_rfl
theorem atN : S.tree 453 = aiV := by kernel_rfl
theorem atM : S.tree 454 = aiU := by kernel_rfl
theorem atL : S.tree 455 = aiT := by kernel_rfl
theorem atK : S.tree 456 = aiS := by kernel_rfl
theorem atJ : S.tree 500 = aiR := by kernel_rfl
theorem alS : S.tree 501 = abK := by kernel_rfl
theorem ayR : S.tree 550 = aaY := by kernel_rfl
theorem atI : S.tree 551 = aiQ := by kernel_rfl
theorem ayQ : S.tree 552 = auT := by kernel_rfl
theorem ayP : S.tree 553 = auS := by kernel_rfl
theorem atH : S.tree 600 = aiP := by kernel_rfl
theorem atG : S.tree 650 = aiO := by kernel_rfl
theorem ayM : S.tree 700 = apK := by kernel_rfl
theorem ayL : S.tree 750 = apJ := by kernel_rfl
theorem ayK : S.tree 800 = apI := by kernel_rfl
theorem atF : S.tree 850 = aiN := by kernel_rfl
theorem afH : S.tree 851 = U5 := by kernel_rfl
theorem atE : S.tree 900 = aiM := by kernel_rfl
theorem ayJ : S.tree 950 = apH := by kernel_rfl
theorem atD : S.tree 951 = aiL := by kernel_rfl
theorem atC : S.tree 952 = aiK := by kernel_rfl
theorem Ij : S.tree 953 = sV := by kernel_rfl
theorem Ii : S.tree 954 = sU := by kernel_rfl
theorem aoK : S.tree 1000 = abV := by kernel_rfl
theorem aoJ : S.tree 1050 = Sj := by kernel_rfl
theorem aoI : S.tree 1100 = abU := by kernel_rfl
theorem aoH : S.tree 1101 = anC := by kernel_rfl
theorem agK : S.tree 1102 = Xw := by kernel_rfl
theorem agJ : S.tree 1150 = MI := by kernel_rfl
theorem aoG : S.tree 1200 = abT := by kernel_rfl
theorem aoF : S.tree 1250 = abS := by kernel_rfl
theorem aoE : S.tree 1300 = abR := by kernel_rfl
theorem aoD : S.tree 1350 = abQ := by kernel_rfl
theorem afN : S.tree 1400 = Xv := by kernel_rfl
theorem aoC : S.tree 5000 = abL := by kernel_rfl
theorem aoB : S.tree 5050 = abJ := by kernel_rfl
theorem afM : S.tree 5051 = Xu := by kernel_rfl
theorem aoA : S.tree 5100 = abI := by kernel_rfl
theorem anZ : S.tree 5101 = anB := by kernel_rfl
theorem anY : S.tree 5150 = abH := by kernel_rfl
theorem anX : S.tree 5151 = anA := by kernel_rfl
theorem anW : S.tree 5200 = abG := by kernel_rfl
theorem anV : S.tree 5201 = amZ := by kernel_rfl
theorem anU : S.tree 5250 = abE := by kernel_rfl
theorem afL : S.tree 5251 = Xt := by kernel_rfl
theorem anT : S.tree 5300 = abD := by kernel_rfl
theorem afK : S.tree 5301 = Xr := by kernel_rfl
theorem anS : S.tree 5350 = abC := by kernel_rfl
theorem afJ : S.tree 5351 = Xq := by kernel_rfl
theorem anR : S.tree 5400 = abB := by kernel_rfl
theorem afI : S.tree 5401 = Xp := by kernel_rfl
theorem anQ : S.tree 5450 = abA := by kernel_rfl
theorem anP : S.tree 5451 = aaZ := by kernel_rfl
theorem anO : S.tree 5500 = aaX := by kernel_rfl
theorem anN : S.tree 5501 = aaW := by kernel_rfl
theorem ayO : S.tree 5550 = amY := by kernel_rfl
theorem ayN : S.tree 5551 = amX := by kernel_rfl
theorem anM : S.tree 5600 = aaV := by kernel_rfl
theorem anL : S.tree 5601 = aaU := by kernel_rfl
theorem WQ : S.tree 12000 = O7 := by kernel_rfl
theorem Rj : S.tree 12001 = Ji := by kernel_rfl
theorem agI : S.tree 12050 = Vp := by kernel_rfl
theorem WO : S.tree 12051 = Jh := by kernel_rfl
theorem WM : S.tree 12100 = O6 := by kernel_rfl
theorem Ri : S.tree 12101 = Jg := by kernel_rfl
theorem agH : S.tree 12150 = Vo := by kernel_rfl
theorem WL : S.tree 12151 = Jf := by kernel_rfl
theorem agG : S.tree 12200 = Vm := by kernel_rfl
theorem agF : S.tree 12250 = Vl := by kernel_rfl
theorem agE : S.tree 12251 = Vk := by kernel_rfl
theorem agD : S.tree 12300 = Vj := by kernel_rfl
theorem agC : S.tree 12350 = Vh := by kernel_rfl
theorem agB : S.tree 12351 = Vg := by kernel_rfl
theorem agA : S.tree 12400 = Vf := by kernel_rfl
theorem afZ : S.tree 12450 = Ve := by kernel_rfl
theorem afY : S.tree 12500 = Vd := by kernel_rfl
theorem afX : S.tree 12550 = Vb := by kernel_rfl
theorem afW : S.tree 12600 = O5 := by kernel_rfl
theorem afV : S.tree 12650 = O4 := by kernel_rfl
theorem afU : S.tree 12700 = O1 := by kernel_rfl
theorem afT : S.tree 12750 = OZ := by kernel_rfl
theorem afS : S.tree 12800 = Va := by kernel_rfl
theorem afR : S.tree 12801 = OY := by kernel_rfl
theorem afQ : S.tree 12850 = U9 := by kernel_rfl
theorem afP : S.tree 12851 = OX := by kernel_rfl
theorem afO : S.tree 12900 = U8 := by kernel_rfl
end Go.As.Try
end
section
namespace Go.As.Try
open Go hiding Stat Spec shape
open Go.As Go.Proofs
set_option maxRecDepth 100000
def listed : List Nat := [9000, 9001, 9002, 9003, 9004, 9005, 9006, 9007, 0, 1, 2, 100, 101, 102, 103, 150, 151, 200, 201, 202, 250, 251, 300, 301, 302, 350, 351, 400, 450, 451, 452, 453, 454, 455, 456, 500, 501, 550, 551, 552, 553, 600, 650, 700, 750, 800, 850, 851, 900, 950, 951, 952, 953, 954, 1000, 1050, 1100, 1101, 1102, 1150, 1200, 1250, 1300, 1350, 1400, 5000, 5050, 5051, 5100, 5101, 5150, 5151, 5200, 5201, 5250, 5251, 5300, 5301, 5350, 5351, 5400, 5401, 5450, 5451, 5500, 5501, 5550, 5551, 5600, 5601, 12000, 12001, 12050, 12051, 12100, 12101, 12150, 12151, 12200, 12250, 12251, 12300, 12350, 12351, 12400, 12450, 12500, 12550, 12600, 12650, 12700, 12750, 12800, 12801, 12850, 12851, 12900]
noncomputable def trees : List (T Lf) := [MH, sW, aaT, aaS, Xo, Xn, Xm, Xl, t0, t1, t2, auZ, auY, auX, auW, auV, auU, ajF, t201, abP, ajE, abO, abN, U7, aiY, abM, U6, jU, apL, aiX, aiW, aiV, aiU, aiT, aiS, aiR, abK, aaY, aiQ, auT, auS, aiP, aiO, apK, apJ, apI, aiN, U5, aiM, apH, aiL, aiK, sV, sU, abV, Sj, abU, anC, Xw, MI, abT, abS, abR, abQ, Xv, abL, abJ, Xu, abI, anB, abH, anA, abG, amZ, abE, Xt, abD, Xr, abC, Xq, abB, Xp, abA, aaZ, aaX, aaW, amY, amX, aaV, aaU, O7, Ji, Vp, Jh, O6, Jg, Vo, Jf, Vm, Vl, Vk, Vj, Vh, Vg, Vf, Ve, Vd, Vb, O5, O4, O1, OZ, Va, OY, U9, OX, U8]
theorem Zm : listed.map S.tree = trees := by simp only [listed, trees, List.map, afG, Uj, anK, anJ, afF, afE, afD, afC, e0, e1, e2, e100, alY, alX, atU, atT, alW, atS, Rh, alV, e250, e251, e300, e301, e302, alU, alT, atQ, ayS, atP, atO, atN, atM, atL, atK, atJ, alS, ayR, atI, ayQ, ayP, atH, atG, ayM, ayL, ayK, atF, afH, atE, ayJ, atD, atC, Ij, Ii, aoK, aoJ, aoI, aoH, agK, agJ, aoG, aoF, aoE, aoD, afN, aoC, aoB, afM, aoA, anZ, anY, anX, anW, anV, anU, afL, anT, afK, anS, afJ, anR, afI, anQ, anP, anO, anN, ayO, ayN, anM, anL, WQ, Rj, agI, WO, WM, Ri, agH, WL, agG, agF, agE, agD, agC, agB, agA, afZ, afY, afX, afW, afV, afU, afT, afS, afR, afQ, afP, afO]
theorem aaO : trees.all (UU []) = true := by kernel_rfl
theorem atX : aoM (lim 259 feT) 259 listed = true := by kernel_rfl
theorem aiD (j : Nat) : UU [] (S.tree j) = true := by
 cases h : yU St.t j with
 | none => exact YR (S := St) h
 | some e =>
   have hm : S.tree j ∈ trees := by
    rw [← Zm]
    exact List.mem_map_of_mem (cov atX (fun k hk => adJ hk) h)
   exact List.all_eq_true.1 aaO _ hm
noncomputable def L : Fz := lim' S.tree
theorem bM (j : Nat) (xs : List Int) : L j xs = fin L (dV (dF L (low xs)) (S.tree j)) := aqG aiD j xs
end Go.As.Try
end
section
namespace Go.As.Try
open Go hiding Stat
open Go.As Go.Proofs Go.RowKit Go.ChangeShapes Go.WideShapes Go.ChangeAt
open Go.Proofs.YtcmepjpoffiijaaGreatDoor
set_option maxRecDepth 100000
theorem own : ownKnob Tryz.prog.godebug = none := by kernel_rfl
theorem laidOut : laidOutB Tryz.prog = true := by kernel_rfl
def akA : TypeId → Option Nat := Hg (owns.take 13)
def ownB (P : Program) (own : TypeId → Option Nat) (l : List (Nat × Nat)) : Bool := l.all fun p => match P.underlying p.1 with
 | some (.slice e) => decide (Cm P own 8 e = some (mP p.2)) && Nat.beq (P.cellsOf e) (mP p.2).length && Nat.ble (EY p.2) (P.bytesOf e) && Nat.ble 1 (mP p.2).length
 | _ => false
theorem Oc {t i : Nat} : ∀ {l : List (Nat × Nat)}, Hg l t = some i → (t, i) ∈ l
 | [], h => by simp [Hg] at h
 | (a, k) :: l, h => by
   unfold Hg at h
   split at h
   ·rename_i hb
    have := Nat.eq_of_beq_eq_true hb
    simp only [Option.some.injEq] at h
    subst this h
    simp
   ·exact List.mem_cons_of_mem _ (Oc h)
theorem akB {P : Program} {l : List (Nat × Nat)} (h : ownB P (Hg l) l = true) : ahU P (Hg l) := by
 intro t i hti
 have := List.all_eq_true.1 h _ (Oc hti)
 simp only at this
 split at this
 ·rename_i e he
  simp only [Bool.and_eq_true, decide_eq_true_eq] at this
  exact ⟨e, 8, he, this.1.1.1, Nat.eq_of_beq_eq_true this.1.1.2, Nat.le_of_ble_eq_true this.1.2, Nat.le_of_ble_eq_true this.2⟩
 ·simp at this
theorem ajZ : ahU Tryz.prog akA := akB (by kernel_rfl)
theorem akP {W : World} (h : W.ShapedOpen Tryz.prog) : base.ok (XD W) W.heap := by
 obtain ⟨m, hm⟩ := LaysM.n144.s1_3 Tryz.laysM144 W h
 exact ⟨Yv hm, m, by rw [← qY]; exact hm⟩
def XQ : DataW Unit → Value
 | .lit (.int k n) => .int k n
 | _ => undef
def cellsD : DataW Unit → Array Value
 | .agg l => (l.map XQ).toArray
 | d => #[XQ d]
def awE (d : DataW Unit) : Obj → Obj
 | .cells _ t f => .cells (cellsD d) t f
 | o => o
noncomputable def aqH (h : Array Obj) (x : String × DataW Unit) : Array Obj := match Tryz.prog.globalNamed x.1 with
 | some g => h.modify g (awE x.2)
 | none => h
noncomputable def laidWorld (os : Os) : World :=
 { World.holding Tryz.prog os ⟨#[], #[], []⟩ with heap := Rows.primsApartRow.laid.foldl aqH (World.holding Tryz.prog os ⟨#[], #[], []⟩).heap }
theorem LC {ro : Nat → Prop} {h : Array Obj} {i : Nat} {d : D} {v : Value} (r : Rd ro h (.sl i) d v) : AL ro h (.sl i) (enc d) v := by
 show Rd ro h (.sl i) (dec (enc d)) v
 rw [aC]
 exact r
theorem ahM {ro : Nat → Prop} {h : Array Obj} {u : Value} (a : amV [.one .bool] [1] ro h u) : u = .bool true := by
 obtain ⟨us, fl, hs, hc, hu⟩ := a
 cases hs with
 | one c v hs =>
   cases hs
   simp only [rQ, RK.flat, List.append_nil, List.cons_append, List.nil_append] at hc
   obtain ⟨n, ns', u', us', h1, h2, h3, h4⟩ := hc
   simp only [List.cons.injEq] at h1 h2
   obtain ⟨rfl, _⟩ := h1
   obtain ⟨rfl, _⟩ := h2
   rw [hu]
   exact h3
theorem ahB {g j : Nat} {e : FB} (hn : j ∈ S.nums g) (he : S.ents j = some e) (hp : e.pat = none) (hr : e.nC = [.one .bool]) {xs : List Int} (hL : L j xs = some [1]) {W : World} (hsh : W.ShapedOpen Tryz.prog) {vals fl : List Value} (h1 : Shape e.LK vals fl) (h2 : iF (XD W) W.heap (rQ e.LK) xs fl) :
 Calls Tryz.prog g vals.toArray W fun en W' => en = .returned (.bool true) ∧ Below W.heap.size W W' := by
 obtain ⟨n, hrun⟩ := PW hL
 refine (abW apN hn he hp n xs [1] hrun (XD W) W vals fl (fun _ h => h) (akP hsh) h1 h2).mono fun en W' ⟨u, hu, hb, ro', _, _, _, ha⟩ => ?_
 rw [hr] at ha
 rw [ahM ha] at hu
 exact ⟨hu, hb⟩
end Go.As.Try
end
section
namespace Go.As
def prune (Y N : List SB) : T Lf → T Lf
 | .fail => .fail
 | .ret l => .ret l
 | .split c x y => match Y.contains c with
   | true => prune Y N x
   | false => match N.contains c with
     | true => prune Y N y
     | false => .split c (prune Y N x) (prune Y N y)
def zY (ρ : Nat → Int) : List SB → Prop
 | [] => True
 | c :: l => c.den ρ = true ∧ zY ρ l
def zW (ρ : Nat → Int) : List SB → Prop
 | [] => True
 | c :: l => ¬ c.den ρ = true ∧ zW ρ l
theorem aaB {ρ : Nat → Int} : ∀ {l : List SB}, zY ρ l → ∀ c ∈ l, c.den ρ = true
 | [], _, c, h => by simp at h
 | a :: l, hz, c, h => by
   rcases List.mem_cons.1 h with rfl | h
   ·exact hz.1
   ·exact aaB hz.2 c h
theorem aaE {ρ : Nat → Int} : ∀ {l : List SB}, zW ρ l → ∀ c ∈ l, c.den ρ = false
 | [], _, c, h => by simp at h
 | a :: l, hz, c, h => by
   rcases List.mem_cons.1 h with rfl | h
   ·simpa using hz.1
   ·exact aaE hz.2 c h
theorem aaC {ρ : Nat → Int} : ∀ {a b : List SB}, zY ρ a → zY ρ b → zY ρ (a ++ b)
 | [], _, _, h => h
 | _ :: _, _, h, h' => ⟨h.1, aaC h.2 h'⟩
theorem aaF {ρ : Nat → Int} : ∀ {a b : List SB}, zW ρ a → zW ρ b → zW ρ (a ++ b)
 | [], _, _, h => h
 | _ :: _, _, h, h' => ⟨h.1, aaF h.2 h'⟩
theorem dD {ρ : Nat → Int} {Y N : List SB} (h : zY ρ Y ∧ zW ρ N) : ∀ t, dV ρ (prune Y N t) = dV ρ t
 | .fail => rfl
 | .ret l => rfl
 | .split c x y => by
   simp only [prune, dV]
   split
   ·rename_i h'
    rw [aaB h.1 c (List.contains_iff_mem.1 h'), if_pos rfl]
    exact dD h x
   ·split
    ·rename_i h'
     rw [aaE h.2 c (List.contains_iff_mem.1 h'), if_neg (by simp)]
     exact dD h y
    ·simp only [dV, dD h x, dD h y]
theorem bI {ρ : Nat → Int} (Y N : List SB) {t : T Lf} {R : RS} (u : T Lf) (h : zY ρ Y ∧ zW ρ N) (k : prune Y N t = u) (h' : dV ρ u = R) : dV ρ t = R := by rw [← dD h t, k, h']
theorem zz :
 (∀ {ρ : Nat → Int} (c : SB) (a b : T Lf), dV ρ (sp c a b) = if c.den ρ = true then dV ρ a else dV ρ b) ∧
 (∀ {ρ : Nat → Int} (l : List SE), dV ρ (ou l) = .out (l.map (SE.den ρ))) ∧
 (∀ {ρ : Nat → Int} (j : Nat) (l : List SE), dV ρ (ju j l) = .jump j (l.map (SE.den ρ))) ∧
 (∀ {ρ : Nat → Int}, dV ρ fl = .no) ∧
 (∀ {ρ : Nat → Int} (a b : SE), ((SB.lt a b).den ρ = true) = (a.den ρ < b.den ρ)) ∧
 (∀ {ρ : Nat → Int} (a b : SE), ((SB.eq a b).den ρ = true) = (a.den ρ = b.den ρ)) ∧
 (∀ {F : Fz} {lo : Nat → Int} {i : Nat}, i < 900 → (SE.aA i).den (dF F lo) = lo i) ∧
 (∀ {ρ : Nat → Int} (n : Int), (SE.lit n).den ρ = n) ∧
 (∀ {ρ : Nat → Int} (d : D), (SE.dat d).den ρ = enc d) ∧
 (∀ {ρ : Nat → Int} (a : SE), (ln a).den ρ = ((dec (a.den ρ)).l.length : Int)) ∧
 (∀ {ρ : Nat → Int} (a : SE), (nm a).den ρ = (dec (a.den ρ)).n) ∧
 (∀ {ρ : Nat → Int} (j : Nat) (a : SE), (ce j a).den ρ = enc ((dec (a.den ρ)).hd j)) ∧
 (∀ {ρ : Nat → Int} (a b : SE), (el a b).den ρ = enc ((dec (a.den ρ)).at (b.den ρ))) ∧
 (∀ {ρ : Nat → Int} (a b : SE), (cn a b).den ρ = enc (.p (dec (a.den ρ)) (dec (b.den ρ)))) ∧
 (∀ {ρ : Nat → Int} (a : SE), (mk a).den ρ = enc (.i (a.den ρ))) ∧
 (∀ {ρ : Nat → Int} (a : SE), (wr a).den ρ = IntKind.i64.wrap (a.den ρ)) ∧
 (∀ {ρ : Nat → Int} (a b : SE), (SE.add a b).den ρ = a.den ρ + b.den ρ) ∧
 (∀ {ρ : Nat → Int} (a b : SE), (SE.sub a b).den ρ = a.den ρ - b.den ρ) ∧
 (∀ {ρ : Nat → Int} (o : aN) (a b : SE), (SE.op o a b).den ρ = o.den (a.den ρ) (b.den ρ)) ∧
 (∀ {F : Fz} {lo : Nat → Int} (j : Nat) (l : List SE), (a0 j l).den (dF F lo) = if (F j (l.map (SE.den (dF F lo)))).isSome = true then 1 else 0) ∧
 (∀ {F : Fz} {lo : Nat → Int} (j : Nat) (l : List SE) (i : Nat), (rr j l i).den (dF F lo) = low ((F j (l.map (SE.den (dF F lo)))).getD []) i) ∧
 (∀ {x : Int} {xs : List Int}, low (x :: xs) 0 = x) ∧
 (∀ {x : Int} {xs : List Int} {i : Nat}, low (x :: xs) (i + 1) = low xs i) ∧
 (∀ {f : SE → Int}, List.map f [] = []) ∧
 (∀ {f : SE → Int} {a : SE} {l : List SE}, List.map f (a :: l) = f a :: List.map f l) ∧
 (∀ d : D, dec (enc d) = d) ∧
 (∀ n : Int, (D.i n).n = n) ∧
 (∀ {α : Type} (a : α), (some a).isSome = true) ∧
 (∀ {α : Type} (a b : α), (some a).getD b = a) ∧
 (∀ {α : Type} {_ : Decidable True} (a b : α), ite True a b = a) ∧
 (∀ {α : Type} {_ : Decidable False} (a b : α), ite False a b = b) ∧
 (∀ {ρ : Nat → Int}, zY ρ [] = True) ∧
 (∀ {ρ : Nat → Int} (c : SB) (l : List SB), zY ρ (c :: l) = (c.den ρ = true ∧ zY ρ l)) ∧
 (∀ {ρ : Nat → Int}, zW ρ [] = True) ∧
 (∀ {ρ : Nat → Int} (c : SB) (l : List SB), zW ρ (c :: l) = (¬ c.den ρ = true ∧ zW ρ l)) ∧
 (∀ p : Prop, (p ∧ True) = p) ∧ (∀ p : Prop, (True ∧ p) = p) ∧ (¬ False) = True :=
 ⟨dN, jH, jI, xH, mO, iD, aY, bF, iG, gI, Gt, agN, Gu, Lc, La, Ah, den_add, amG, KZ, gY, fQ, aH _, aK _ _, rfl, rfl, aC, n_i, fun _ => rfl, fun _ _ => rfl, fun _ _ => if_pos trivial, fun _ _ => if_neg id, rfl, fun _ _ => rfl, rfl, fun _ _ => rfl, and_true, true_and, not_false_eq_true⟩
end Go.As
end
section
namespace Go.As.Try
open Go hiding Stat Spec shape
open Go.As
set_option maxRecDepth 100000
def Ends (p : List Int → Prop) (R : RS) : Prop := ∃ ys, fin L R = some ys ∧ p ys
def Tot (j : Nat) (xs : List Int) (p : List Int → Prop) : Prop := ∃ ys, L j xs = some ys ∧ p ys
theorem Tot.of {j : Nat} {xs : List Int} {p : List Int → Prop} (h : Ends p (dV (dF L (low xs)) (S.tree j))) : Tot j xs p := by
 obtain ⟨ys, h1, h2⟩ := h
 exact ⟨ys, by rw [bM]; exact h1, h2⟩
theorem Ends.ite {p : List Int → Prop} {c : Prop} [Decidable c] {a b : RS} (h1 : c → Ends p a) (h2 : ¬ c → Ends p b) : Ends p (if c then a else b) := by
 by_cases h : c
 ·rw [if_pos h]; exact h1 h
 ·rw [if_neg h]; exact h2 h
theorem Ends.out {p : List Int → Prop} {ys : List Int} (h : p ys) : Ends p (.out ys) := ⟨ys, rfl, h⟩
theorem Ends.jump {p : List Int → Prop} {j : Nat} {xs : List Int} (h : Tot j xs p) : Ends p (.jump j xs) := h
def pK (ys : List Int) : Prop := ∃ c : Int, ys = [c] ∧ (c = 0 ∨ c = 1)
def is3 (ys : List Int) : Prop := ∃ a b c : Int, ys = [a, b, c] ∧ (c = 0 ∨ c = 1)
theorem bT : pK [0] := ⟨0, rfl, .inl rfl⟩
theorem dY : pK [1] := ⟨1, rfl, .inr rfl⟩
theorem Tv {a b : Int} : is3 [a, b, 0] := ⟨a, b, 0, rfl, .inl rfl⟩
theorem anG {a b : Int} : is3 [a, b, 1] := ⟨a, b, 1, rfl, .inr rfl⟩
def iY (x : D) : D := dL [.i (-1), .i (if (x.hd 0).n = 3 ∨ (x.hd 0).n = 9 then (x.hd 2).n else 0), .i 0, .i 0, .i 1, .i 1]
theorem LJ (d0 : D) (hlen : d0.l.length ≤ 64) : ∀ (k i : Nat) (acc : List D), i + k = d0.l.length → acc.length = i →
 L 302 [enc (dL acc), enc d0, (d0.l.length : Int), (i : Int)] = some [enc (dL (acc ++ (d0.l.drop i).map iY))]
 | 0, i, acc, h1, h2 => by
   rw [bM, e302]
   simp only [aiY, dN, jH, mO, aY, aH, aK, Nat.reduceLT, fin, List.map]
   rw [if_neg (by omega)]
   simp only [fin, aY, aH, Nat.reduceLT]
   rw [List.drop_of_length_le (by omega)]
   simp
 | k + 1, i, acc, h1, h2 => by
   have hi : i < d0.l.length := by omega
   have hd : d0.l.drop i = d0.l[i] :: d0.l.drop (i + 1) := List.drop_eq_getElem_cons hi
   have ih := fun x => LJ d0 hlen k (i + 1) (acc ++ [x]) (by omega) (by simp [h2])
   rw [bM, e302, hd]
   simp only [aiY, dN, jH, jI, xH, mO, iD, aY, gI, bF, Gt, agN, Gu, KZ, Lc, La, iG, Ah, den_add, aH, aK, Nat.reduceLT, List.map, aC, bC, bV hi]
   have w := bJ (n := i) (by omega)
   have c1 : (i : Int) < (d0.l.length : Int) := by omega
   have c2 : ¬ ((i : Int) < 0) := by omega
   have c3 : (acc.length : Int) < 1759218604440 := by omega
   simp only [c1, c2, c3, w, if_true, if_false, fin, aN.den, aC, bC]
   by_cases h3 : (d0.l[i].hd 0).n = 3
   ·simp only [h3, if_true, fin]
    have := ih (iY d0.l[i])
    simp only [iY, h3, true_or, if_true, dL] at this ⊢
    rw [this]
    simp
   ·by_cases h9 : (d0.l[i].hd 0).n = 9
    ·simp only [if_neg h3, if_pos h9, fin]
     have := ih (iY d0.l[i])
     simp only [iY, if_pos (Or.inr h9 : (d0.l[i].hd 0).n = 3 ∨ (d0.l[i].hd 0).n = 9), dL] at this ⊢
     rw [this]
     simp
    ·simp only [if_neg h3, if_neg h9, fin]
     have := ih (iY d0.l[i])
     simp only [iY, h3, h9, or_self, if_false, dL] at this ⊢
     rw [this]
     simp
end Go.As.Try
end
section
namespace Go.As.Try
open Go hiding Stat Spec shape
open Go.As
set_option maxRecDepth 100000
def Bs (d : D) : Prop := d = dL d.l ∧ ∀ (i : Nat) (h : i < d.l.length), 0 ≤ (d.l[i]).n ∧ (d.l[i]).n < 256
theorem auA (s : ByteArray) : Bs (yN s) := by
 unfold yN uF
 refine ⟨by rw [bC], fun i h => ?_⟩
 simp only [bC, List.length_map, List.getElem_map, D.n] at h ⊢
 have := (s.data.toList[i]).toNat_lt
 omega
theorem G8 (d : D) (hb : Bs d) (hlen : d.l.length ≤ 1000000) : ∀ (k i : Nat) (n : Int), i + k = d.l.length → ∃ a b, L 1102 [n, enc d, (d.l.length : Int), (i : Int)] = some [a, b]
 | 0, i, n, h1 => by
   rw [bM, agK]
   simp only [Xw, dN, jH, mO, aY, aH, aK, Nat.reduceLT, List.map, bF]
   rw [if_neg (by omega)]
   exact ⟨_, _, rfl⟩
 | k + 1, i, n, h1 => by
   have hi : i < d.l.length := by omega
   have ih := fun x => G8 d hb hlen k (i + 1) x (by omega)
   rw [bM, agK]
   have w := bJ (n := i) (by omega)
   have c1 : (i : Int) < (d.l.length : Int) := by omega
   have c2 : ¬ ((i : Int) < 0) := by omega
   simp only [Xw, dN, jH, jI, xH, mO, aY, aH, aK, Nat.reduceLT, List.map, bF, gI, aC, c1, c2, if_true, if_false, Ah, den_add, w]
   split
   ·exact ⟨_, _, rfl⟩
   ·exact ih _
theorem VJ (d : D) (hb : Bs d) (hlen : d.l.length ≤ 1000000) : ∃ a b, L 1100 [enc d] = some [a, b] := by
 rw [bM, aoI]
 simp only [abU, dN, jI, iD, aY, aH, aK, Nat.reduceLT, List.map, bF, gI, aC]
 split
 ·show ∃ a b, L 1101 [] = some [a, b]
  rw [bM, aoH]
  exact ⟨_, _, rfl⟩
 ·exact G8 d hb hlen d.l.length 0 _ (by omega)
theorem Ou (z : Int) : ∀ (l : List D) (i : Nat), uZ z l (i : Int) = -1 ∨ ((i : Int) ≤ uZ z l i ∧ uZ z l i < (i : Int) + l.length)
 | [], i => .inl rfl
 | d :: l, i => by
   have ih := Ou z l (i + 1)
   have hc : ((i + 1 : Nat) : Int) = (i : Int) + 1 := by omega
   rw [hc] at ih
   have hl : ((d :: l).length : Int) = (l.length : Int) + 1 := by simp
   cases d with
   | i n =>
     simp only [uZ]
     split
     ·right; omega
     ·rcases ih with h | ⟨h1, h2⟩
      ·left; exact h
      ·right; omega
   | p a b =>
     simp only [uZ]
     rcases ih with h | ⟨h1, h2⟩
     ·left; exact h
     ·right; omega
theorem agT {z : Int} {d : D} {l : List D} (h : d ≠ .i z) (h0 : ¬ L9 (d :: l) z < 0) : 1 ≤ L9 (d :: l) z ∧ L9 (d :: l) z < (l.length : Int) + 1 := by
 have h1 := Ou z l 1
 have key : L9 (d :: l) z = uZ z l ((1 : Nat) : Int) := by
  unfold L9
  cases d with
  | i n =>
    simp only [uZ]
    rw [if_neg (by intro q; exact h (by rw [q]))]
    rfl
  | p a b => rfl
 rw [key] at h0 ⊢
 omega
theorem ayU : (b0.at 10).n = 1 := by
 show (b0.at ((10 : Nat) : Int)).n = 1
 kernel_rfl
theorem Ar (d : D) (hb : Bs d) (hlen : d.l.length ≤ 1000000) (x1 : Int) : ∀ (k i : Nat), d.l.length - i ≤ k → i ≤ d.l.length → ∃ p : Nat, p ≤ d.l.length ∧ L 12801 [enc d, x1, (i : Int)] = some [0, enc d, x1, (p : Int)]
 | k, i, h1, h2 => by
   rw [bM, afR]
   have c2 : ¬ ((i : Int) < 0) := by omega
   by_cases hi : i < d.l.length
   ·have c1 : (i : Int) < (d.l.length : Int) := by omega
    have w := bJ (n := i) (by omega)
    obtain ⟨b1, b2⟩ := hb.2 i hi
    have b1 : ¬ (d.l[i]).n < 0 := by omega
    obtain ⟨k, rfl⟩ : ∃ k', k = k' + 1 := ⟨k - 1, by omega⟩
    have hdr : (d.l.take d.l.length).drop i = d.l[i] :: d.l.drop (i + 1) := by rw [List.take_length, List.drop_eq_getElem_cons hi]
    simp only [OY, dN, jH, jI, xH, mO, iD, aY, aH, aK, Nat.reduceLT, List.map, bF, iG, gI, aC, c1, c2, if_true, if_false, Ah, den_add, w, Gt, Gu, bV hi, b1, b2]
    by_cases q1 : (b0.at (d.l[i]).n).n = 1
    ·simp only [q1, if_true]
     exact Ar d hb hlen x1 k (i + 1) (by omega) (by omega)
    ·by_cases q2 : (b0.at (d.l[i]).n).n = 2
     ·simp only [if_neg q1, if_pos q2]
      have hne : d.l[i] ≠ .i 10 := by
       intro h
       rw [h] at q1
       exact q1 ayU
      simp only [Int.lt_irrefl, if_false, KZ, aN.den, Lc, La, iG, gI, aY, bF, aH, aK, Nat.reduceLT, aC, D.hd, l_p, Ee, n_i, List.getElem?_cons_zero, List.getElem?_cons_succ, Option.getD_some, Int.toNat_natCast, bC, hdr]
      split
      ·exact ⟨d.l.length, Nat.le_refl _, by simp [fin]⟩
      ·rename_i h0
       obtain ⟨g1, g2⟩ := agT hne h0
       rw [List.length_drop] at g2
       obtain ⟨m, hm⟩ : ∃ m : Nat, L9 (d.l[i] :: d.l.drop (i + 1)) 10 = (m : Int) := ⟨(L9 (d.l[i] :: d.l.drop (i + 1)) 10).toNat, by omega⟩
       have w2 : IntKind.i64.wrap ((i : Int) + (m : Int)) = ((i + m : Nat) : Int) := by rw [lM (by omega) (by omega)]; omega
       simp only [hm, w2, fin]
       exact Ar d hb hlen x1 k (i + m) (by omega) (by omega)
     ·simp only [if_neg q1, if_neg q2]
      exact ⟨i, by omega, rfl⟩
   ·have c1 : ¬ (i : Int) < (d.l.length : Int) := by omega
    simp only [OY, dN, jH, mO, aY, aH, aK, Nat.reduceLT, List.map, bF, gI, aC, c1, if_false]
    exact ⟨i, by omega, rfl⟩
theorem WX (d : D) (hb : Bs d) (hlen : d.l.length ≤ 1000000) (i : Nat) (hi : i ≤ d.l.length) : ∃ p : Nat, p ≤ d.l.length ∧ L 12800 [enc d, (i : Int)] = some [0, enc d, (i : Int), (p : Int)] := by
 rw [bM, afS]
 simp only [Va, jI, aY, aH, aK, Nat.reduceLT, List.map]
 exact Ar d hb hlen _ _ i (Nat.le_refl _) hi
theorem Oo (d : D) (hb : Bs d) (hlen : d.l.length ≤ 1000000) (x1 x2 : Int) : ∀ (k i : Nat), d.l.length - i ≤ k → i ≤ d.l.length → ∃ p : Nat, i ≤ p ∧ p ≤ d.l.length ∧ L 12851 [enc d, x1, x2, (i : Int)] = some [0, enc d, x1, (p : Int)]
 | k, i, h1, h2 => by
   rw [bM, afP]
   have c2 : ¬ ((i : Int) < 0) := by omega
   by_cases hi : i < d.l.length
   ·have c1 : (i : Int) < (d.l.length : Int) := by omega
    have w := bJ (n := i) (by omega)
    obtain ⟨b1, b2⟩ := hb.2 i hi
    have b1 : ¬ (d.l[i]).n < 0 := by omega
    obtain ⟨k, rfl⟩ : ∃ k', k = k' + 1 := ⟨k - 1, by omega⟩
    have ih : ∃ p : Nat, i ≤ p ∧ p ≤ d.l.length ∧ L 12851 [enc d, x1, x2, ((i + 1 : Nat) : Int)] = some [0, enc d, x1, (p : Int)] := by
     obtain ⟨p, q1, q2, q3⟩ := Oo d hb hlen x1 x2 k (i + 1) (by omega) (by omega)
     exact ⟨p, by omega, q2, q3⟩
    simp only [OX, dN, jH, jI, xH, mO, iD, aY, aH, aK, Nat.reduceLT, List.map, bF, iG, gI, aC, c1, c2, if_true, if_false, Ah, den_add, w, Gt, Gu, bV hi, b1, b2]
    split
    ·exact ih
    ·split
     ·split
      ·exact ih
      ·exact ⟨i, by omega, by omega, rfl⟩
     ·exact ⟨i, by omega, by omega, rfl⟩
   ·have c1 : ¬ (i : Int) < (d.l.length : Int) := by omega
    simp only [OX, dN, jH, mO, aY, aH, aK, Nat.reduceLT, List.map, bF, gI, aC, c1, if_false]
    exact ⟨i, by omega, by omega, rfl⟩
theorem XT {l : List D} {a b : D} (h : enc (dL l) = enc (.p a (.p b (.i 0)))) : l.length = 2 := by
 have := congrArg (fun d => d.l.length) (oO h)
 simpa [D.l] using this
theorem aeX (d : D) (hb : Bs d) (hlen : d.l.length ≤ 1000000) (i : Nat) (hi : i < d.l.length) : ∃ p : Nat, i < p ∧ p ≤ d.l.length ∧ L 12850 [enc d, (i : Int)] = some [0, enc d, (i : Int), (p : Int)] := by
 have c2 : ¬ ((i : Int) < 0) := by omega
 have c1 : (i : Int) < (d.l.length : Int) := by omega
 have w := bJ (n := i) (by omega)
 have w1 := bJ (n := i + 1) (by omega)
 have w2 : IntKind.i64.wrap ((i : Int) + 2) = ((i + 2 : Nat) : Int) := by rw [lM (by omega) (by omega)]; omega
 obtain ⟨b1, b2⟩ := hb.2 i hi
 have b1 : ¬ (d.l[i]).n < 0 := by omega
 have c3 : ¬ (((i + 2 : Nat) : Int) < (i : Int)) := by omega
 rw [bM, afQ]
 simp only [U9, dN, jH, jI, xH, mO, iD, aY, aH, aK, Nat.reduceLT, List.map, bF, gI, aC, c1, c2, c3, if_true, if_false, Ah, den_add, w, w1, w2, Gt, Gu, bV hi, b1, b2, Int.lt_irrefl, KZ, aN.den, Lc, La, iG, D.hd, l_p, Ee, n_i, List.getElem?_cons_zero, List.getElem?_cons_succ, Option.getD_some, Int.toNat_natCast]
 split
 ·split
  ·rename_i h5
   split
   ·rename_i h6
    have := XT h6
    simp only [List.length_drop, List.length_take] at this
    omega
   ·split
    ·rename_i h6
     have := XT h6
     simp only [List.length_drop, List.length_take] at this
     omega
    ·exact ⟨i + 1, by omega, by omega, rfl⟩
  ·rename_i h5
   split
   ·exact ⟨i + 1 + 1, by omega, by omega, rfl⟩
   ·split
    ·exact ⟨i + 1 + 1, by omega, by omega, rfl⟩
    ·exact ⟨i + 1, by omega, by omega, rfl⟩
 ·obtain ⟨p, q1, q2, q3⟩ := Oo d hb hlen (i : Int) ((b0.at (d.l[i]).n).n) _ (i + 1) (Nat.le_refl _) (by omega)
  exact ⟨p, by omega, q2, q3⟩
theorem amN {d : D} (hb : Bs d) (a b : Nat) : Bs (dL ((d.l.take b).drop a)) := by
 refine ⟨by rw [bC], fun i h => ?_⟩
 simp only [bC] at h ⊢
 have hl : i < d.l.length - a := by
  simp only [List.length_drop, List.length_take] at h
  omega
 have : ((d.l.take b).drop a)[i] = d.l[a + i] := by simp
 rw [this]
 exact hb.2 _ _
theorem adD (d : D) (hb : Bs d) : ∃ k s n ln a e er el', L 1050 [enc d, 0] = some [k, s, n, ln, a, e, er, el'] := by
 rw [bM, aoJ]
 by_cases hg : (16384 : Int) < (d.l.length : Int)
 ·simp only [Sj, dN, jH, mO, aY, aH, aK, Nat.reduceLT, List.map, bF, gI, aC, hg, if_true]
  exact ⟨_, _, _, _, _, _, _, _, rfl⟩
 ·obtain ⟨p, hp, hB⟩ := WX d hb (by omega) 0 (by omega)
  have hB' : L 12800 [enc d, 0] = some [0, enc d, 0, (p : Int)] := hB
  have c0 : ¬ ((0 : Int) < 0) := by omega
  have c1 : ¬ ((d.l.length : Int) < 0) := by omega
  have c2 : ¬ ((p : Int) < 0) := by omega
  have c3 : ¬ ((d.l.length : Int) < (p : Int)) := by omega
  by_cases he : (p : Int) = (d.l.length : Int)
  ·simp only [Sj, dN, jH, xH, mO, iD, aY, aH, aK, Nat.reduceLT, List.map, bF, gI, aC, hg, if_false, c0, c1, gY, fQ, hB', Option.isSome_some, if_true, Option.getD_some, c2, c3, he, Int.lt_irrefl, fin]
   exact ⟨_, _, _, _, _, _, _, _, rfl⟩
  ·obtain ⟨e, h1, h2, hE⟩ := aeX d hb (by omega) p (by omega)
   have c4 : ¬ ((e : Int) < (p : Int)) := by omega
   have c5 : ¬ ((d.l.length : Int) < (e : Int)) := by omega
   have hpart := amN hb p e
   have hpl : ((d.l.take e).drop p).length = e - p := by simp only [List.length_drop, List.length_take]; omega
   have hp0 : 0 < ((d.l.take e).drop p).length := by omega
   obtain ⟨na, nb, hN⟩ := VJ _ hpart (by rw [bC]; omega)
   obtain ⟨b1, b2⟩ := hpart.2 0 (by rw [bC]; exact hp0)
   generalize hq : (d.l.take e).drop p = q at *
   simp only [bC] at b1 b2
   have b1 : ¬ (q[0]).n < 0 := by omega
   have hat : (dL q).at 0 = q[0] := by
    have := bV (d := dL q) (i := 0) (by rw [bC]; exact hp0)
    simpa using this
   have c6 : (0 : Int) < (q.length : Int) := by omega
   have c7 : (q.length : Int) < 1000000000 := by omega
   have c8 : ((([D.i 32] ++ q : List D).length : Nat) : Int) < 1000000000 := by simp only [List.length_append, List.length_cons, List.length_nil]; omega
   simp only [Sj, dN, jH, xH, mO, iD, aY, aH, aK, Nat.reduceLT, List.map, bF, gI, aC, hg, if_false, c0, c1, gY, fQ, hB', hE, Option.isSome_some, if_true, Option.getD_some, c2, c3, c4, c5, if_neg he, KZ, aN.den, Lc, La, iG, D.hd, l_p, Ee, n_i, List.getElem?_cons_zero, List.getElem?_cons_succ, Int.toNat_natCast, hq, bC, c6, c7, c8, Gt, Gu, hat, b1, b2, hN]
   repeat' first | exact ⟨_, _, _, _, _, _, _, _, rfl⟩ | split
theorem jO (d : D) (hb : Bs d) : ∃ b, (b = 0 ∨ b = 1) ∧ L 1000 [enc d] = some [b] := by
 obtain ⟨k, s, n, ln', a, e, er, el', h⟩ := adD d hb
 rw [bM, aoK]
 simp only [abV, dN, jH, xH, iD, aY, aH, aK, Nat.reduceLT, List.map, bF, gY, fQ, h, Option.isSome_some, if_true, Option.getD_some]
 split
 ·split
  ·split
   ·exact ⟨1, .inr rfl, rfl⟩
   ·exact ⟨0, .inl rfl, rfl⟩
  ·exact ⟨0, .inl rfl, rfl⟩
 ·exact ⟨0, .inl rfl, rfl⟩
end Go.As.Try
end
section
namespace Go.As.Try
open Go hiding Stat Spec shape
open Go.As
set_option maxRecDepth 100000
theorem Xf {d : D} (h : Wd .str d) : Bs d := by
 obtain ⟨s, rfl⟩ := h.s
 exact auA s
theorem IV {kids : D} (h : Wd (.sl 6) kids) {i : Nat} (hi : i < kids.l.length) : ∃ k s n ks, kids.l[i] = dL [.i k, s, .i n, ks] ∧ rG .u8 k ∧ Wd .str s ∧ rG .i64 n ∧ Wd (.sl 6) ks := by
 obtain ⟨r, h1, hl, hc⟩ := h.elN (cs := [.int .u8, .str, .int .i64, .sl 6]) rfl _ (List.getElem_mem hi)
 match r, hl with
 | [a, b, c, d], _ =>
   obtain ⟨k, rfl, hk⟩ := (hc 0 _ _ rfl rfl).i
   obtain ⟨n, rfl, hn⟩ := (hc 2 _ _ rfl rfl).i
   exact ⟨k, b, n, d, h1, hk, hc 1 _ _ rfl rfl, hn, hc 3 _ _ rfl rfl⟩
theorem YS (d : D) (hb : Bs d) : ∃ b, (b = 0 ∨ b = 1) ∧ L 12900 [enc d, 0] = some [b, enc d, 0] := by
 obtain ⟨b, hb1, h⟩ := jO d hb
 rw [bM, afO]
 simp only [U8, zz, aN.den, Nat.reduceLT, h]
 rcases hb1 with rfl | rfl
 ·exact ⟨_, .inl rfl, rfl⟩
 ·exact ⟨_, .inr rfl, rfl⟩
theorem Nj : ∀ (m deep : Nat), 21 - deep ≤ m → ∀ (k n left loc : Int) (s kids : D), Wd .str s → Wd (.sl 6) kids →
 Tot 5050 [k, enc s, n, enc kids, (deep : Int), left, loc] is3
 | m, deep, hm, k, n, left, loc, s, kids, hs, hk => by
   refine Tot.of ?_
   rw [aoB]
   simp only [abJ, zz, aN.den, Nat.reduceLT]
   refine .ite (fun _ => .out Tv) fun _ => .ite (fun _ => .out Tv) fun hd => .jump ?_
   obtain ⟨m, rfl⟩ : ∃ m', m = m' + 1 := ⟨m - 1, by omega⟩
   have ih := Nj m (deep + 1) (by omega)
   have hlen := hk.len
   have w0 := bJ (n := deep) (by omega)
   have loop : ∀ (j i : Nat) (l' c' : Int), i + j = kids.l.length → Tot 5051 [(deep : Int), enc kids, (kids.l.length : Int), (i : Int), l', c', k, enc s, n] is3 := by
    intro j
    induction j with
    | zero =>
      intro i l' c' hi
      have c1 : ¬ (i : Int) < (kids.l.length : Int) := by omega
      obtain ⟨b, hb, hR⟩ := YS s (Xf hs)
      refine Tot.of ?_
      rw [afM]
      simp only [Xu, zz, aN.den, Nat.reduceLT, c1, hR]
      rcases hb with rfl | rfl
      ·simp only [Int.reduceEq, if_true, if_false]
       repeat' first | exact .out Tv | exact .out anG | refine .ite (fun _ => ?_) (fun _ => ?_)
      ·simp only [Int.reduceEq, if_true, if_false]
       repeat' first | exact .out Tv | exact .out anG | refine .ite (fun _ => ?_) (fun _ => ?_)
    | succ j ih2 =>
      intro i l' c' hi
      have hil : i < kids.l.length := by omega
      have c1 : (i : Int) < (kids.l.length : Int) := by omega
      have c2 : ¬ ((i : Int) < 0) := by omega
      have w := bJ (n := i) (by omega)
      obtain ⟨k', s', n', ks', he, _, h1, _, h2⟩ := IV hk hil
      obtain ⟨ys, hR, a, b, c, rfl, hc⟩ := ih k' n' l' c' s' ks' h1 h2
      refine Tot.of ?_
      rw [afM]
      simp only [Xu, zz, aN.den, Nat.reduceLT, c1, c2, bV hil, he, jA, List.getElem?_cons_zero, List.getElem?_cons_succ, w0, w, hR]
      exact .ite (fun _ => .out Tv) fun _ => .jump (ih2 (i + 1) _ _ (by omega))
   exact loop kids.l.length 0 _ _ (by omega)
theorem YW (k n loc : Int) (s kids : D) (hs : Wd .str s) (hk : Wd (.sl 6) kids) : Tot 800 [k, enc s, n, enc kids, loc] pK := by
 obtain ⟨ys, hR, a, b, c, rfl, hc⟩ := Nj 20 1 (by omega) k n 1000 loc s kids hs hk
 have hR' : L 5050 [k, enc s, n, enc kids, 1, 1000, loc] = some [a, b, c] := hR
 refine Tot.of ?_
 rw [ayK]
 simp only [apI, zz, aN.den, Nat.reduceLT, hR']
 exact .ite (fun _ => .out bT) fun _ => .out dY
end Go.As.Try
end
section
namespace Go.As.Try
open Go hiding Stat Spec shape
open Go.As
set_option maxRecDepth 100000
def anE (a b c : Int) (ys : List Int) : Prop := ∃ i : Int, ys = [a, b, c, i]
def aqM (a b c : Int) (ys : List Int) : Prop := ∃ i : Int, ys = [a, b, c, i] ∧ (i = 0 ∨ i = 1)
theorem EG (kids loc : D) (nm' code : Int) (hk : Wd (.sl 6) kids) : ∀ (j i : Nat), i + j = kids.l.length → Tot 5401 [enc kids, (kids.l.length : Int), (i : Int), nm', enc loc, code] (anE nm' (enc loc) code)
 | 0, i, hi => by
   have c1 : ¬ (i : Int) < (kids.l.length : Int) := by omega
   refine Tot.of ?_
   rw [afI]
   simp only [Xp, zz, aN.den, Nat.reduceLT, c1]
   exact .out ⟨_, rfl⟩
 | j + 1, i, hi => by
   have hlen := hk.len
   have hil : i < kids.l.length := by omega
   have c1 : (i : Int) < (kids.l.length : Int) := by omega
   have c2 : ¬ ((i : Int) < 0) := by omega
   have w := bJ (n := i) (by omega)
   obtain ⟨k', s', n', ks', he, _, h1, _, h2⟩ := IV hk hil
   obtain ⟨ys, hR, b, rfl, hb⟩ := YW k' n' (loc.l.length : Int) s' ks' h1 h2
   refine Tot.of ?_
   rw [afI]
   simp only [Xp, zz, aN.den, Nat.reduceLT, c1, c2, bV hil, he, jA, List.getElem?_cons_zero, List.getElem?_cons_succ, w, hR]
   exact .ite (fun _ => .out ⟨_, rfl⟩) fun _ => .jump (EG kids loc nm' code hk j (i + 1) (by omega))
theorem Zx (kids loc : D) (nm' code : Int) (hk : Wd (.sl 6) kids) : Tot 5000 [enc kids, nm', enc loc, code] (aqM nm' (enc loc) code) := by
 have h0 : Tot 5400 [enc kids, nm', enc loc, code] (anE nm' (enc loc) code) := by
  refine Tot.of ?_
  rw [anR]
  simp only [abB, zz, aN.den, Nat.reduceLT]
  exact .jump (EG kids loc nm' code hk kids.l.length 0 (by omega))
 obtain ⟨ys, hR, i, rfl⟩ := h0
 refine Tot.of ?_
 rw [aoC]
 simp only [abL, zz, aN.den, Nat.reduceLT, hR]
 exact .ite (fun _ => .out ⟨_, rfl, .inl rfl⟩) fun _ => .out ⟨_, rfl, .inr rfl⟩
theorem PD (o : Int) : Tot 1200 [o] (fun ys => ∃ k, ys = [k]) := by
 refine Tot.of ?_
 rw [aoG]
 simp only [abT, zz, aN.den, Nat.reduceLT]
 repeat' first | exact .out ⟨_, rfl⟩ | refine .ite (fun _ => ?_) (fun _ => ?_)
theorem qZ (o : Int) : Tot 1250 [o] pK := by
 refine Tot.of ?_
 rw [aoF]
 simp only [abS, zz, aN.den, Nat.reduceLT]
 repeat' first | exact .out bT | exact .out dY | refine .ite (fun _ => ?_) (fun _ => ?_)
theorem qP (o : Int) : Tot 1300 [o] pK := by
 refine Tot.of ?_
 rw [aoE]
 simp only [abR, zz, aN.den, Nat.reduceLT]
 repeat' first | exact .out bT | exact .out dY | refine .ite (fun _ => ?_) (fun _ => ?_)
theorem Hu (o : Int) : Tot 1350 [o] pK := by
 refine Tot.of ?_
 rw [aoD]
 simp only [abQ, zz, aN.den, Nat.reduceLT]
 repeat' first | exact .out bT | exact .out dY | refine .ite (fun _ => ?_) (fun _ => ?_)
theorem auD (k n : Int) (s kids : D) (hs : Wd .str s) (hk : Wd (.sl 6) kids) : Tot 1150 [k, enc s, n, enc kids] pK := by
 obtain ⟨b, hb, hR⟩ := jO s (Xf hs)
 have hlen := hk.len
 refine Tot.of ?_
 rw [agJ]
 by_cases h1 : (kids.l.length : Int) < 1
 ·simp only [MI, zz, aN.den, Nat.reduceLT, hR, h1]
  repeat' first | exact .out bT | exact .out dY | refine .ite (fun _ => ?_) (fun _ => ?_)
 ·have w : IntKind.i64.wrap ((kids.l.length : Int) - 1) = (kids.l.length : Int) - 1 := lM (by omega) (by omega)
  have c1 : ¬ ((kids.l.length : Int) - 1 < 0) := by omega
  by_cases h2 : (2 : Int) < (kids.l.length : Int)
  ·simp only [MI, zz, aN.den, Nat.reduceLT, hR, h1, h2]
   repeat' first | exact .out bT | exact .out dY | refine .ite (fun _ => ?_) (fun _ => ?_)
  ·have c2 : (kids.l.length : Int) - 1 < 2 := by omega
   simp only [MI, zz, aN.den, Nat.reduceLT, hR, h1, h2, w, c1, c2]
   repeat' first | exact .out bT | exact .out dY | refine .ite (fun _ => ?_) (fun _ => ?_)
theorem apY (k n x5 : Int) (s s' : D) (hs : Wd .str s) (hs' : Wd .str s') : Tot 1400 [k, enc s, n, enc s', x5] pK := by
 obtain ⟨b, hb, hR⟩ := jO s (Xf hs)
 obtain ⟨b', hb', hR'⟩ := jO s' (Xf hs')
 obtain ⟨ys, hC, c, rfl, hc⟩ := Hu k
 refine Tot.of ?_
 rw [afN]
 simp only [Xv, zz, aN.den, Nat.reduceLT, hR, hR', hC]
 repeat' first | exact .out bT | exact .out dY | refine .ite (fun _ => ?_) (fun _ => ?_)
end Go.As.Try
end
section
namespace Go.As.Try
open Go hiding Stat Spec shape
open Go.As
set_option maxRecDepth 100000
def E1 : D := .p (.i 1) (.p (.i 0) (.p (.i 0) (.p (.i 1) (.i 0))))
theorem BU : Bs (.i 0) := ⟨rfl, fun i h => by simp [D.l] at h⟩
theorem BR {b : Int} (h1 : 0 ≤ b) (h2 : b < 256) : Bs (.p (.i b) (.i 0)) := ⟨rfl, fun i h => by
 simp only [D.l, List.length_cons, List.length_nil] at h
 obtain rfl : i = 0 := by omega
 exact ⟨h1, h2⟩⟩
theorem gQ (k n x5 : Int) (s s' : D) (hs : Bs s) (hs' : Bs s') : Tot 1400 [k, enc s, n, enc s', x5] pK := by
 obtain ⟨b, hb, hR⟩ := jO s hs
 obtain ⟨b', hb', hR'⟩ := jO s' hs'
 obtain ⟨ys, hC, c, rfl, hc⟩ := Hu k
 refine Tot.of ?_
 rw [afN]
 simp only [Xv, zz, aN.den, Nat.reduceLT, hR, hR', hC]
 repeat' first | exact .out bT | exact .out dY | refine .ite (fun _ => ?_) (fun _ => ?_)
theorem amQ : L 1150 [1, enc (.i 0), 0, enc (.i 1)] = some [1] := by
 rw [bM, agJ]
 simp only [MI, zz, aN.den, Nat.reduceLT, Ee, List.length_nil, Int.reduceLT, Int.reduceEq]
 rfl
theorem Zy (a b : Int) : L 5450 [enc (.i 1), a, b] = some [b] := by
 rw [bM, anQ]
 simp only [abA, zz, aN.den, Nat.reduceLT, Ee, List.length_nil, fin]
 rw [bM, anP]
 simp only [aaZ, zz, aN.den, Nat.reduceLT]
 rfl
theorem Bz : L 5250 [enc (dL [E1]), 2, 1] = some [2, enc (dL [E1])] := by
 have h1 := amQ
 have h2 := Zy 3 2
 have w1 : IntKind.i64.wrap (1 + 1) = 2 := lM (by omega) (by omega)
 have w2 : IntKind.i64.wrap (2 + 1) = 3 := lM (by omega) (by omega)
 have w3 : IntKind.i64.wrap (0 + 1) = 1 := lM (by omega) (by omega)
 have ha : (dL [E1]).at 0 = E1 := rfl
 have g0 : E1.hd 0 = .i 1 := rfl
 have g1 : E1.hd 1 = .i 0 := rfl
 have g2 : E1.hd 2 = .i 0 := rfl
 have g3 : E1.hd 3 = .i 1 := rfl
 rw [bM, anU]
 simp only [abE, zz, aN.den, Nat.reduceLT, bC, List.length_cons, List.length_nil, Nat.zero_add, fin]
 rw [bM, afL]
 simp only [Xt, zz, aN.den, Nat.reduceLT, bC, List.length_cons, List.length_nil, Nat.zero_add, ha, g0, g1, g2, g3, w1, w2, w3, h1, h2, Int.reduceLT, Int.reduceEq, fin, Int.natCast_one, Int.lt_irrefl]
 rw [bM, afL]
 simp only [Xt, zz, aN.den, Nat.reduceLT, Int.lt_irrefl]
 rfl
theorem YU (k m : Int) : L 5500 [enc (.i 1), k, m] = some [k, m, 1] := by
 rw [bM, anO]
 simp only [aaX, zz, aN.den, Nat.reduceLT, Ee, List.length_nil, fin]
 rw [bM, anN]
 simp only [aaW, zz, aN.den, Nat.reduceLT]
 rfl
theorem YT (a k m : Int) : L 5600 [enc (.i 1), a, k, m] = some [a, k, m, 1] := by
 rw [bM, anM]
 simp only [aaV, zz, aN.den, Nat.reduceLT, Ee, List.length_nil, fin]
 rw [bM, anL]
 simp only [aaU, zz, aN.den, Nat.reduceLT]
 rfl
theorem aaQ (k m : Int) : L 5150 [k, m] = some [k, m, 1] := by
 rw [bM, anY]
 simp only [abH, zz, aN.den, Nat.reduceLT, fin]
 rw [bM, anX]
 rfl
theorem aaP (k m : Int) : L 5200 [k, m] = some [1, k, m, 1] := by
 rw [bM, anW]
 simp only [abG, zz, aN.den, Nat.reduceLT, fin]
 rw [bM, anV]
 rfl
theorem IU (k m : Int) : L 5100 [k, m] = some [m] := by
 rw [bM, aoA]
 simp only [abI, zz, aN.den, Nat.reduceLT, fin]
 rw [bM, anZ]
 rfl
theorem mW (k m : Int) : L 5300 [1, enc (dL [E1]), k, m] = some [enc (dL [E1]), k, m, 1] := by
 have h2 := YU k m
 have w3 : IntKind.i64.wrap (0 + 1) = 1 := lM (by omega) (by omega)
 have ha : (dL [E1]).at 0 = E1 := rfl
 have g0 : E1.hd 0 = .i 1 := rfl
 have g1 : E1.hd 1 = .i 0 := rfl
 have g3 : E1.hd 3 = .i 1 := rfl
 rw [bM, anT]
 simp only [abD, zz, aN.den, Nat.reduceLT, fin]
 rw [bM, afK]
 simp only [Xr, zz, aN.den, Nat.reduceLT, bC, List.length_cons, List.length_nil, Nat.zero_add, ha, g0, g1, g3, w3, h2, Int.reduceLT, Int.reduceEq, fin, Int.natCast_one, Int.lt_irrefl]
 rw [bM, afK]
 simp only [Xr, zz, aN.den, Nat.reduceLT, Int.lt_irrefl]
 rfl
theorem OT (k m : Int) : L 5350 [1, enc (dL [E1]), k, m] = some [enc (dL [E1]), 1, k, m, 1] := by
 have h2 := YT 1 k m
 have w3 : IntKind.i64.wrap (0 + 1) = 1 := lM (by omega) (by omega)
 have ha : (dL [E1]).at 0 = E1 := rfl
 have g0 : E1.hd 0 = .i 1 := rfl
 have g1 : E1.hd 1 = .i 0 := rfl
 have g3 : E1.hd 3 = .i 1 := rfl
 rw [bM, anS]
 simp only [abC, zz, aN.den, Nat.reduceLT, fin]
 rw [bM, afJ]
 simp only [Xq, zz, aN.den, Nat.reduceLT, bC, List.length_cons, List.length_nil, Nat.zero_add, ha, g0, g1, g3, w3, h2, Int.reduceLT, Int.reduceEq, fin, Int.natCast_one, Int.lt_irrefl]
 rw [bM, afJ]
 simp only [Xq, zz, aN.den, Nat.reduceLT, Int.lt_irrefl]
 rfl
def VW (ys : List Int) : Prop := ∃ b l, ys = b :: l ∧ (b = 0 ∨ b = 1)
theorem XZ {l : List Int} : VW (0 :: l) := ⟨0, l, rfl, .inl rfl⟩
theorem XY {l : List Int} : VW (1 :: l) := ⟨1, l, rfl, .inr rfl⟩
theorem Po (a b c d e f g : Int) : Tot 12400 [a, b, c, d, e, f, g] VW := by
 obtain ⟨ys, h1, o, rfl, _⟩ := gQ a b c _ _ (BR (b := 97) (by omega) (by omega)) BU
 obtain ⟨ys, h2, q, rfl, _⟩ := qZ e
 obtain ⟨ys, h3, r, rfl, _⟩ := qP e
 obtain ⟨n, _, h4⟩ := jO _ BU
 refine Tot.of ?_
 rw [agA]
 simp only [Vf, zz, aN.den, Nat.reduceLT, h1, h2, h3, h4, IU]
 repeat' first | exact .out XZ | exact .out XY | refine .ite (fun _ => ?_) (fun _ => ?_)
theorem Pn (a b c d e f g : Int) : Tot 12500 [a, b, c, d, e, f, g] VW := by
 obtain ⟨ys, h1, o, rfl, _⟩ := gQ a b c _ _ (BR (b := 97) (by omega) (by omega)) BU
 obtain ⟨ys, h2, q, rfl, _⟩ := qZ e
 obtain ⟨ys, h3, r, rfl, _⟩ := qP e
 obtain ⟨n, _, h4⟩ := jO _ BU
 refine Tot.of ?_
 rw [afY]
 simp only [Vd, zz, aN.den, Nat.reduceLT, h1, h2, h3, h4, IU]
 repeat' first | exact .out XZ | exact .out XY | refine .ite (fun _ => ?_) (fun _ => ?_)
theorem acQ (a b c d e f g h i : Int) : Tot 12450 [a, b, c, d, e, f, g, h, i] VW := by
 obtain ⟨ys, h0, o, rfl, _⟩ := gQ 1 a b _ _ (BR (b := 98) (by omega) (by omega)) BU
 obtain ⟨ys, h1, o', rfl, _⟩ := gQ c d e _ _ (BR (b := 97) (by omega) (by omega)) (BR (b := 98) (by omega) (by omega))
 obtain ⟨ys, h2, q, rfl, _⟩ := qZ g
 obtain ⟨ys, h3, r, rfl, _⟩ := qP g
 obtain ⟨n, _, h4⟩ := jO _ BU
 refine Tot.of ?_
 rw [afZ]
 simp only [Ve, zz, aN.den, Nat.reduceLT, h0, h1, h2, h3, h4, IU]
 repeat' first | exact .out XZ | exact .out XY | refine .ite (fun _ => ?_) (fun _ => ?_)
theorem acP (a b c d e f g h i : Int) : Tot 12550 [a, b, c, d, e, f, g, h, i] VW := by
 obtain ⟨ys, h0, o, rfl, _⟩ := gQ 1 a b _ _ (BR (b := 98) (by omega) (by omega)) BU
 obtain ⟨ys, h1, o', rfl, _⟩ := gQ c d e _ _ (BR (b := 97) (by omega) (by omega)) (BR (b := 98) (by omega) (by omega))
 obtain ⟨ys, h2, q, rfl, _⟩ := qZ g
 obtain ⟨ys, h3, r, rfl, _⟩ := qP g
 obtain ⟨n, _, h4⟩ := jO _ BU
 refine Tot.of ?_
 rw [afX]
 simp only [Vb, zz, aN.den, Nat.reduceLT, h0, h1, h2, h3, h4, IU]
 repeat' first | exact .out XZ | exact .out XY | refine .ite (fun _ => ?_) (fun _ => ?_)
def adM (m k : Nat) (ys : List Int) : Prop := (∃ l, ys = 0 :: l) ∨ (m = 1 ∧ low ys 0 = 1 ∧ low ys k = 1 ∧ low ys (k + 1) = enc (dL [E1]))
theorem zO {m k : Nat} {l : List Int} : adM m k (0 :: l) := .inl ⟨l, rfl⟩
def vI (m : Nat) : D := dL (List.replicate m E1)
theorem wL (m : Nat) : (vI m).l.length = m := by unfold vI; rw [bC, List.length_replicate]
theorem zK (m : Nat) (hm : 1 ≤ m) (a b c d e f g : Int) : Tot 12600 [a, b, c, d, e, f, enc (vI m), g] (adM m 9) := by
 obtain ⟨ys, h1, o, rfl, _⟩ := gQ a b c _ _ (BR (b := 97) (by omega) (by omega)) BU
 obtain ⟨ys, h2, q, rfl, hq⟩ := qZ e
 obtain ⟨ys, h3, r, rfl, _⟩ := qP e
 obtain ⟨n, _, h4⟩ := jO _ BU
 refine Tot.of ?_
 rw [afW]
 by_cases h : m = 1
 ·subst h
  have h5 := Bz
  simp only [O5, zz, aN.den, Nat.reduceLT, h1, h2, h3, h4, vI, List.replicate, h5]
  repeat' first | exact .out zO | exact .out (.inr ⟨rfl, rfl, rfl, rfl⟩) | refine .ite (fun _ => ?_) (fun _ => ?_)
 ·have c1 : ¬ ((m : Int) = q) := by rcases hq with rfl | rfl <;> omega
  simp only [O5, zz, aN.den, Nat.reduceLT, h1, h2, h3, h4, wL, c1]
  repeat' first | exact .out zO | refine .ite (fun _ => ?_) (fun _ => ?_)
theorem zJ (m : Nat) (hm : 1 ≤ m) (a b c d e f g : Int) : Tot 12700 [a, b, c, d, e, f, enc (vI m), g] (adM m 9) := by
 obtain ⟨ys, h1, o, rfl, _⟩ := gQ a b c _ _ (BR (b := 97) (by omega) (by omega)) BU
 obtain ⟨ys, h2, q, rfl, hq⟩ := qZ e
 obtain ⟨ys, h3, r, rfl, _⟩ := qP e
 obtain ⟨n, _, h4⟩ := jO _ BU
 refine Tot.of ?_
 rw [afU]
 by_cases h : m = 1
 ·subst h
  have h5 := Bz
  simp only [O1, zz, aN.den, Nat.reduceLT, h1, h2, h3, h4, vI, List.replicate, h5]
  repeat' first | exact .out zO | exact .out (.inr ⟨rfl, rfl, rfl, rfl⟩) | refine .ite (fun _ => ?_) (fun _ => ?_)
 ·have c1 : ¬ ((m : Int) = q) := by rcases hq with rfl | rfl <;> omega
  simp only [O1, zz, aN.den, Nat.reduceLT, h1, h2, h3, h4, wL, c1]
  repeat' first | exact .out zO | refine .ite (fun _ => ?_) (fun _ => ?_)
theorem acO (m : Nat) (hm : 1 ≤ m) (a b c d e f g h' i : Int) : Tot 12650 [a, b, c, d, e, f, g, h', enc (vI m), i] (adM m 11) := by
 obtain ⟨ys, h0, o, rfl, _⟩ := gQ 1 a b _ _ (BR (b := 98) (by omega) (by omega)) BU
 obtain ⟨ys, h1, o', rfl, _⟩ := gQ c d e _ _ (BR (b := 97) (by omega) (by omega)) (BR (b := 98) (by omega) (by omega))
 obtain ⟨ys, h2, q, rfl, hq⟩ := qZ g
 obtain ⟨ys, h3, r, rfl, _⟩ := qP g
 obtain ⟨n, _, h4⟩ := jO _ BU
 refine Tot.of ?_
 rw [afV]
 by_cases h : m = 1
 ·subst h
  have h5 := Bz
  simp only [O4, zz, aN.den, Nat.reduceLT, h0, h1, h2, h3, h4, vI, List.replicate, h5]
  repeat' first | exact .out zO | exact .out (.inr ⟨rfl, rfl, rfl, rfl⟩) | refine .ite (fun _ => ?_) (fun _ => ?_)
 ·have c1 : ¬ ((m : Int) = q) := by rcases hq with rfl | rfl <;> omega
  simp only [O4, zz, aN.den, Nat.reduceLT, h0, h1, h2, h3, h4, wL, c1]
  repeat' first | exact .out zO | refine .ite (fun _ => ?_) (fun _ => ?_)
theorem acN (m : Nat) (hm : 1 ≤ m) (a b c d e f g h' i : Int) : Tot 12750 [a, b, c, d, e, f, g, h', enc (vI m), i] (adM m 11) := by
 obtain ⟨ys, h0, o, rfl, _⟩ := gQ 1 a b _ _ (BR (b := 98) (by omega) (by omega)) BU
 obtain ⟨ys, h1, o', rfl, _⟩ := gQ c d e _ _ (BR (b := 97) (by omega) (by omega)) (BR (b := 98) (by omega) (by omega))
 obtain ⟨ys, h2, q, rfl, hq⟩ := qZ g
 obtain ⟨ys, h3, r, rfl, _⟩ := qP g
 obtain ⟨n, _, h4⟩ := jO _ BU
 refine Tot.of ?_
 rw [afT]
 by_cases h : m = 1
 ·subst h
  have h5 := Bz
  simp only [OZ, zz, aN.den, Nat.reduceLT, h0, h1, h2, h3, h4, vI, List.replicate, h5]
  repeat' first | exact .out zO | exact .out (.inr ⟨rfl, rfl, rfl, rfl⟩) | refine .ite (fun _ => ?_) (fun _ => ?_)
 ·have c1 : ¬ ((m : Int) = q) := by rcases hq with rfl | rfl <;> omega
  simp only [OZ, zz, aN.den, Nat.reduceLT, h0, h1, h2, h3, h4, wL, c1]
  repeat' first | exact .out zO | refine .ite (fun _ => ?_) (fun _ => ?_)
end Go.As.Try
end
section
namespace Go.As.Try
open Go hiding Stat Spec shape
open Go.As
set_option maxRecDepth 100000
theorem amB (x0 x2 x3 x4 x5 x6 x7 x8 : Int) : Tot 951 [x0, 0, x2, x3, x4, x5, x6, x7, x8] pK := by
 obtain ⟨ys, a1, b1, l1, rfl, g1⟩ := Po x0 1 0 0 x3 0 0
 obtain ⟨ys, a2, b2, l2, rfl, g2⟩ := Po x0 0 0 0 x3 0 0
 obtain ⟨ys, a3, b3, l3, rfl, g3⟩ := acQ 0 0 x0 0 0 0 x3 0 0
 obtain ⟨ys, a4, b4, l4, rfl, g4⟩ := Pn x0 1 0 0 x3 0 0
 obtain ⟨ys, a5, b5, l5, rfl, g5⟩ := Pn x0 0 0 0 x3 0 0
 obtain ⟨ys, a6, b6, l6, rfl, g6⟩ := acP 0 0 x0 0 0 0 x3 0 0
 obtain ⟨ys, a7, k, rfl⟩ := PD x3
 refine Tot.of ?_
 rw [atD]
 simp only [aiL, zz, aN.den, Nat.reduceLT, Int.lt_irrefl, a1, a2, a3, a4, a5, a6, a7, aaQ, aaP]
 repeat' first | exact .out bT | exact .out dY | refine .ite (fun _ => ?_) (fun _ => ?_) | (exfalso; omega)
theorem amA (x0 x2 x3 x4 x5 x6 x7 x8 : Int) : Tot 952 [x0, 0, x2, x3, x4, x5, x6, x7, x8] pK := by
 obtain ⟨ys, a1, b1, l1, rfl, g1⟩ := Po x0 1 0 0 x3 0 0
 obtain ⟨ys, a2, b2, l2, rfl, g2⟩ := Po x0 0 0 0 x3 0 0
 obtain ⟨ys, a3, b3, l3, rfl, g3⟩ := acQ 0 0 x0 0 0 0 x3 0 0
 obtain ⟨ys, a4, b4, l4, rfl, g4⟩ := Pn x0 1 0 0 x3 0 0
 obtain ⟨ys, a5, b5, l5, rfl, g5⟩ := Pn x0 0 0 0 x3 0 0
 obtain ⟨ys, a6, b6, l6, rfl, g6⟩ := acP 0 0 x0 0 0 0 x3 0 0
 obtain ⟨ys, a7, k, rfl⟩ := PD x3
 refine Tot.of ?_
 rw [atC]
 simp only [aiK, zz, aN.den, Nat.reduceLT, Int.lt_irrefl, a1, a2, a3, a4, a5, a6, a7, aaQ, aaP]
 repeat' first | exact .out bT | exact .out dY | refine .ite (fun _ => ?_) (fun _ => ?_) | (exfalso; omega)
theorem Un (m : Nat) (hm : 1 ≤ m) (x0 x3 x4 x5 x6 x7 x8 x9 : Int) : Tot 953 [x0, (m : Int), (m : Int), x3, x4, x5, x6, x7, x8, x9, enc (vI m)] pK := by
 obtain ⟨ys, a7, k, rfl⟩ := PD x4
 by_cases hn : x6 = -1
 ·by_cases h3 : x0 = 3
  ·subst h3
   obtain ⟨ys, hR, hC⟩ := zK m hm 3 1 0 0 x4 0 0
   refine Tot.of ?_
   rw [Ij]
   rcases hC with ⟨l, rfl⟩ | ⟨rfl, q1, q2, q3⟩
   ·simp only [sV, zz, aN.den, Nat.reduceLT, Int.lt_irrefl, hn, hR, Int.reduceEq]
    exact .out bT
   ·simp only [sV, zz, aN.den, Nat.reduceLT, Int.lt_irrefl, hn, hR, q1, q2, q3, a7, mW, Int.reduceEq, Int.natCast_one]
    repeat' first | exact .out bT | exact .out dY | refine .ite (fun _ => ?_) (fun _ => ?_) | (exfalso; omega)
  by_cases h8 : x0 = 8
  ·subst h8
   obtain ⟨ys, hR, hC⟩ := zK m hm 8 1 0 0 x4 0 0
   refine Tot.of ?_
   rw [Ij]
   rcases hC with ⟨l, rfl⟩ | ⟨rfl, q1, q2, q3⟩
   ·simp only [sV, zz, aN.den, Nat.reduceLT, Int.lt_irrefl, hn, hR, Int.reduceEq]
    exact .out bT
   ·simp only [sV, zz, aN.den, Nat.reduceLT, Int.lt_irrefl, hn, hR, q1, q2, q3, a7, mW, Int.reduceEq, Int.natCast_one]
    repeat' first | exact .out bT | exact .out dY | refine .ite (fun _ => ?_) (fun _ => ?_) | (exfalso; omega)
  by_cases h5 : x0 = 5
  ·subst h5
   obtain ⟨ys, hR, hC⟩ := zK m hm 5 1 0 0 x4 0 0
   refine Tot.of ?_
   rw [Ij]
   rcases hC with ⟨l, rfl⟩ | ⟨rfl, q1, q2, q3⟩
   ·simp only [sV, zz, aN.den, Nat.reduceLT, Int.lt_irrefl, hn, hR, Int.reduceEq]
    exact .out bT
   ·simp only [sV, zz, aN.den, Nat.reduceLT, Int.lt_irrefl, hn, hR, q1, q2, q3, a7, mW, Int.reduceEq, Int.natCast_one]
    repeat' first | exact .out bT | exact .out dY | refine .ite (fun _ => ?_) (fun _ => ?_) | (exfalso; omega)
  by_cases h4 : x0 = 4
  ·subst h4
   obtain ⟨ys, hR, hC⟩ := acO m hm 0 0 4 0 0 0 x4 0 0
   refine Tot.of ?_
   rw [Ij]
   rcases hC with ⟨l, rfl⟩ | ⟨rfl, q1, q2, q3⟩
   ·simp only [sV, zz, aN.den, Nat.reduceLT, Int.lt_irrefl, hn, hR, Int.reduceEq]
    exact .out bT
   ·simp only [sV, zz, aN.den, Nat.reduceLT, Int.lt_irrefl, hn, hR, q1, q2, q3, a7, OT, Int.reduceEq, Int.natCast_one]
    repeat' first | exact .out bT | exact .out dY | refine .ite (fun _ => ?_) (fun _ => ?_) | (exfalso; omega)
  obtain ⟨ys, hR, hC⟩ := zK m hm x0 0 0 0 x4 0 0
  refine Tot.of ?_
  rw [Ij]
  rcases hC with ⟨l, rfl⟩ | ⟨rfl, q1, q2, q3⟩
  ·simp only [sV, zz, aN.den, Nat.reduceLT, Int.lt_irrefl, hn, h3, h8, h5, h4, hR, Int.reduceEq]
   exact .out bT
  ·simp only [sV, zz, aN.den, Nat.reduceLT, Int.lt_irrefl, hn, h3, h8, h5, h4, hR, q1, q2, q3, a7, mW, Int.reduceEq, Int.natCast_one]
   repeat' first | exact .out bT | exact .out dY | refine .ite (fun _ => ?_) (fun _ => ?_) | (exfalso; omega)
 ·by_cases h3 : x0 = 3
  ·subst h3
   obtain ⟨ys, hR, hC⟩ := zJ m hm 3 1 0 0 x4 0 0
   refine Tot.of ?_
   rw [Ij]
   rcases hC with ⟨l, rfl⟩ | ⟨rfl, q1, q2, q3⟩
   ·simp only [sV, zz, aN.den, Nat.reduceLT, Int.lt_irrefl, hn, hR, Int.reduceEq]
    exact .out bT
   ·simp only [sV, zz, aN.den, Nat.reduceLT, Int.lt_irrefl, hn, hR, q1, q2, q3, a7, mW, Int.reduceEq, Int.natCast_one]
    repeat' first | exact .out bT | exact .out dY | refine .ite (fun _ => ?_) (fun _ => ?_) | (exfalso; omega)
  by_cases h8 : x0 = 8
  ·subst h8
   obtain ⟨ys, hR, hC⟩ := zJ m hm 8 1 0 0 x4 0 0
   refine Tot.of ?_
   rw [Ij]
   rcases hC with ⟨l, rfl⟩ | ⟨rfl, q1, q2, q3⟩
   ·simp only [sV, zz, aN.den, Nat.reduceLT, Int.lt_irrefl, hn, hR, Int.reduceEq]
    exact .out bT
   ·simp only [sV, zz, aN.den, Nat.reduceLT, Int.lt_irrefl, hn, hR, q1, q2, q3, a7, mW, Int.reduceEq, Int.natCast_one]
    repeat' first | exact .out bT | exact .out dY | refine .ite (fun _ => ?_) (fun _ => ?_) | (exfalso; omega)
  by_cases h5 : x0 = 5
  ·subst h5
   obtain ⟨ys, hR, hC⟩ := zJ m hm 5 1 0 0 x4 0 0
   refine Tot.of ?_
   rw [Ij]
   rcases hC with ⟨l, rfl⟩ | ⟨rfl, q1, q2, q3⟩
   ·simp only [sV, zz, aN.den, Nat.reduceLT, Int.lt_irrefl, hn, hR, Int.reduceEq]
    exact .out bT
   ·simp only [sV, zz, aN.den, Nat.reduceLT, Int.lt_irrefl, hn, hR, q1, q2, q3, a7, mW, Int.reduceEq, Int.natCast_one]
    repeat' first | exact .out bT | exact .out dY | refine .ite (fun _ => ?_) (fun _ => ?_) | (exfalso; omega)
  by_cases h4 : x0 = 4
  ·subst h4
   obtain ⟨ys, hR, hC⟩ := acN m hm 0 0 4 0 0 0 x4 0 0
   refine Tot.of ?_
   rw [Ij]
   rcases hC with ⟨l, rfl⟩ | ⟨rfl, q1, q2, q3⟩
   ·simp only [sV, zz, aN.den, Nat.reduceLT, Int.lt_irrefl, hn, hR, Int.reduceEq]
    exact .out bT
   ·simp only [sV, zz, aN.den, Nat.reduceLT, Int.lt_irrefl, hn, hR, q1, q2, q3, a7, OT, Int.reduceEq, Int.natCast_one]
    repeat' first | exact .out bT | exact .out dY | refine .ite (fun _ => ?_) (fun _ => ?_) | (exfalso; omega)
  obtain ⟨ys, hR, hC⟩ := zJ m hm x0 0 0 0 x4 0 0
  refine Tot.of ?_
  rw [Ij]
  rcases hC with ⟨l, rfl⟩ | ⟨rfl, q1, q2, q3⟩
  ·simp only [sV, zz, aN.den, Nat.reduceLT, Int.lt_irrefl, hn, h3, h8, h5, h4, hR, Int.reduceEq]
   exact .out bT
  ·simp only [sV, zz, aN.den, Nat.reduceLT, Int.lt_irrefl, hn, h3, h8, h5, h4, hR, q1, q2, q3, a7, mW, Int.reduceEq, Int.natCast_one]
   repeat' first | exact .out bT | exact .out dY | refine .ite (fun _ => ?_) (fun _ => ?_) | (exfalso; omega)
theorem Yl (M : Nat) (hM : M ≤ 2513169434915) (x0 x3 x4 x5 x6 x7 x8 x9 : Int) : ∀ (j m : Nat), m + j = M → 1 ≤ m → Tot 953 [x0, (M : Int), (m : Int), x3, x4, x5, x6, x7, x8, x9, enc (vI m)] pK
 | 0, m, h1, h2 => by
   obtain rfl : M = m := by omega
   exact Un M h2 x0 x3 x4 x5 x6 x7 x8 x9
 | j + 1, m, h1, h2 => by
   have ih := Yl M hM x0 x3 x4 x5 x6 x7 x8 x9 j (m + 1) (by omega) (by omega)
   have c1 : (m : Int) < (M : Int) := by omega
   have c2 : ((m : Nat) : Int) < 2513169434915 := by omega
   have w := bJ (n := m) (by omega)
   have hr : vI (m + 1) = dL ((vI m).l ++ [E1]) := by
    unfold vI
    rw [bC, List.replicate_succ']
   rw [hr] at ih
   refine Tot.of ?_
   rw [Ij]
   simp only [sV, zz, aN.den, Nat.reduceLT, c1, c2, wL, w]
   exact .jump ih
theorem Um (m : Nat) (hm : 1 ≤ m) (x0 x3 x4 x5 x6 x7 x8 x9 : Int) : Tot 954 [x0, (m : Int), (m : Int), x3, x4, x5, x6, x7, x8, x9, enc (vI m)] pK := by
 obtain ⟨ys, a7, k, rfl⟩ := PD x4
 by_cases hn : x6 = -1
 ·by_cases h3 : x0 = 3
  ·subst h3
   obtain ⟨ys, hR, hC⟩ := zK m hm 3 1 0 0 x4 0 0
   refine Tot.of ?_
   rw [Ii]
   rcases hC with ⟨l, rfl⟩ | ⟨rfl, q1, q2, q3⟩
   ·simp only [sU, zz, aN.den, Nat.reduceLT, Int.lt_irrefl, hn, hR, Int.reduceEq]
    exact .out bT
   ·simp only [sU, zz, aN.den, Nat.reduceLT, Int.lt_irrefl, hn, hR, q1, q2, q3, a7, mW, Int.reduceEq, Int.natCast_one]
    repeat' first | exact .out bT | exact .out dY | refine .ite (fun _ => ?_) (fun _ => ?_) | (exfalso; omega)
  by_cases h8 : x0 = 8
  ·subst h8
   obtain ⟨ys, hR, hC⟩ := zK m hm 8 1 0 0 x4 0 0
   refine Tot.of ?_
   rw [Ii]
   rcases hC with ⟨l, rfl⟩ | ⟨rfl, q1, q2, q3⟩
   ·simp only [sU, zz, aN.den, Nat.reduceLT, Int.lt_irrefl, hn, hR, Int.reduceEq]
    exact .out bT
   ·simp only [sU, zz, aN.den, Nat.reduceLT, Int.lt_irrefl, hn, hR, q1, q2, q3, a7, mW, Int.reduceEq, Int.natCast_one]
    repeat' first | exact .out bT | exact .out dY | refine .ite (fun _ => ?_) (fun _ => ?_) | (exfalso; omega)
  by_cases h5 : x0 = 5
  ·subst h5
   obtain ⟨ys, hR, hC⟩ := zK m hm 5 1 0 0 x4 0 0
   refine Tot.of ?_
   rw [Ii]
   rcases hC with ⟨l, rfl⟩ | ⟨rfl, q1, q2, q3⟩
   ·simp only [sU, zz, aN.den, Nat.reduceLT, Int.lt_irrefl, hn, hR, Int.reduceEq]
    exact .out bT
   ·simp only [sU, zz, aN.den, Nat.reduceLT, Int.lt_irrefl, hn, hR, q1, q2, q3, a7, mW, Int.reduceEq, Int.natCast_one]
    repeat' first | exact .out bT | exact .out dY | refine .ite (fun _ => ?_) (fun _ => ?_) | (exfalso; omega)
  by_cases h4 : x0 = 4
  ·subst h4
   obtain ⟨ys, hR, hC⟩ := acO m hm 0 0 4 0 0 0 x4 0 0
   refine Tot.of ?_
   rw [Ii]
   rcases hC with ⟨l, rfl⟩ | ⟨rfl, q1, q2, q3⟩
   ·simp only [sU, zz, aN.den, Nat.reduceLT, Int.lt_irrefl, hn, hR, Int.reduceEq]
    exact .out bT
   ·simp only [sU, zz, aN.den, Nat.reduceLT, Int.lt_irrefl, hn, hR, q1, q2, q3, a7, OT, Int.reduceEq, Int.natCast_one]
    repeat' first | exact .out bT | exact .out dY | refine .ite (fun _ => ?_) (fun _ => ?_) | (exfalso; omega)
  obtain ⟨ys, hR, hC⟩ := zK m hm x0 0 0 0 x4 0 0
  refine Tot.of ?_
  rw [Ii]
  rcases hC with ⟨l, rfl⟩ | ⟨rfl, q1, q2, q3⟩
  ·simp only [sU, zz, aN.den, Nat.reduceLT, Int.lt_irrefl, hn, h3, h8, h5, h4, hR, Int.reduceEq]
   exact .out bT
  ·simp only [sU, zz, aN.den, Nat.reduceLT, Int.lt_irrefl, hn, h3, h8, h5, h4, hR, q1, q2, q3, a7, mW, Int.reduceEq, Int.natCast_one]
   repeat' first | exact .out bT | exact .out dY | refine .ite (fun _ => ?_) (fun _ => ?_) | (exfalso; omega)
 ·by_cases h3 : x0 = 3
  ·subst h3
   obtain ⟨ys, hR, hC⟩ := zJ m hm 3 1 0 0 x4 0 0
   refine Tot.of ?_
   rw [Ii]
   rcases hC with ⟨l, rfl⟩ | ⟨rfl, q1, q2, q3⟩
   ·simp only [sU, zz, aN.den, Nat.reduceLT, Int.lt_irrefl, hn, hR, Int.reduceEq]
    exact .out bT
   ·simp only [sU, zz, aN.den, Nat.reduceLT, Int.lt_irrefl, hn, hR, q1, q2, q3, a7, mW, Int.reduceEq, Int.natCast_one]
    repeat' first | exact .out bT | exact .out dY | refine .ite (fun _ => ?_) (fun _ => ?_) | (exfalso; omega)
  by_cases h8 : x0 = 8
  ·subst h8
   obtain ⟨ys, hR, hC⟩ := zJ m hm 8 1 0 0 x4 0 0
   refine Tot.of ?_
   rw [Ii]
   rcases hC with ⟨l, rfl⟩ | ⟨rfl, q1, q2, q3⟩
   ·simp only [sU, zz, aN.den, Nat.reduceLT, Int.lt_irrefl, hn, hR, Int.reduceEq]
    exact .out bT
   ·simp only [sU, zz, aN.den, Nat.reduceLT, Int.lt_irrefl, hn, hR, q1, q2, q3, a7, mW, Int.reduceEq, Int.natCast_one]
    repeat' first | exact .out bT | exact .out dY | refine .ite (fun _ => ?_) (fun _ => ?_) | (exfalso; omega)
  by_cases h5 : x0 = 5
  ·subst h5
   obtain ⟨ys, hR, hC⟩ := zJ m hm 5 1 0 0 x4 0 0
   refine Tot.of ?_
   rw [Ii]
   rcases hC with ⟨l, rfl⟩ | ⟨rfl, q1, q2, q3⟩
   ·simp only [sU, zz, aN.den, Nat.reduceLT, Int.lt_irrefl, hn, hR, Int.reduceEq]
    exact .out bT
   ·simp only [sU, zz, aN.den, Nat.reduceLT, Int.lt_irrefl, hn, hR, q1, q2, q3, a7, mW, Int.reduceEq, Int.natCast_one]
    repeat' first | exact .out bT | exact .out dY | refine .ite (fun _ => ?_) (fun _ => ?_) | (exfalso; omega)
  by_cases h4 : x0 = 4
  ·subst h4
   obtain ⟨ys, hR, hC⟩ := acN m hm 0 0 4 0 0 0 x4 0 0
   refine Tot.of ?_
   rw [Ii]
   rcases hC with ⟨l, rfl⟩ | ⟨rfl, q1, q2, q3⟩
   ·simp only [sU, zz, aN.den, Nat.reduceLT, Int.lt_irrefl, hn, hR, Int.reduceEq]
    exact .out bT
   ·simp only [sU, zz, aN.den, Nat.reduceLT, Int.lt_irrefl, hn, hR, q1, q2, q3, a7, OT, Int.reduceEq, Int.natCast_one]
    repeat' first | exact .out bT | exact .out dY | refine .ite (fun _ => ?_) (fun _ => ?_) | (exfalso; omega)
  obtain ⟨ys, hR, hC⟩ := zJ m hm x0 0 0 0 x4 0 0
  refine Tot.of ?_
  rw [Ii]
  rcases hC with ⟨l, rfl⟩ | ⟨rfl, q1, q2, q3⟩
  ·simp only [sU, zz, aN.den, Nat.reduceLT, Int.lt_irrefl, hn, h3, h8, h5, h4, hR, Int.reduceEq]
   exact .out bT
  ·simp only [sU, zz, aN.den, Nat.reduceLT, Int.lt_irrefl, hn, h3, h8, h5, h4, hR, q1, q2, q3, a7, mW, Int.reduceEq, Int.natCast_one]
   repeat' first | exact .out bT | exact .out dY | refine .ite (fun _ => ?_) (fun _ => ?_) | (exfalso; omega)
theorem Yk (M : Nat) (hM : M ≤ 2513169434915) (x0 x3 x4 x5 x6 x7 x8 x9 : Int) : ∀ (j m : Nat), m + j = M → 1 ≤ m → Tot 954 [x0, (M : Int), (m : Int), x3, x4, x5, x6, x7, x8, x9, enc (vI m)] pK
 | 0, m, h1, h2 => by
   obtain rfl : M = m := by omega
   exact Um M h2 x0 x3 x4 x5 x6 x7 x8 x9
 | j + 1, m, h1, h2 => by
   have ih := Yk M hM x0 x3 x4 x5 x6 x7 x8 x9 j (m + 1) (by omega) (by omega)
   have c1 : (m : Int) < (M : Int) := by omega
   have c2 : ((m : Nat) : Int) < 2513169434915 := by omega
   have w := bJ (n := m) (by omega)
   have hr : vI (m + 1) = dL ((vI m).l ++ [E1]) := by
    unfold vI
    rw [bC, List.replicate_succ']
   rw [hr] at ih
   refine Tot.of ?_
   rw [Ii]
   simp only [sU, zz, aN.den, Nat.reduceLT, c1, c2, wL, w]
   exact .jump ih
theorem Ul (x0 x1 x2 x3 x4 x5 x6 x8 : Int) (d : D) (hd : d.l.length ≤ 2513169434915) : Tot 950 [x0, x1, x2, x3, x4, x5, x6, enc d, x8] pK := by
 have key : ∀ t t2, (t = 951 ∧ t2 = 953) ∨ (t = 952 ∧ t2 = 954) → Tot t [x0, (d.l.length : Int), x1, x2, x3, x4, x5, x6, enc d] pK := by
  intro t t2 ht
  by_cases h0 : d.l.length = 0
  ·rw [h0]
   rcases ht with ⟨rfl, rfl⟩ | ⟨rfl, rfl⟩
   ·exact amB x0 x1 x2 x3 x4 x5 x6 (enc d)
   ·exact amA x0 x1 x2 x3 x4 x5 x6 (enc d)
  ·have c1 : (0 : Int) < (d.l.length : Int) := by omega
   have hr : enc (vI 1) = enc (dL ([] ++ [E1])) := rfl
   rcases ht with ⟨rfl, rfl⟩ | ⟨rfl, rfl⟩
   ·have := Yl d.l.length hd x0 x1 x2 x3 x4 x5 x6 (enc d) (d.l.length - 1) 1 (by omega) (by omega)
    rw [hr] at this
    refine Tot.of ?_
    rw [atD]
    simp only [aiL, zz, aN.den, Nat.reduceLT, c1, Ee]
    exact .jump this
   ·have := Yk d.l.length hd x0 x1 x2 x3 x4 x5 x6 (enc d) (d.l.length - 1) 1 (by omega) (by omega)
    rw [hr] at this
    refine Tot.of ?_
    rw [atC]
    simp only [aiK, zz, aN.den, Nat.reduceLT, c1, Ee]
    exact .jump this
 refine Tot.of ?_
 rw [ayJ]
 simp only [apH, zz, aN.den, Nat.reduceLT]
 exact .ite (fun _ => .jump (key 951 953 (.inl ⟨rfl, rfl⟩))) fun _ => .jump (key 952 954 (.inr ⟨rfl, rfl⟩))
end Go.As.Try
end
section
namespace Go.As.Try
open Go hiding Stat Spec shape
open Go.As
set_option maxRecDepth 100000
theorem akF (d0 d1 d3 d4 d : D) (x2 x5 x6 x7 x8 x9 x10 : Int) (hd : d.l.length ≤ 2513169434915) : Tot 750 [enc d0, enc d1, x2, enc d3, enc d4, x5, x6, x7, x8, x9, x10, enc d] pK := by
 obtain ⟨ys, h0, b0, rfl, _⟩ := Ul ((d0.at x7).hd 0).n x5 x6 x7 x8 x9 x10 0 d hd
 obtain ⟨ys, h1, b1, rfl, _⟩ := Ul ((d0.at x7).hd 0).n x5 x6 x7 x8 x9 x10 1 d hd
 refine Tot.of ?_
 rw [ayL]
 simp only [apJ, zz, aN.den, Nat.reduceLT, h0, h1]
 repeat' first | exact .out bT | exact .out dY | refine .ite (fun _ => ?_) (fun _ => ?_)
def OkO (d0 : D) (k n : Int) : Prop := 1 ≤ k ∧ k ≤ 9 ∧ (k = 1 ∨ k = 2 ∨ k = 6 ∨ k = 7 → n = 0) ∧ (k = 3 ∨ k = 8 → 1 ≤ n ∧ n ≤ 1048576) ∧ (k = 5 → 1 ≤ n ∧ n ≤ 16) ∧ (k = 4 → 0 ≤ n ∧ n < (d0.l.length : Int) ∧ ((d0.at n).hd 0).n = 1)
def XK (d0 : D) (x : D) : Prop := OkO d0 (x.hd 0).n (x.hd 2).n
def aqK (d0 : D) (k n : Int) (ys : List Int) : Prop := ∃ b : Int, ys = [b] ∧ (b = 0 ∨ b = 1) ∧ (b ≠ 0 → OkO d0 k n)
theorem Zh (d0 : D) (x1 x2 x3 x4 x5 x6 : Int) : Tot 700 [enc d0, x1, x2, x3, x4, x5, x6] (aqK d0 x2 x4) := by
 refine Tot.of ?_
 rw [ayM]
 simp only [apK, zz, aN.den, Nat.reduceLT]
 repeat' first
  | exact .out ⟨0, rfl, .inl rfl, fun h => absurd rfl h⟩
  | exact .out ⟨1, rfl, .inr rfl, fun _ => ⟨by omega, by omega, by omega, by omega, by omega, fun h4 => by first | omega | exact ⟨by omega, by omega, by assumption⟩⟩⟩
  | refine .ite (fun _ => ?_) (fun _ => ?_)
def VG (d0 d1 : D) : Prop := d0.l.length ≤ 64 ∧ d1.l.length ≤ 16 ∧ ∀ x ∈ d0.l, XK d0 x
def JX (d0 d1 : D) (ys : List Int) : Prop := ∃ b : Int, ys = [b] ∧ (b = 0 ∨ b = 120) ∧ (b = 0 → VG d0 d1)
theorem OW {d : D} (h : Wd (.sl 4) d) {i : Nat} (hi : i < d.l.length) : ∃ nm' lc cd, d.l[i] = dL [nm', lc, cd] ∧ Wd .str nm' ∧ Wd (.sl 2) lc ∧ Wd (.sl 5) cd := by
 obtain ⟨r, h1, hl, hc⟩ := h.elN (cs := [.str, .sl 2, .sl 5]) rfl _ (List.getElem_mem hi)
 match r, hl with
 | [a, b, c], _ => exact ⟨a, b, c, h1, hc 0 _ _ rfl rfl, hc 1 _ _ rfl rfl, hc 2 _ _ rfl rfl⟩
theorem adQ {d : D} (h : Wd (.sl 5) d) {i : Nat} (hi : i < d.l.length) : ∃ a b c e f g OG, d.l[i] = dL [.i a, .i b, .i c, .i e, .i f, .i g, OG] ∧ rG .u8 a ∧ rG .u8 b ∧ rG .i64 c ∧ rG .i64 e ∧ rG .i64 f ∧ rG .i64 g ∧ Wd (.sl 6) OG := by
 obtain ⟨r, h1, hl, hc⟩ := h.elN (cs := [.int .u8, .int .u8, .int .i64, .int .i64, .int .i64, .int .i64, .sl 6]) rfl _ (List.getElem_mem hi)
 match r, hl with
 | [a, b, c, e, f, g, OG], _ =>
   obtain ⟨a, rfl, ha⟩ := (hc 0 _ _ rfl rfl).i
   obtain ⟨b, rfl, hb⟩ := (hc 1 _ _ rfl rfl).i
   obtain ⟨c, rfl, hc'⟩ := (hc 2 _ _ rfl rfl).i
   obtain ⟨e, rfl, he⟩ := (hc 3 _ _ rfl rfl).i
   obtain ⟨f, rfl, hf⟩ := (hc 4 _ _ rfl rfl).i
   obtain ⟨g, rfl, hg⟩ := (hc 5 _ _ rfl rfl).i
   exact ⟨a, b, c, e, f, g, OG, h1, ha, hb, hc', he, hf, hg, hc 6 _ _ rfl rfl⟩
section
variable {d0 d1 : D} (h0 : Wd (.sl 3) d0) (h1 : Wd (.sl 4) d1)
include h1
theorem DF (hx : ∀ x y : Int, x = y → True) : ∀ (j i : Nat), i + j = d1.l.length → Tot 453 [enc d1, (d1.l.length : Int), (i : Int), enc d0] (JX d0 d1)
 | 0, i, hi => by
   have c1 : ¬ (i : Int) < (d1.l.length : Int) := by omega
   refine Tot.of ?_
   rw [atN]
   simp only [aiV, zz, aN.den, Nat.reduceLT, c1]
   exact .out ⟨120, rfl, .inr rfl, fun h => by omega⟩
 | j + 1, i, hi => by
   have hl := h1.len
   have c1 : (i : Int) < (d1.l.length : Int) := by omega
   have c2 : ¬ ((i : Int) < 0) := by omega
   have w := bJ (n := i) (by omega)
   refine Tot.of ?_
   rw [atN]
   simp only [aiV, zz, aN.den, Nat.reduceLT, c1, c2]
   refine .jump (Tot.of ?_)
   rw [atL]
   simp only [aiT, zz, aN.den, Nat.reduceLT, w]
   exact .ite (fun _ => .jump (DF hx j (i + 1) (by omega))) fun _ => .jump (DF hx j (i + 1) (by omega))
theorem OV (i : Nat) (hi : i < d1.l.length) (j : Nat) (hj : i + 1 + j = d1.l.length) (x0 x5 x6 x7 : Int) : Tot 455 [x0, enc d1, (d1.l.length : Int), (i : Int), enc d0, x5, x6, x7] (JX d0 d1) := by
 have hl := h1.len
 have w := bJ (n := i) (by omega)
 refine Tot.of ?_
 rw [atL]
 simp only [aiT, zz, aN.den, Nat.reduceLT, w]
 exact .ite (fun _ => .jump (DF h1 (fun _ _ _ => trivial) j (i + 1) (by omega))) fun _ => .jump (DF h1 (fun _ _ _ => trivial) j (i + 1) (by omega))
theorem RY (hg : VG d0 d1) : ∀ (j i : Nat), i + j = d1.l.length → Tot 454 [enc d1, (d1.l.length : Int), (i : Int), enc d0] (JX d0 d1)
 | 0, i, hi => by
   have c1 : ¬ (i : Int) < (d1.l.length : Int) := by omega
   refine Tot.of ?_
   rw [atM]
   simp only [aiU, zz, aN.den, Nat.reduceLT, c1]
   exact .out ⟨0, rfl, .inl rfl, fun _ => hg⟩
 | j + 1, i, hi => by
   have hl := h1.len
   have hil : i < d1.l.length := by omega
   have c1 : (i : Int) < (d1.l.length : Int) := by omega
   have c2 : ¬ ((i : Int) < 0) := by omega
   have w := bJ (n := i) (by omega)
   have ih := RY hg j (i + 1) (by omega)
   obtain ⟨nm', lc, cd, he, hn, hlc, hcd⟩ := OW h1 hil
   have hcl := hcd.len
   have loop : ∀ (m k : Nat), k + m = cd.l.length → Tot 456 [(k : Int), enc d1, (d1.l.length : Int), (i : Int), enc d0, enc nm', enc lc, enc cd] (JX d0 d1) := by
    intro m
    induction m with
    | zero =>
      intro k hk
      have c3 : ¬ (k : Int) < (cd.l.length : Int) := by omega
      refine Tot.of ?_
      rw [atK]
      simp only [aiS, zz, aN.den, Nat.reduceLT, c3, w]
      exact .jump ih
    | succ m ihm =>
      intro k hk
      have hkl : k < cd.l.length := by omega
      have c3 : (k : Int) < (cd.l.length : Int) := by omega
      have c4 : ¬ ((k : Int) < 0) := by omega
      have w2 := bJ (n := k) (by omega)
      obtain ⟨a, b, c, e, f, g, OG, hin, _, _, _, _, _, _, has⟩ := adQ hcd hkl
      have hroom := has.room
      have hal : OG.l.length ≤ 2513169434915 := by
       have : EY 6 = 56 := rfl
       rw [this] at hroom
       omega
      obtain ⟨ys, hM, q, rfl, _⟩ := akF d0 d1 lc cd OG (enc nm') a b c e f g hal
      obtain ⟨ys, hX, r, rfl, _⟩ := Zx OG lc (enc nm') (enc cd) has
      refine Tot.of ?_
      rw [atK]
      simp only [aiS, zz, aN.den, Nat.reduceLT, c3, c4, bV hkl, hin, jA, List.getElem?_cons_zero, List.getElem?_cons_succ, hM, hX, w2]
      exact .ite (fun _ => .jump (OV h1 i hil j (by omega) _ _ _ _)) fun _ => .ite (fun _ => .jump (ihm (k + 1) (by omega))) fun _ => .jump (OV h1 i hil j (by omega) _ _ _ _)
   refine Tot.of ?_
   rw [atM]
   simp only [aiU, zz, aN.den, Nat.reduceLT, c1, c2, bV hil, he, jA, List.getElem?_cons_zero, List.getElem?_cons_succ]
   exact .ite (fun _ => .jump (OV h1 i hil j (by omega) _ _ _ _)) fun _ => .ite (fun _ => .jump (OV h1 i hil j (by omega) _ _ _ _)) fun _ => .jump (loop cd.l.length 0 (by omega))
include h0
theorem II : ∀ (j i : Nat), i + j = d0.l.length → Tot 451 [enc d0, (d0.l.length : Int), (i : Int), enc d1] (JX d0 d1)
 | 0, i, hi => by
   have c1 : ¬ (i : Int) < (d0.l.length : Int) := by omega
   refine Tot.of ?_
   rw [atP]
   simp only [aiX, zz, aN.den, Nat.reduceLT, c1]
   exact .jump (DF h1 (fun _ _ _ => trivial) d1.l.length 0 (by omega))
 | j + 1, i, hi => by
   have hl := h0.len
   have c1 : (i : Int) < (d0.l.length : Int) := by omega
   have c2 : ¬ ((i : Int) < 0) := by omega
   have w := bJ (n := i) (by omega)
   refine Tot.of ?_
   rw [atP]
   simp only [aiX, zz, aN.den, Nat.reduceLT, c1, c2, w]
   exact .jump (II j (i + 1) (by omega))
theorem S9 (hs : d0.l.length ≤ 64) (ht : d1.l.length ≤ 16) : ∀ (j i : Nat), i + j = d0.l.length → (∀ (k : Nat) (h : k < d0.l.length), k < i → XK d0 d0.l[k]) → Tot 452 [enc d0, (d0.l.length : Int), (i : Int), enc d1] (JX d0 d1)
 | 0, i, hi, hp => by
   have c1 : ¬ (i : Int) < (d0.l.length : Int) := by omega
   refine Tot.of ?_
   rw [atO]
   simp only [aiW, zz, aN.den, Nat.reduceLT, c1]
   refine .jump (RY h1 ⟨hs, ht, fun x hx => ?_⟩ d1.l.length 0 (by omega))
   obtain ⟨k, hk, rfl⟩ := List.getElem_of_mem hx
   exact hp k hk (by omega)
 | j + 1, i, hi, hp => by
   have hil : i < d0.l.length := by omega
   have c1 : (i : Int) < (d0.l.length : Int) := by omega
   have c2 : ¬ ((i : Int) < 0) := by omega
   have w := bJ (n := i) (by omega)
   obtain ⟨ys, hO, b, rfl, _, hob⟩ := Zh d0 (enc d1) ((d0.l[i]).hd 0).n (enc ((d0.l[i]).hd 1)) ((d0.l[i]).hd 2).n (enc ((d0.l[i]).hd 3)) ((d0.l[i]).hd 4).n
   refine Tot.of ?_
   rw [atO]
   simp only [aiW, zz, aN.den, Nat.reduceLT, c1, c2, w, bV hil, hO]
   refine .ite (fun _ => .jump (II h0 h1 j (i + 1) (by omega))) fun hb => .jump (S9 hs ht j (i + 1) (by omega) fun k hk hki => ?_)
   by_cases hke : k = i
   ·subst hke
    exact hob hb
   ·exact hp k hk (by omega)
theorem Gx : Tot 450 [enc d0, enc d1] (JX d0 d1) := by
 refine Tot.of ?_
 rw [ayS]
 simp only [apL, zz, aN.den, Nat.reduceLT]
 exact .ite (fun _ => .jump (II h0 h1 d0.l.length 0 (by omega))) fun ha => .ite (fun _ => .jump (II h0 h1 d0.l.length 0 (by omega))) fun hb =>
  .jump (S9 h0 h1 (by omega) (by omega) d0.l.length 0 (by omega) fun k hk hki => by omega)
end
end Go.As.Try
end
section
namespace Go.As.Try
open Go hiding Stat Spec shape
open Go.As
set_option maxRecDepth 100000
def one (ys : List Int) : Prop := ∃ k : Int, ys = [k]
theorem amW {o : Int} (h : rG .u8 o) : IntKind.i64.wrap o = o := lM (by have := h.1; omega) (by have := h.2; omega)
theorem auC (o : Int) (h : rG .u8 o) : Tot 600 [o] one := by
 have h1 := h.1
 have w := amW h
 have c1 : ¬ (o < 0) := by omega
 refine Tot.of ?_
 rw [atH]
 simp only [aiP, zz, aN.den, Nat.reduceLT, w, c1]
 by_cases h27 : o < 27
 ·simp only [if_pos h27]
  repeat' first | exact .out ⟨_, rfl⟩ | refine .ite (fun _ => ?_) (fun _ => ?_)
 ·simp only [if_neg h27]
  exact .out ⟨_, rfl⟩
theorem adE (a b c d e : Int) : Tot 650 [a, b, c, d, e] (fun ys => ∃ k l : Int, ys = [k, l] ∧ (l = 0 ∨ l = 1)) := by
 refine Tot.of ?_
 rw [atG]
 simp only [aiO, zz, aN.den, Nat.reduceLT]
 repeat' first | exact .out ⟨_, _, rfl, .inl rfl⟩ | exact .out ⟨_, _, rfl, .inr rfl⟩ | refine .ite (fun _ => ?_) (fun _ => ?_)
theorem TD (d : D) (t : Int) (hl : d.l.length ≤ 140737488351232) : ∀ (j i : Nat), i + j = d.l.length → Tot 851 [enc d, t, (d.l.length : Int), (i : Int)] (fun ys => ∃ k : Int, ys = [k] ∧ -1 ≤ k ∧ k < (d.l.length : Int))
 | 0, i, hi => by
   have c1 : ¬ (i : Int) < (d.l.length : Int) := by omega
   refine Tot.of ?_
   rw [afH]
   simp only [U5, zz, aN.den, Nat.reduceLT, c1]
   exact .out ⟨-1, rfl, by omega, by omega⟩
 | j + 1, i, hi => by
   have hil : i < d.l.length := by omega
   have c1 : (i : Int) < (d.l.length : Int) := by omega
   have c2 : ¬ ((i : Int) < 0) := by omega
   have w := bJ (n := i) (by omega)
   refine Tot.of ?_
   rw [afH]
   simp only [U5, zz, aN.den, Nat.reduceLT, c1, c2, w]
   exact .ite (fun _ => .out ⟨(i : Int), rfl, by omega, by omega⟩) fun _ => .jump (TD d t hl j (i + 1) (by omega))
theorem akI (d : D) (t : Int) (hl : d.l.length ≤ 140737488351232) : Tot 850 [enc d, t] (fun ys => ∃ k : Int, ys = [k] ∧ -1 ≤ k ∧ k < (d.l.length : Int)) := by
 refine Tot.of ?_
 rw [atF]
 simp only [aiN, zz, aN.den, Nat.reduceLT]
 exact .jump (TD d t hl d.l.length 0 (by omega))
theorem azB (d : D) (t : Int) (hl : d.l.length ≤ 140737488351232) : Tot 900 [enc d, t] pK := by
 obtain ⟨ys, h, k, rfl, _⟩ := akI d t hl
 refine Tot.of ?_
 rw [atE]
 simp only [aiM, zz, aN.den, Nat.reduceLT, h]
 exact .ite (fun _ => .out bT) fun _ => .out dY
theorem MP (r : D) (hl : r.l.length ≤ 140737488351232) (x0 x4 x5 x6 x7 x8 x9 x10 x11 x12 : Int) (v : D) : ∀ (j i : Nat) (x14 : Int), i + j = r.l.length →
 Tot 501 [x0, enc r, (r.l.length : Int), (i : Int), x4, x5, x6, x7, x8, x9, x10, x11, x12, enc v, x14] pK
 | 0, i, x14, hi => by
   have c1 : ¬ (i : Int) < (r.l.length : Int) := by omega
   refine Tot.of ?_
   rw [alS]
   simp only [abK, zz, aN.den, Nat.reduceLT, c1]
   repeat' first | exact .out bT | exact .out dY | refine .ite (fun _ => ?_) (fun _ => ?_)
 | j + 1, i, x14, hi => by
   have c1 : (i : Int) < (r.l.length : Int) := by omega
   have c2 : ¬ ((i : Int) < 0) := by omega
   have w := bJ (n := i) (by omega)
   have ih := fun x => MP r hl x0 x4 x5 x6 x7 x8 x9 x10 x11 x12 v j (i + 1) x (by omega)
   refine Tot.of ?_
   rw [alS]
   simp only [abK, zz, aN.den, Nat.reduceLT, c1, c2, w]
   repeat' first | exact .out bT | exact .out dY | exact .jump (ih _) | refine .ite (fun _ => ?_) (fun _ => ?_)
theorem Vs (x0 x1 x2 x3 x4 x5 x6 x7 x8 x11 : Int) (r v : D) (hl : r.l.length ≤ 140737488351232) : Tot 500 [x0, x1, x2, x3, x4, x5, x6, x7, x8, enc r, enc v, x11] pK := by
 obtain ⟨ys, hM, a, b, rfl, hb⟩ := adE x0 x1 x2 x3 x4
 have ih := MP r hl x11 x0 x1 x2 x3 x4 x5 x6 x7 x8 v r.l.length 0 (enc (.i 0)) (by omega)
 refine Tot.of ?_
 rw [atJ]
 simp only [aiR, zz, aN.den, Nat.reduceLT, hM]
 repeat' first | exact .out bT | exact .out dY | exact .jump ih | refine .ite (fun _ => ?_) (fun _ => ?_)
end Go.As.Try
end

import Derived.Test.YteclpbehflfjiacGreatDoorCards
import Derived.Test.YteclpbehflfjiacGreatDoorTie
import Derived.ProofKit
import Derived.Deep.DeepHandedRow
import Derived.LaidLaws
import Derived.Test.YteclpbehflfjiacGreatDoorAsZK2
set_option linter.unusedSectionVars false
set_option linter.unusedVariables false
set_option linter.unusedSimpArgs false
section
namespace Go.As.Try
open Go hiding Stat Spec shape
open Go.As Go.Proofs
set_option maxRecDepth 100000
noncomputable section
abbrev jt (c:SB) (a:T Lf):=sp c a fl
abbrev n8 (c:SB) (a:T Lf):=sp c fl a
abbrev kf:=SB.eq
abbrev fv:=SB.lt
abbrev stx:=W.op .set
abbrev nrx:=W.op .norm
abbrev Cr:=W.op .snoc
abbrev rpx:=W.op .rep
abbrev qpx (n:Int):=D.p (.i n)
abbrev yr (n:Nat) (x:W):=nm (ce n x)
abbrev tL (j:Nat) (l:List W):=SB.eq (a0 j l) (.lit 1)
abbrev ma (j:Nat) (l:List W) (a:T Lf):=sp (.eq (a0 j l) (.lit 1)) a fl
abbrev rD (a:W):=SB.eq a (.lit 0)
abbrev nY (a:W):=SB.lt a (.lit 0)
def bsx:List Nat->D
 |[]=> .i 0
 |n::l=> .p (.i n) (bsx l)
theorem cJ {n:Nat} {t:T Lf} (h:S.tree n=t:=by kernel_rfl):S.tree n=t:=h
def b0:D:=bsx [0,0,0,0,0,0,0,0,0,1,1,0,0,1,0,0,0,0,0,0,0,0,0,0,0,0,0,0,0,0,0,0,1,0,0,2,0,0,0,0,5,5,5,5,0,5,0,0,3,3,3,3,3,3,3,3,3,3,0,5,5,5,0,0,0,4,4,4,4,4,4,4,4,4,4,4,4,4,4,4,4,4,4,4,4,4,4,4,4,4,4,0,0,0,0,4,0,4,4,4,4,4,4,4,4,4,4,4,4,4,4,4,4,4,4,4,4,4,4,4,4,4,4,5,0,5,0,0,0,0,0,0,0,0,0,0,0,0,0,0,0,0,0,0,0,0,0,0,0,0,0,0,0,0,0,0,0,0,0,0,0,0,0,0,0,0,0,0,0,0,0,0,0,0,0,0,0,0,0,0,0,0,0,0,0,0,0,0,0,0,0,0,0,0,0,0,0,0,0,0,0,0,0,0,0,0,0,0,0,0,0,0,0,0,0,0,0,0,0,0,0,0,0,0,0,0,0,0,0,0,0,0,0,0,0,0,0,0,0,0,0,0,0,0,0,0,0,0,0,0,0,0,0,0,0,0]
def b1:D:=bsx [32,97,99,113,117,105,114,101,32,97,100,100,32,97,114,114,105,118,101,32,98,97,114,114,105,101,114,32,98,114,111,97,100,99,97,115,116,32,99,111,110,100,32,100,111,32,100,111,110,101,32,101,108,115,101,32,105,102,32,108,111,99,107,32,108,111,99,107,102,111,114,32,108,111,111,112,32,109,117,116,101,120,32,111,110,99,101,32,112,117,116,32,113,117,101,117,101,32,114,101,97,100,32,114,101,108,101,97,115,101,32,114,108,111,99,107,32,114,117,110,108,111,99,107,32,114,119,108,111,99,107,32,115,101,109,32,115,101,116,32,115,105,103,110,97,108,32,116,97,107,101,32,116,104,114,101,97,100,32,116,114,121,97,99,113,117,105,114,101,32,116,114,121,108,111,99,107,32,117,110,108,111,99,107,32,118,97,114,32,119,97,105,116,32,119,97,105,116,102,111,114,32,119,97,105,116,111,110,32,119,108,111,99,107,32,119,114,105,116,101,32,119,117,110,108,111,99,107,32]
def b2:D:=bsx [97,98,99,100,101,102,103,104,105,106,107,108,109,110,111,112,113,114,115,116,117,118,119,120,121,122,65,66,67,68,69,70,71,72,73,74,75,76,77,78,79,80,81,82,83,84,85,86,87,88,89,90,95]
def b3:D:=bsx [97,98,99,100,101,102,103,104,105,106,107,108,109,110,111,112,113,114,115,116,117,118,119,120,121,122,65,66,67,68,69,70,71,72,73,74,75,76,77,78,79,80,81,82,83,84,85,86,87,88,89,90,95,48,49,50,51,52,53,54,55,56,57]
def b4:D:=bsx [57,50,50,51,51,55,50,48,51,54,56,53,52,55,55,53,56,48,55]
abbrev Qa:W:=.lit 0
abbrev Qb:W:=.dH 1
abbrev Qc:=ln Qb
abbrev jq a0:=fv Qa a0
abbrev Qd:=jq Qc
abbrev Qe:=fv Qc (.lit 1759218604441)
abbrev Qf:W:=.dH 0
abbrev qf a0:=nrx a0 Qa
abbrev Qg:=qf Qb
abbrev Qh:W:=.eS (.i 1)
abbrev Qi:=kf Qg Qh
abbrev Qj:=[Qf]
abbrev Qk:W:=.eS (.i 2)
abbrev pE a0:=kf a0 Qk
abbrev Ql:=pE Qg
abbrev cH a0 a1 a2 a3 a4:=sp a0 a1 (sp a2 a3 a4)
abbrev ox a0 a1 a2 a3 a4 a5:=cH a0 a1 a2 (ju a3 a4) a5
abbrev eC a0 a1 a2:=jt a0 (ju a1 a2)
def NV:=ox Qd (eC Qe 9001 [Qf,Qb,Qc,Qa]) Qi 9002 Qj (eC Ql 9003 Qj)
abbrev Qm:W:=.dH 3
abbrev Qn:=kf Qm Qf
abbrev Qo:W:=.dH 2
abbrev Qp:=fv Qm Qo
abbrev Qq:=nY Qm
abbrev Qr:=fv Qm Qc
abbrev ru a0:=el a0 Qm
abbrev Qs:=ru Qb
abbrev Qt:=ce 4 Qs
abbrev iG a0 a1:=fv a0 (ln a1)
abbrev kZ a0:=iG Qa a0
abbrev Qu:=kZ Qt
abbrev Qv:W:=.lit 17592186044416
abbrev vA a0 a1:=fv (ln a0) a1
abbrev ot a0:=vA a0 Qv
abbrev Qw:=ot Qt
abbrev Qx:=ce 5 Qs
abbrev Qy:=kZ Qx
abbrev Qz:=ot Qx
abbrev Q0:W:=.lit 1
abbrev lO a0 a1:=wr (.add a0 a1)
abbrev iu a0:=lO a0 Q0
abbrev Q1:=iu Qm
abbrev Q2:=el Qb Qf
abbrev fT a0:=yr 0 a0
abbrev Q3:=fT Q2
abbrev Q4:=yr 1 Q2
abbrev ja a0:=yr 2 a0
abbrev Q5:=ja Q2
abbrev fZ a0:=yr 3 a0
abbrev Q6:=fZ Q2
abbrev Q7:=kf Qx Qh
abbrev Q8:=pE Qx
abbrev Q9:=kf Qt Qh
abbrev Qba:=pE Qt
abbrev Jo (l:List W):=Qa::Qf::Qb::l
abbrev ta a0:=ou (Jo a0)
abbrev Qbb:=ta []
abbrev Ca:=mk Qm
abbrev Qbd:W:=.eS (.i 4)
abbrev Bm a0 a1 a2:=stx a0 (cn a1 a2)
abbrev lZ a0 a1 a2 a3 a4:=Bm a0 a1 (Bm a2 a3 a4)
abbrev Qbe:=lZ Qb Ca Qs Qbd Qt
abbrev Qbf:W:=.eS (.i 5)
abbrev Qbg:=lZ Qbe Ca (ru Qbe) Qbf Qx
abbrev Qbh:=cn Qbf Qh
abbrev Br a0 a1 a2 a3:=Bm a0 a1 (stx a2 a3)
abbrev Qbi:=Br Qbe Ca (ru Qbe) Qbh
abbrev Qbj:=cn Qbf Qk
abbrev Qbk:=Br Qbe Ca (ru Qbe) Qbj
abbrev Qbl:=cn Qbd Qh
abbrev Qbm:=Br Qb Ca Qs Qbl
abbrev Qbn:=lZ Qbm Ca (ru Qbm) Qbf Qx
abbrev Qbo:=Br Qbm Ca (ru Qbm) Qbh
abbrev Qbp:=Br Qbm Ca (ru Qbm) Qbj
abbrev Qbq:=cn Qbd Qk
abbrev Qbr:=Br Qb Ca Qs Qbq
abbrev Qbs:=lZ Qbr Ca (ru Qbr) Qbf Qx
abbrev Qbt:=Br Qbr Ca (ru Qbr) Qbh
abbrev Qbu:=Br Qbr Ca (ru Qbr) Qbj
abbrev ld a0 a1 a2:=n8 a0 (jt a1 a2)
abbrev Pa a0 a1:=ld Qq a0 a1
abbrev nP a0:=Pa Qr a0
abbrev CD (l:List W):=Qf::Qb::Qo::l
abbrev ash (l:List W):=Q1::Q3::Q4::Q5::Q6::l
abbrev uT a0:=CD (ash a0)
abbrev eb a0 a1 a2 a3 a4 a5 a6:=cH a0 (sp a1 a2 a3) a4 a5 a6
abbrev oq a0 a1:=eC Qz a0 a1
abbrev oo a0 a1:=eC Q8 a0 a1
abbrev om a0 a1 a2 a3 a4 a5 a6:=jt a0 (ox a1 a2 a3 a4 a5 a6)
def vp:=eb Qn Qp (nP (cH Qu (om Qw Qy (oq 9004 (uT [Qt,Qx])) Q7 9005 (uT [Qt,Qh]) (oo 9005 (uT [Qt,Qk]))) Q9 (ox Qy (oq 9006 (uT [Qh,Qx])) Q7 9007 (uT [Qh,Qh]) (oo 9007 (uT [Qh,Qk]))) (om Qba Qy (oq 9006 (uT [Qk,Qx])) Q7 9007 (uT [Qk,Qh]) (oo 9007 (uT [Qk,Qk]))))) Qbb Qp (nP (cH Qu (om Qw Qy (oq 9001 [Qf,Qbg,Qo,Q1]) Q7 9001 [Qf,Qbi,Qo,Q1] (oo 9001 [Qf,Qbk,Qo,Q1])) Q9 (ox Qy (oq 9001 [Qf,Qbn,Qo,Q1]) Q7 9001 [Qf,Qbo,Qo,Q1] (oo 9001 [Qf,Qbp,Qo,Q1])) (om Qba Qy (oq 9001 [Qf,Qbs,Qo,Q1]) Q7 9001 [Qf,Qbt,Qo,Q1] (oo 9001 [Qf,Qbu,Qo,Q1])))) Qbb
abbrev Qbv:=kf Qa Qf
abbrev iL a0 a1 a2:=sp a0 (ou a1) a2
abbrev ry a0 a1 a2:=iL a0 a1 (ou a2)
def ai9:=ry Qbv [Q0,Qf] [Q0,Qf]
abbrev eK:W:=.lit 2
def ai8:=ry Qbv [eK,Qf] [eK,Qf]
abbrev Qbx:=nP fl
abbrev jH:W:=.lit 3
abbrev bR:W:=.dH 4
abbrev cC:W:=.dH 5
abbrev eu:W:=.dH 6
abbrev gj:W:=.dH 7
abbrev gX:W:=.dH 8
abbrev iJ:W:=.dH 9
abbrev Qb5:=ou [jH,Qf,Qb,bR,cC,eu,gj,gX,iJ]
abbrev Qb6:=[Qf,Qbg,Qo,Q1,bR,cC,eu,gj,gX,iJ]
abbrev Qb7:=[Qf,Qbi,Qo,Q1,bR,cC,eu,gj,gX,iJ]
abbrev Qb8:=[Qf,Qbk,Qo,Q1,bR,cC,eu,gj,gX,iJ]
abbrev Qb9:=[Qf,Qbn,Qo,Q1,bR,cC,eu,gj,gX,iJ]
abbrev Qca:=[Qf,Qbo,Qo,Q1,bR,cC,eu,gj,gX,iJ]
abbrev Qcb:=[Qf,Qbp,Qo,Q1,bR,cC,eu,gj,gX,iJ]
abbrev Qcc:=[Qf,Qbs,Qo,Q1,bR,cC,eu,gj,gX,iJ]
abbrev Qcd:=[Qf,Qbt,Qo,Q1,bR,cC,eu,gj,gX,iJ]
abbrev Qce:=[Qf,Qbu,Qo,Q1,bR,cC,eu,gj,gX,iJ]
def D':=eb Qn Qp Qbx Qb5 Qp (nP (cH Qu (om Qw Qy (oq 9004 Qb6) Q7 9004 Qb7 (oo 9004 Qb8)) Q9 (ox Qy (oq 9004 Qb9) Q7 9004 Qca (oo 9004 Qcb)) (om Qba Qy (oq 9004 Qcc) Q7 9004 Qcd (oo 9004 Qce)))) Qb5
abbrev qx:W:=.lit 4
abbrev Qcg:=ou [qx,Qf,Qb,bR,cC,eu,gj,gX,iJ]
def D_:=eb Qn Qp Qbx Qcg Qp (nP (cH Qu (om Qw Qy (oq 9005 Qb6) Q7 9005 Qb7 (oo 9005 Qb8)) Q9 (ox Qy (oq 9005 Qb9) Q7 9005 Qca (oo 9005 Qcb)) (om Qba Qy (oq 9005 Qcc) Q7 9005 Qcd (oo 9005 Qce)))) Qcg
abbrev B9:W:=.lit 5
abbrev Qci:=ou [B9,Qf,Qb,bR,cC,eu,gj,gX,iJ]
def C?:=eb Qn Qp Qbx Qci Qp (nP (cH Qu (om Qw Qy (oq 9006 Qb6) Q7 9006 Qb7 (oo 9006 Qb8)) Q9 (ox Qy (oq 9006 Qb9) Q7 9006 Qca (oo 9006 Qcb)) (om Qba Qy (oq 9006 Qcc) Q7 9006 Qcd (oo 9006 Qce)))) Qci
abbrev QJ:W:=.lit 6
abbrev Qck:=ou [QJ,Qf,Qb,bR,cC,eu,gj,gX,iJ]
def C!:=eb Qn Qp Qbx Qck Qp (nP (cH Qu (om Qw Qy (oq 9007 Qb6) Q7 9007 Qb7 (oo 9007 Qb8)) Q9 (ox Qy (oq 9007 Qb9) Q7 9007 Qca (oo 9007 Qcb)) (om Qba Qy (oq 9007 Qcc) Q7 9007 Qcd (oo 9007 Qce)))) Qck
abbrev UW:=ln Qo
abbrev Qcm:=jq UW
abbrev Qcn:=fv UW (.lit 2199023255552)
abbrev Qco:=kf (qf Qo) Qh
abbrev Qcp:=[Qf,Qc,Qa,Qb]
abbrev Qcq:=pE (qf Qo)
def tv:=cH Qd (om Qe Qcm (eC Qcn 9051 [Qf,Qc,Qa,Qb,Qo]) Qco 9052 Qcp (eC Qcq 9053 Qcp)) Qi (ox Qcm (eC Qcn 9054 [Qf,Qo]) Qco 9055 Qj (eC Qcq 9056 Qj)) (om Ql Qcm (eC Qcn 9057 [Qf,Qo]) Qco 9058 Qj (eC Qcq 9059 Qj))
abbrev yD:=fv Qo Qb
abbrev Aa:=nY Qo
abbrev yn:=ln Qm
abbrev Zx:=fv Qo yn
abbrev sF a0:=el a0 Qo
abbrev c_:=sF Qm
abbrev Qcw:=ce 4 c_
abbrev Qcx:=kZ Qcw
abbrev Qcy:=ot Qcw
abbrev Qcz:=ce 5 c_
abbrev Qc0:=kZ Qcz
abbrev Qc1:=ot Qcz
abbrev Dr:=iu Qo
abbrev Zy:=mk Qo
abbrev Qc4:=lZ Qm Zy c_ Qbd Qcw
abbrev Qc5:=lZ Qc4 Zy (sF Qc4) Qbf Qcz
abbrev Qc6:=kf Qcz Qh
abbrev Bk a0 a1 a2:=Br a0 Zy a1 a2
abbrev qi a0 a1 a2:=Bk a0 (sF a1) a2
abbrev Qc7:=qi Qc4 Qc4 Qbh
abbrev Qc8:=pE Qcz
abbrev Qc9:=qi Qc4 Qc4 Qbj
abbrev Qda:=Bk Qm c_ Qbl
abbrev Qdb:=lZ Qda Zy (sF Qda) Qbf Qcz
abbrev Qdc:=qi Qda Qda Qbh
abbrev Qdd:=qi Qda Qda Qbj
abbrev Qde:=Bk Qm c_ Qbq
abbrev Qdf:=lZ Qde Zy (sF Qde) Qbf Qcz
abbrev Qdg:=qi Qde Qde Qbh
abbrev Qdh:=qi Qde Qde Qbj
abbrev EK:=ln bR
abbrev Bt a0 a1:=ld Aa a0 a1
abbrev aoO a0 a1 a2 a3:=sp a0 (Bt a1 a2) a3
abbrev LY a0 a1 a2:=aoO yD a0 a1 a2
abbrev qF a0 a1 a2 a3 a4 a5:=cH a0 a1 (kf a2 a3) a4 a5
abbrev lX a0 a1 a2 a3 a4:=qF a0 a1 a2 Qh a3 a4
abbrev oD (l:List W):=Qf::Qb::Dr::l
abbrev gP a0 a1 a2:=eC a0 a1 (oD a2)
abbrev tU a0 a1 a2:=jt (kf a0 a1) a2
def C_:=LY Zx (lX Qcx (om Qcy Qc0 (gP Qc1 9051 [Qc5,bR]) Qc6 9051 (oD [Qc7,bR]) (gP Qc8 9051 [Qc9,bR])) Qcw (ox Qc0 (gP Qc1 9051 [Qdb,bR]) Qc6 9051 (oD [Qdc,bR]) (gP Qc8 9051 [Qdd,bR])) (tU Qcw Qk (ox Qc0 (gP Qc1 9051 [Qdf,bR]) Qc6 9051 (oD [Qdg,bR]) (gP Qc8 9051 [Qdh,bR])))) (ju 9060 [Qf,EK,Qa,Qm,bR])
def B?:=LY Zx (lX Qcx (om Qcy Qc0 (gP Qc1 9052 [Qc5]) Qc6 9052 (oD [Qc7]) (gP Qc8 9052 [Qc9])) Qcw (ox Qc0 (gP Qc1 9052 [Qdb]) Qc6 9052 (oD [Qdc]) (gP Qc8 9052 [Qdd])) (tU Qcw Qk (ox Qc0 (gP Qc1 9052 [Qdf]) Qc6 9052 (oD [Qdg]) (gP Qc8 9052 [Qdh])))) (ju 9061 [Qf,Qm])
def B!:=LY Zx (lX Qcx (om Qcy Qc0 (gP Qc1 9053 [Qc5]) Qc6 9053 (oD [Qc7]) (gP Qc8 9053 [Qc9])) Qcw (ox Qc0 (gP Qc1 9053 [Qdb]) Qc6 9053 (oD [Qdc]) (gP Qc8 9053 [Qdd])) (tU Qcw Qk (ox Qc0 (gP Qc1 9053 [Qdf]) Qc6 9053 (oD [Qdg]) (gP Qc8 9053 [Qdh])))) (ju 9062 [Qf,Qm])
def ai7:=ju 9063 Qcp
def arF:=ju 9064 Qj
def arE:=ju 9065 Qj
def ai6:=ju 9066 Qcp
def arD:=ju 9067 Qj
def arC:=ju 9068 Qj
abbrev Qdj:=kf Qo Qf
abbrev b?:=fv Qo EK
abbrev Qdl:=sF bR
abbrev gT a0:=ce 1 a0
abbrev Qdm:=gT Qdl
abbrev Qdn:=kZ Qdm
abbrev Qdo:=ot Qdm
abbrev Qdp:=el bR Qf
abbrev Qdq:=fT Qdp
abbrev Qdr:=ja Qdp
abbrev Qds:=fZ Qdp
abbrev jC a0:=yr 4 a0
abbrev Qdt:=jC Qdp
abbrev Qdu:=yr 5 Qdp
abbrev Qdv:=kf Qdm Qh
abbrev Qdw:=pE Qdm
abbrev Qdx:=lZ bR Zy Qdl Qh Qdm
abbrev Qdy:=cn Qh Qh
abbrev Qdz:=Bk bR Qdl Qdy
abbrev Qd0:=cn Qh Qk
abbrev Qd1:=Bk bR Qdl Qd0
abbrev oK a0 a1 a2 a3 a4 a5 a6:=Bt a0 (ox a1 a2 a3 a4 a5 a6)
def FF:=eb Qdj yD (oK b? Qdn (gP Qdo 9069 [Qm,bR,Qdq,Qdm,Qdr,Qds,Qdt,Qdu]) Qdv 9070 (oD [Qm,bR,Qdq,Qh,Qdr,Qds,Qdt,Qdu]) (gP Qdw 9070 [Qm,bR,Qdq,Qk,Qdr,Qds,Qdt,Qdu])) (ou [Qa,Qf,Qm,bR]) yD (oK b? Qdn (gP Qdo 9060 [Qm,Qdx]) Qdv 9060 (oD [Qm,Qdz]) (gP Qdw 9060 [Qm,Qd1])) (ou [Qa,Qf,Qm,bR])
abbrev Qd2:=ou [Q0,Qf,Qb]
def ai5:=sp Qbv Qd2 Qd2
def ai4:=ry Qbv [eK,Qf,Qb] [eK,Qf,Qb]
abbrev Qd3:=gT c_
abbrev Qd4:=kZ Qd3
abbrev Qd5:=ot Qd3
abbrev Qd6:=el Qm Qf
abbrev Qd7:=fT Qd6
abbrev Qd8:=ja Qd6
abbrev Qd9:=fZ Qd6
abbrev Qea:=jC Qd6
abbrev Qeb:=yr 5 Qd6
abbrev Qec:List W:=oD [Qm,Qd7,Qd3,Qd8,Qd9,Qea,Qeb]
abbrev Qed:=kf Qd3 Qh
abbrev Qee:List W:=oD [Qm,Qd7,Qh,Qd8,Qd9,Qea,Qeb]
abbrev Qef:=pE Qd3
abbrev Qeg:List W:=oD [Qm,Qd7,Qk,Qd8,Qd9,Qea,Qeb]
abbrev Qeh:=lZ Qm Zy c_ Qh Qd3
abbrev Qei:=Bk Qm c_ Qdy
abbrev Qej:=Bk Qm c_ Qd0
def FD:=eb Qdj yD (oK Zx Qd4 (eC Qd5 9071 Qec) Qed 9072 Qee (eC Qef 9072 Qeg)) (ou [Qa,Qf,Qh,Qm]) yD (oK Zx Qd4 (gP Qd5 9063 [Qeh]) Qed 9063 (oD [Qei]) (gP Qef 9063 [Qej])) (ou [Qa,Qf,Qh,Qm])
def ai3:=ry Qbv [Q0,Qf,Qh] [Q0,Qf,Qh]
def ai2:=ry Qbv [eK,Qf,Qh] [eK,Qf,Qh]
def FC:=eb Qdj yD (oK Zx Qd4 (eC Qd5 9073 Qec) Qed 9074 Qee (eC Qef 9074 Qeg)) (ou [Qa,Qf,Qk,Qm]) yD (oK Zx Qd4 (gP Qd5 9066 [Qeh]) Qed 9066 (oD [Qei]) (gP Qef 9066 [Qej])) (ou [Qa,Qf,Qk,Qm])
def ai1:=ry Qbv [Q0,Qf,Qk] [Q0,Qf,Qk]
def ai0:=ry Qbv [eK,Qf,Qk] [eK,Qf,Qk]
abbrev Qek:=Bt b? fl
abbrev kr:W:=.dH 10
abbrev Qem:=ou [jH,Qf,Qm,bR,cC,eu,gj,gX,iJ,kr]
abbrev Qen:List W:=oD [Qm,Qdx,cC,eu,gj,gX,iJ,kr]
abbrev Qeo:List W:=oD [Qm,Qdz,cC,eu,gj,gX,iJ,kr]
abbrev Qep:List W:=oD [Qm,Qd1,cC,eu,gj,gX,iJ,kr]
def B':=eb Qdj yD Qek Qem yD (oK b? Qdn (eC Qdo 9069 Qen) Qdv 9069 Qeo (eC Qdw 9069 Qep)) Qem
abbrev Qeq:=ou [qx,Qf,Qm,bR,cC,eu,gj,gX,iJ,kr]
def B_:=eb Qdj yD Qek Qeq yD (oK b? Qdn (eC Qdo 9070 Qen) Qdv 9070 Qeo (eC Qdw 9070 Qep)) Qeq
abbrev Qer:=Bt Zx fl
abbrev Qes:=ou [jH,Qf,Qh,Qm,bR,cC,eu,gj,gX,iJ]
abbrev Qet:List W:=oD [Qeh,bR,cC,eu,gj,gX,iJ]
abbrev Qeu:List W:=oD [Qei,bR,cC,eu,gj,gX,iJ]
abbrev Qev:List W:=oD [Qej,bR,cC,eu,gj,gX,iJ]
def A?:=eb Qdj yD Qer Qes yD (oK Zx Qd4 (eC Qd5 9071 Qet) Qed 9071 Qeu (eC Qef 9071 Qev)) Qes
abbrev Qew:=ou [qx,Qf,Qh,Qm,bR,cC,eu,gj,gX,iJ]
def A!:=eb Qdj yD Qer Qew yD (oK Zx Qd4 (eC Qd5 9072 Qet) Qed 9072 Qeu (eC Qef 9072 Qev)) Qew
abbrev Qex:=ou [jH,Qf,Qk,Qm,bR,cC,eu,gj,gX,iJ]
def A_:=eb Qdj yD Qer Qex yD (oK Zx Qd4 (eC Qd5 9073 Qet) Qed 9073 Qeu (eC Qef 9073 Qev)) Qex
abbrev Qey:=ou [qx,Qf,Qk,Qm,bR,cC,eu,gj,gX,iJ]
def z?:=eb Qdj yD Qer Qey yD (oK Zx Qd4 (eC Qd5 9074 Qet) Qed 9074 Qeu (eC Qef 9074 Qev)) Qey
abbrev xz:=[Qf,Qb]
def z!:=ju 9101 xz
abbrev Qe0:=el Qb Qa
abbrev Qe1:=ce 4 Qe0
abbrev Qe2:=ce 5 Qe0
abbrev uS a0:=rD (ln a0)
abbrev Qe3:=uS Qe2
abbrev nH:=D.i 0
abbrev iy:W:=.eS nH
abbrev Qe5:=cn Qh iy
abbrev zF a0 a1 a2:=cn a0 (cn a1 a2)
abbrev rp a0 a1 a2 a3:=cn a0 (zF a1 a2 a3)
abbrev Qe6:=rp iy iy Qh Qe5
abbrev lN a0 a1 a2 a3:=Cr a0 (zF a1 a2 a3)
abbrev nB a0 a1 a2:=lN iy a0 a1 a2
abbrev Qe7:=nB iy iy Qe6
abbrev Qe8:=fT Qe0
abbrev Qe9:=yr 1 Qe0
abbrev Qfa:=ja Qe0
abbrev Qfb:=fZ Qe0
abbrev Qfc:=ot Qe2
abbrev Qfd:=mk Qe8
abbrev Qfe:W:=.op .bit (mk Qfa) Qa
abbrev Rn:=cn Qk iy
abbrev Qfg:=cn Qk Rn
abbrev oG a0 a1 a2 a3 a4:=zF a0 a1 (zF a2 a3 a4)
abbrev jB a0 a1 a2 a3:=oG a0 a1 a2 a3 iy
abbrev GX a0 a1 a2 a3:=jB a0 (mk a1) a2 a3
abbrev ei a0 a1 a2 a3:=jt a0 (sp a1 a2 a3)
abbrev qa a0 a1 a2 a3 a4:=ei a0 a1 (ju a2 a3) a4
abbrev gz a0 a1 a2:=sp (rD a0) a1 a2
abbrev pG a0 a1 a2:=Cr a0 (cn a1 a2)
abbrev VK (l:List W):=Qf::Qb::Qe7::Q0::Qe8::Qe9::Qfa::Qfb::l
def Vj:=eb Qbv Qd (gz (ln Qe1) (sp Qe3 (ju 9102 (VK [])) (eC Qfc 9103 (VK [Qe2]))) (qa (ot Qe1) Qe3 9104 (VK [Qe1]) (eC Qfc 9105 (VK [Qe1,Qe2])))) (ou [Qa,Qf]) Qd (gz (ln Qe1) (sp Qe3 (ju 9106 [Qf,Qb,Cr iy (oG Qfd (mk Qe9) Qfe (mk Qfb) Qfg),Q0]) (eC Qfc 9106 [Qf,Qb,nB Qfd (mk Qe9) (GX Qfe Qfb Qk Qe2),Q0])) (qa (ot Qe1) Qe3 9106 [Qf,Qb,pG iy Qfd (oG (mk Qe9) Qfe (mk Qfb) Qe1 Rn),Q0] (eC Qfc 9106 [Qf,Qb,nB Qfd (mk Qe9) (GX Qfe Qfb Qe1 Qe2),Q0]))) (ou [Qa,Qf])
abbrev Qfh:=uS Qt
abbrev b!:=uS Qx
abbrev Qfj:W:=.lit 1759218604440
abbrev Qfk:=fv UW Qfj
abbrev Qfl:=fv Qf UW
abbrev Qfm:=fT Qs
abbrev Qfn:=yr 1 Qs
abbrev Qfo:=ja Qs
abbrev Qfp:W:=.op .bit (mk Qfo) Qa
abbrev Zw:=fZ Qs
abbrev Qfr:=Cr Qo (oG (mk Qfm) (mk Qfn) Qfp (mk Zw) Qfg)
abbrev Qfs:=lN Qo (mk Qfm) (mk Qfn) (GX Qfp Zw Qk Qx)
abbrev Qft:=pG Qo (mk Qfm) (oG (mk Qfn) Qfp (mk Zw) Qt Rn)
abbrev Qfu:=lN Qo (mk Qfm) (mk Qfn) (GX Qfp Zw Qt Qx)
abbrev Bn a0 a1 a2 a3:=jt a0 (eC a1 a2 a3)
abbrev aoN a0 a1 a2:=Bn Qfk a0 a1 a2
abbrev lY a0 a1:=aoN Qfl a0 a1
abbrev nO a0 a1 a2 a3 a4:=ei a0 a1 a2 (jt a3 a4)
abbrev k7 a0 a1 a2 a3:=sp a0 (n8 a1 a2) a3
abbrev mU a0 a1 a2 a3:=k7 a0 a1 a2 (ou a3)
abbrev qq a0 a1 a2 a3 a4:=sp a0 (sp a1 a2 a3) a4
abbrev aav (l:List W):=Qf::Qb::Qfr::Q1::bR::cC::eu::gj::l
abbrev aau (l:List W):=Qf::Qb::Qfs::Q1::bR::cC::eu::gj::l
abbrev aat (l:List W):=Qf::Qb::Qft::Q1::bR::cC::eu::gj::l
abbrev aas (l:List W):=Qf::Qb::Qfu::Q1::bR::cC::eu::gj::l
abbrev Qfv:=mU Qr Qq (qq Qfh b! (lY 9102 (aav [])) (jt Qz (lY 9102 (aau []))) (nO Qw b! (lY 9102 (aat [])) Qz (lY 9102 (aas [])))) [Q0,Qf,Qo,bR,cC,eu,gj]
def z_:=sp Qn Qfv Qfv
abbrev Qfw:List W:=aav [gX]
abbrev Qfx:List W:=aau [gX]
abbrev Qfy:List W:=aat [gX]
abbrev Qfz:List W:=aas [gX]
abbrev Qf0:=mU Qr Qq (qq Qfh b! (lY 9103 Qfw) (jt Qz (lY 9103 Qfx)) (nO Qw b! (lY 9103 Qfy) Qz (lY 9103 Qfz))) [eK,Qf,Qo,bR,cC,eu,gj,gX]
def y?:=sp Qn Qf0 Qf0
abbrev Qf1:=mU Qr Qq (qq Qfh b! (lY 9104 Qfw) (jt Qz (lY 9104 Qfx)) (nO Qw b! (lY 9104 Qfy) Qz (lY 9104 Qfz))) [jH,Qf,Qo,bR,cC,eu,gj,gX]
def y!:=sp Qn Qf1 Qf1
abbrev Qf2:=mU Qr Qq (qq Qfh b! (lY 9105 (aav [gX,iJ])) (jt Qz (lY 9105 (aau [gX,iJ]))) (nO Qw b! (lY 9105 (aat [gX,iJ])) Qz (lY 9105 (aas [gX,iJ])))) [qx,Qf,Qo,bR,cC,eu,gj,gX,iJ]
def y_:=sp Qn Qf2 Qf2
abbrev Qf3:=kf UW Qf
abbrev Qf4:=lN Qo iy iy Qe6
abbrev Qf5:=eC Qfk 9106 [Qf,Qb,Qfr,Q1]
abbrev Qf6:=eC Qfk 9106 [Qf,Qb,Qfs,Q1]
abbrev Qf7:=eC Qfk 9106 [Qf,Qb,Qft,Q1]
abbrev Qf8:=eC Qfk 9106 [Qf,Qb,Qfu,Q1]
abbrev nN a0 a1 a2 a3 a4 a5:=ei a0 a1 (sp a2 a3 a4) a5
abbrev VJ (l:List W):=Qf::Qb::Qf4::Q1::Qfm::Qfn::Qfo::Zw::l
def Vi:=eb Qn Qr (n8 Qq (sp Qfh (qq b! Qf3 (eC Qfk 9102 (VJ [])) Qf5 (ei Qz Qf3 (eC Qfk 9103 (VJ [Qx])) Qf6)) (nN Qw b! Qf3 (eC Qfk 9104 (VJ [Qt])) Qf7 (ei Qz Qf3 (eC Qfk 9105 (VJ [Qt,Qx])) Qf8)))) (ou [B9,Qf,Qo]) Qr (n8 Qq (qq Qfh b! Qf5 (jt Qz Qf6) (nO Qw b! Qf7 Qz Qf8))) (ou [B9,Qf,Qo])
abbrev cL a0 a1:=rr a0 a1 0
abbrev rh a0 a1:=ju a0 (CD a1)
def Vh:=ma 3950 [Qb] (rh 9151 [cL 3950 [Qb]])
abbrev Qf9:=el Qo Qa
abbrev Qga:=uS (gT Qf9)
abbrev Qgb:=jB iy iy iy iy
abbrev Qgc:=nB iy Qh Qgb
abbrev Qgd:=fT Qf9
abbrev Qge:=ja Qf9
abbrev Qgf:=fZ Qf9
abbrev Qgg:=jC Qf9
abbrev Qgh:=yr 5 Qf9
abbrev Qgi:=ot (gT Qf9)
abbrev uQ a0 a1 a2 a3:=GX (mk a0) a1 a2 a3
abbrev Qgj:=uQ Qge Qgf (mk Qgg) (mk Qgh)
def IM:=eb Qbv Qcm (sp Qga (ju 9152 [Qf,Q0,Qb,Qo,Qm,Qgc,Qgd,Qge,Qgf,Qgg,Qgh]) (eC Qgi 9153 [Qf,Q0,Qb,Qo,Qm,Qgc,Qgd,gT Qf9,Qge,Qgf,Qgg,Qgh])) (ou [Qa,Qf,Qm]) Qcm (sp Qga (ju 9154 [Qf,Q0,Qb,Qo,Qm,nB (mk Qgd) Qk Qgj]) (eC Qgi 9154 [Qf,Q0,Qb,Qo,Qm,nB (mk Qgd) (gT Qf9) Qgj])) (ou [Qa,Qf,Qm])
abbrev Qgk:=kf Qb Qf
abbrev Qgl:=fv Qb yn
abbrev Dq:=nY Qb
abbrev Qgn:=el Qm Qb
abbrev Qgo:=gT Qgn
abbrev Qgp:=uS Qgo
abbrev KC:=ln cC
abbrev Qgr:W:=.lit 2199023255551
abbrev Qgs:=fv KC Qgr
abbrev Qgt:=fv Qf KC
abbrev Nk:=iu Qb
abbrev Qgv:=fT Qgn
abbrev Qgw:=ja Qgn
abbrev Qgx:=fZ Qgn
abbrev Qgy:=jC Qgn
abbrev Qgz:=yr 5 Qgn
abbrev Qg0:=uQ Qgw Qgx (mk Qgy) (mk Qgz)
abbrev Qg1:=lN cC (mk Qgv) Qk Qg0
abbrev Qg2:=ot Qgo
abbrev Qg3:=lN cC (mk Qgv) Qgo Qg0
abbrev Im (l:List W):=Qf::Nk::Qo::Qm::bR::l
abbrev Qg4:=mU Qgl Dq (sp Qgp (Bn Qgs Qgt 9152 (Im [Qg1,eu,gj,gX,iJ,kr])) (jt Qg2 (Bn Qgs Qgt 9152 (Im [Qg3,eu,gj,gX,iJ,kr])))) [Q0,Qf,bR,cC,eu,gj,gX,iJ,kr]
def Vg:=sp Qgk Qg4 Qg4
abbrev lQ:W:=.dH 11
abbrev Qg6:=mU Qgl Dq (sp Qgp (Bn Qgs Qgt 9153 (Im [Qg1,eu,gj,gX,iJ,kr,lQ])) (jt Qg2 (Bn Qgs Qgt 9153 (Im [Qg3,eu,gj,gX,iJ,kr,lQ])))) [eK,Qf,bR,cC,eu,gj,gX,iJ,kr,lQ]
def Vf:=sp Qgk Qg6 Qg6
abbrev Qg7:=lN cC iy Qh Qgb
abbrev Qg8:=eC Qgs 9154 (Im [Qg1])
abbrev Qg9:=eC Qgs 9154 (Im [Qg3])
abbrev fj a0 a1 a2 a3:=sp (kf a0 a1) a2 a3
abbrev pH a0 a1 a2 a3 a4:=ei a0 (kf a1 a2) a3 a4
def IL:=eb Qgk Qgl (n8 Dq (sp Qgp (fj KC Qf (eC Qgs 9152 (Im [Qg7,Qgv,Qgw,Qgx,Qgy,Qgz])) Qg8) (pH Qg2 KC Qf (eC Qgs 9153 (Im [Qg7,Qgv,Qgo,Qgw,Qgx,Qgy,Qgz])) Qg9))) (ou [jH,Qf,bR,cC]) Qgl (n8 Dq (sp Qgp Qg8 (jt Qg2 Qg9))) (ou [jH,Qf,bR,cC])
abbrev sZ a0 a1 a2:=rD (rr a0 a1 a2)
abbrev eh a0 a1:=sZ a0 a1 0
abbrev D2 a0 a1:=rr 9150 a0 a1
abbrev UU:=nY cC
abbrev Qhr:=mk cC
abbrev akj a0 a1 a2 a3 a4:=Bm a0 a1 (zF a2 a3 a4)
abbrev Bu a0 a1 a2 a3:=akj a0 Qhr a1 a2 a3
abbrev uP a0 a1 a2:=ce a0 (el a1 a2)
abbrev k8 a0:=ce 3 a0
abbrev Rm:W:=.lit 7
abbrev pn:=ln Qf
def t100:=ju 101 [lO pn Qc,Qc,Qa,Qf,Qb]
abbrev ga:=ou [Q0]
abbrev gx:=ou [Qa]
abbrev oL a0 a1 a2 a3 a4 a5:=cH a0 a1 (fv a2 a3) a4 a5
def t101:=oL yD (n8 Aa (eC b? 102 [lO Qf (lO (ln Qdm) (ln (ce 2 Qdl))),Qo,Qa,Qb,Qm,bR])) (.lit 6000) Qf ga gx
abbrev QI:=el cC Qb
abbrev Qiw:=ju 101 [Qf,Qm,Nk,bR,cC]
abbrev Qix:=ce 6 (sF (ce 2 QI))
abbrev jb a0 a1 a2 a3:=sp (fv a0 a1) a2 a3
def t102:=n8 Dq (ei (fv Qb KC) (iG Qo (ce 2 QI)) (jb (.lit 6000) Qf Qiw (n8 Aa (rh 103 [Qm,Qix,ln Qix,Qa,bR,cC]))) Qiw)
abbrev Qiy:=nY eu
abbrev Qiz:=el bR eu
abbrev Qi0:=[fT Qiz,gT Qiz,ja Qiz,k8 Qiz,.lit 60]
abbrev qb a0 a1 a2 a3:=ld a0 (fv a1 a2) a3
abbrev re a0 a1:=ju a0 (oD a1)
def t103:=jb eu cC (qb Qiy eu EK (ma 150 Qi0 (ju 103 [lO Qf (cL 150 Qi0),Qb,Qo,Qm,bR,cC,iu eu,gj,gX]))) (re 102 [Qm,gj,gX])
abbrev Qi1:=fv bR Q0
abbrev Qi2:W:=.lit 100
def t150:=iL Qi1 [.lit 10000] (ju 151 [bR,lO Q0 (wr (.quo Qc Qi2)),Qa,Qf,Qb,Qo,Qm])
abbrev Nj:=ln eu
abbrev Qi4:=ou [Qb]
abbrev Qi5:=sF eu
abbrev Bp a0 a1:=wr (.sub a0 a1)
abbrev s7 a0:=Bp a0 Q0
abbrev Qi6:=[fT Qi5,gT Qi5,ja Qi5,k8 Qi5,s7 Qf]
def t151:=jb Qo Nj (jb (.lit 10000) Qb Qi4 (n8 Aa (ma 150 Qi6 (ju 151 [Qf,lO Qb (cL 150 Qi6),Dr,Qm,bR,cC,eu])))) Qi4
abbrev Qi7:=kf pn Qc
abbrev Qi8:=[Qf,Qb,pn,Qa]
abbrev ke a0 a1:=sp a0 a1 gx
def t200:=ke Qi7 (ju 201 Qi8)
abbrev nC a0:=fv a0 pn
abbrev Qi9:=nC Qm
abbrev Qja:=ru Qf
abbrev Qjb:=kf (fT Qja) Qfm
abbrev Qjc:=kf (yr 1 Qja) Qfn
abbrev Qjd:=ja Qja
abbrev Qje:=kf (fZ Qja) Zw
abbrev Qjf:=ce 4 Qja
abbrev Qjg:=ln (ce 5 Qja)
abbrev nI a0 a1 a2 a3 a4:=qF a0 a1 a2 a3 a4 gx
abbrev yS a0 a1 a2 a3:=cH a0 gx a1 a2 a3
abbrev kc a0 a1 a2:=yS a0 a1 a2 gx
abbrev kE a0 a1 a2:=ei a0 a1 a2 gx
def t201:=sp Qp (Pa Qi9 (kE Qr Qjb (ke Qjc (kc (.and (.not (.and (.not (rD Qjd)) (.not (rD Qfo)))) (.not (.and (.not (.not (rD Qjd))) (.not (.not (rD Qfo)))))) Qje (ma 250 [Qjf,Qt] (nI (eh 250 [Qjf,Qt]) gx Qjg (ln Qx) (rh 202 [Qm,Qjg,Qa,fT Qja,yr 1 Qja,Qjd,fZ Qja,Qjf,ce 5 Qja,Qfm,Qfn,Qfo,Zw,Qt,Qx]))))))) ga
abbrev Qjh:=ln lQ
abbrev Qji:W:=.dH 17
abbrev Qjj:=iu cC
abbrev lr:W:=.dH 12
abbrev mc:W:=.dH 13
abbrev qk:W:=.dH 14
abbrev Ep:W:=.dH 15
abbrev Qjo:W:=.dH 16
abbrev Qjp:List W:=CD [Qm,bR,Qjj,eu,gj,gX,iJ,kr,lQ,lr,mc,qk,Ep,Qjo,Qji]
abbrev Qjq:List W:=CD [Q1]
abbrev pZ a0 a1 a2 a3 a4 a5:=pH (iG a0 a1) a2 a3 a4 a5
abbrev iF a0 a1:=nm (el a0 a1)
def t202:=jb cC bR (qb UU cC Qjh (pZ cC Qji (iF lQ cC) (iF Qji cC) (ju 202 Qjp) gx)) (ju 201 Qjq)
abbrev Qjr:=[Qf,Qb,Qa]
def t250:=ke Qi7 (ju 251 Qjr)
abbrev QH:=nC Qo
abbrev Qjt:=fv Qo Qc
abbrev Zu:=sF Qf
abbrev UT:=nm Zu
abbrev Qjw:=sF Qb
abbrev Qjx:List W:=oD []
def t251:=k7 QH Aa (pH Qjt UT (nm Qjw) (ju 251 Qjx) gx) ga
abbrev Qjy:=tL 450 xz
abbrev Qjz:=eh 450 xz
abbrev Qj0:=ou [Qh]
def afp:=qa Qjy Qjz 301 [Qf,pn] Qj0
abbrev Qj1:=jq Qb
abbrev Qj2:=jq pn
abbrev Qj3:=el Qf Qa
abbrev Qj4:=fT Qj3
abbrev Er:W:=.eS (.i (-1))
abbrev Qj6:=mk (ja Qj3)
abbrev Qj7:=nB Er Qj6 Qe6
abbrev Qj8:=ju 302 [Qj7,Qf,Qb,Q0]
abbrev Zv:W:=.lit 9
abbrev Qka:=nB Er iy Qe6
abbrev dX a0 a1 a2 a3 a4 a5 a6:=qF (kf a0 a1) a2 a3 a4 a5 a6
def X2:=sp Qj1 (jt Qj2 (dX Qj4 jH Qj8 Qj4 Zv Qj8 (ju 302 [Qka,Qf,Qb,Q0]))) Qj0
abbrev Qkb:=fv pn Qfj
abbrev Qkc:=eC Qkb 302 [lN Qf Er (mk Qfo) Qe6,Qb,Qo,Q1]
abbrev Qkd:=lN Qf Er iy Qe6
def anI:=sp Qp (nP (dX Qfm jH Qkc Qfm Zv Qkc (eC Qkb 302 [Qkd,Qb,Qo,Q1]))) (ou Qj)
abbrev kY a0 a1 a2:=fj a0 a1 a2 gx
def afo:=kE Qjy Qjz (kY UW pn (ju 351 [Qo,UW,Qa,Qf,Qb]))
abbrev Qke:=ja Zu
abbrev Qkf:=fT Zu
abbrev EJ:=gT Zu
abbrev Qkh:=k8 Zu
abbrev QF:=ce 4 Zu
abbrev Rk:=ce 5 Zu
abbrev ajZ (l:List W):=(yr 0 c_)::Qd3::(yr 2 c_)::(ce 3 c_)::(nm Qcw)::Qkf::(nm EJ)::l
abbrev Qkk:List W:=ajZ [Qa,nm Qkh,QF,Rk,EK]
abbrev Qkl:=re 351 [Qm,bR]
abbrev Qkm:List W:=ajZ [Q0,nm Qkh,QF,Rk,EK]
abbrev rk a0 a1:=LY QH a0 a1
abbrev qE a0 a1 a2 a3 a4:=ma a0 a1 (sp a2 a3 a4)
abbrev tV a0 a1 a2 a3 a4 a5 a6:=qE a0 a1 (sZ a2 a3 a4) a5 a6
abbrev gy a0 a1 a2 a3 a4 a5:=tV a0 a1 a2 a3 0 a4 a5
abbrev iD a0 a1 a2 a3 a4:=gy a0 a1 a2 a3 gx a4
def afn:=rk (ei Zx (rD Qke) (iD 500 Qkk 500 Qkk Qkl) (iD 500 Qkm 500 Qkm Qkl)) ga
abbrev Qkn:=[cC,Qo]
abbrev Qko:=cL 9000 Qkn
abbrev Rj:List W:=CD []
abbrev Qkq:=tL 350 Rj
abbrev Qkr:=eh 350 Rj
abbrev fR a0 a1:=rr a0 a1 2
abbrev Al:=fR 9000 Qkn
abbrev Qkt:=ou [Al,Qa,Qa,Qa,Qa,Qa,Qa]
abbrev aoM a0 a1 a2 a3:=cH Qq a0 a1 a2 a3
abbrev aoL a0 a1 a2:=aoM a0 Qr a1 a2
abbrev nK a0 a1 a2 a3 a4 a5:=ei a0 a1 a2 (aoL a3 a4 a5)
abbrev Qku:=nK Qkq Qkr Qkt Qkt Qkt Qkt
abbrev Qkv:=iG cC Al
abbrev Qkw:=ou [Qh,Qa,Qa,Qa,Qa,Qa,Qa]
abbrev Qkx:=ou [Qk,Qa,Qa,Qa,Qa,Qa,Qa]
abbrev rj a0 a1:=rr a0 Qkn a1
abbrev Qky:=rj 9000 3
abbrev Nw:=mk Qky
abbrev QG:=rj 9000 4
abbrev Rl:=mk QG
abbrev Qk2:=rj 9000 5
abbrev XH:W:=.op .bit (mk Qk2) Qa
abbrev Qk4:=rj 9000 6
abbrev XG:=mk Qk4
abbrev Ni:=rj 9000 7
abbrev b_:=rj 9000 8
abbrev a!:=cn b_ iy
abbrev Qk9:=rp XH XG Ni a!
abbrev Qla:=rp Qhr Nw Rl Qk9
abbrev Qlb:=stx Al Qla
abbrev Fo:=ou [Qlb,Qa,Qa,Qa,Qa,Qa,Qa]
abbrev Qld:=tL 600 [bR]
abbrev Qle:=nC cC
abbrev jQ a0 a1 a2:=yr a0 (el a1 a2)
abbrev Qlf:=kf (cL 600 [bR]) (jQ 0 Qf cC)
abbrev mY a0:=kf bR a0
abbrev Qlg:=mY Q0
abbrev Qlh:=kf Qky Qm
abbrev Qli:W:=.lit 27
abbrev Em:=ma 550 [Qo] (ou [cL 550 [Qo],Qm,Qli,cC,wr bR,Qa,eK])
abbrev Qlk:=tL 900 [Ni,Qm]
abbrev Qll:=eh 900 [Ni,Qm]
abbrev Qlm:=nY Qky
abbrev Qln:=Bu Al Ca Rl Qk9
abbrev Ri:=ma 550 [Qo] (ou [cL 550 [Qo],Qa,Qa,Qa,Qa,Qa,Qa])
abbrev Qlp:=iL Qlm [Qln,Qm,bR,cC,Qa,Qa,eK] Ri
abbrev Qlq:=sp Qlh Em (ei Qlk Qll Qlp Em)
abbrev Qlr:=mY eK
abbrev Qls:=iL Qlh [Bu Al Er Rl Qk9,Qm,bR,cC,Qa,Qa,eK] Em
abbrev Qlt:W:=.lit 8
abbrev Qlu:=mY Qlt
abbrev Qlv:=mY jH
abbrev Qlw:=ou [Qln,Qm,bR,cC,Q0,Qa,eK]
abbrev Qlx:=ou [Qlb,Qm,bR,cC,Qa,Qa,eK]
abbrev Qly:=sp Qlm Qlw Qlx
abbrev Qlz:=mY qx
abbrev Ql0:=fv gj eu
abbrev Ql1:=cH Qlm Qlw Ql0 Ri Qlx
abbrev Ql2:=mY B9
abbrev IB:=ln Ni
abbrev Ql4:W:=.lit 17592186044415
abbrev Ql5:=oG Rl XH XG (Cr Ni Ca) a!
abbrev gG a0 a1:=jt a0 (ou a1)
abbrev WK a0 a1 a2 a3:=stx a0 (zF a1 a2 a3)
abbrev nG a0 a1 a2:=WK a0 Qhr a1 a2
abbrev Ql6:=sp Qlh Em (nN Qlk Qll Qlm (gG (fv IB Ql4) [nG Al Nw Ql5,Qm,bR,cC,Qa,Qa,eK]) Ri Em)
abbrev Ql7:=mY QJ
abbrev Ql8:=tL 850 [Ni,Qm]
abbrev Ql9:=cL 850 [Ni,Qm]
abbrev Qma:=iu Ql9
abbrev Qmb:W:=.sub IB Qma
abbrev Qmc:W:=.add Ql9 Qmb
abbrev oN a0 a1:=W.op .cat a0 a1
abbrev td a0 a1:=W.op .drop a0 a1
abbrev nD a0 a1:=W.op .take a0 a1
abbrev Qmd:=oN (oN (nD Ni Ql9) (td (nD Ni (.add Qma Qmb)) Qma)) (td Ni Qmc)
abbrev Qme:W:=.op .fill Qmd (cn (mk Qmc) iy)
abbrev rv a0 a1 a2:=n8 (vA a0 a1) a2
abbrev wZ a0 a1 a2:=W.add a0 (.sub a1 a2)
abbrev kG a0 a1 a2 a3 a4 a5 a6:=nG a0 a1 (oG a2 a3 a4 a5 a6)
abbrev Qmf:=ld (nY (.sub IB Qmc)) (kf (wZ Qmc IB Qmc) (ln Qmd)) (rv Qme Qmc (ou [kG Al Nw Rl XH XG (nD Qme Qmc) a!,Qm,bR,cC,Qa,Qa,eK]))
abbrev p9 a0 a1 a2 a3 a4:=k7 (fv a0 a1) a2 a3 a4
abbrev iE a0 a1:=n8 (nY a0) a1
abbrev lM a0 a1 a2:=n8 (fv a0 a1) a2
abbrev Qmg:=ei Ql8 (nY Ql9) Em (lM Qma Ql9 (lM IB Qma (lM IB IB (fj Ql9 Qma Qlx (lM IB Ql9 (iE Qma (iE Qmb (lM IB (.add Qma Qmb) (lM IB Qmc (iE Qmc (p9 Qmc IB (vA Qmd IB) Qmf Qmf)))))))))))
abbrev Qmh:=mY Rm
abbrev Qmi:=sp Qlh Em (ei Qlk Qll (gz IB Qlp Ri) Em)
abbrev Qmj:=mY Zv
abbrev Qmk:=Bu Al Nw (mk (s7 QG)) Qk9
abbrev Qml:=iL (jq QG) [Qmk,Qm,bR,cC,Qa,Qa,eK] Ri
abbrev zK a0:=mY (.lit a0)
abbrev Qmm:=zK 11
abbrev Qmn:=iL (jq QG) [Qmk,Qm,bR,cC,Q0,Qa,eK] Qlx
abbrev a_:W:=.lit 10
abbrev Qmp:=mY a_
abbrev Dp:=jQ 2 Qf cC
abbrev Qmr:=Bu Al Nw (mk (iu QG)) Qk9
abbrev Qms:=iL (fv QG Dp) [Qmr,Qm,bR,cC,Qa,Qa,eK] Em
abbrev Qmt:=zK 17
abbrev Qmu:W:=.lit 1099511627776
abbrev Qmv:=oL (fv eu (Bp Qa QG)) Em (Bp Qmu QG) eu Em (ou [Bu Al Nw (mk (lO QG eu)) Qk9,Qm,bR,cC,lO QG eu,Qa,eK])
abbrev Qmw:=zK 18
abbrev Qmx:=iL (jq QG) [Qmk,Qm,bR,cC,s7 QG,Qa,eK] Em
abbrev Qmy:W:=.lit 19
abbrev Qmz:=mY Qmy
abbrev Qm0:=gz QG Qlx Ri
abbrev Qm1:=zK 22
abbrev Qm2:=ou [Qlb,Qm,bR,cC,QG,Qa,eK]
abbrev Qm3:W:=.lit 23
abbrev Qm4:=mY Qm3
abbrev Qm5:=mk eu
abbrev Qm6:=ou [Bu Al Nw Qm5 Qk9,Qm,bR,cC,eu,Qa,eK]
abbrev Qm7:W:=.lit 20
abbrev Qm8:=mY Qm7
abbrev Qm9:=sp (vA b_ Dp) (gG (vA b_ Ql4) [Bu Al Nw Rl (jB XH XG Ni (Cr b_ Qm5)),Qm,bR,cC,eu,Qa,eK]) Ri
abbrev Qna:=zK 21
abbrev Qnb:=wZ Q0 (ln b_) Q0
abbrev Qnc:=gz (ln b_) Ri (iE (.sub (ln b_) Q0) (rv b_ Qnb (ou [Bu Al Nw Rl (jB XH XG Ni (td (nD b_ Qnb) Q0)),Qm,bR,cC,iF b_ Qa,Qa,eK])))
abbrev Qnd:=zK 12
abbrev Qne:=nY Dp
abbrev Qnf:=iG Dp Al
abbrev Zs:=kf Dp cC
abbrev Rh:W:=.lit (-1)
abbrev XF:=[Ni,Qm,cC,Dp,Al,bR,eu,gj,Rh,QG,Qk2,Qk4,b_]
abbrev Qnj:=gG (fv IB Ql4) [nG Al Er Ql5,Qm,bR,cC,Qa,Qa,jH]
abbrev Qnk:=rr 12000 XF 14
abbrev Qnl:=rr 12000 XF 15
abbrev Qnm:W:=.add Qnk Q0
abbrev Qnn:=Cr iy Ca
abbrev Qno:=oN (oN (nD Qnl Qnk) Qnn) (td Qnl Qnm)
abbrev Qnp:=jQ 0 Al Dp
abbrev Qnq:=kf Qnp Qm
abbrev Pb a0 a1 a2:=Bm a0 (mk a1) a2
abbrev Qnr:=Pb Al Dp (Bm (el Al Dp) iy Er)
abbrev XE:=[Ni,Qm,cC,Dp,Qnr,bR,eu,gj,Qky,QG,Qk2,Qk4,b_]
abbrev Qnt:=gG (fv IB Ql4) [nG Qnr Nw Ql5,Qm,bR,cC,Qa,Qa,jH]
abbrev Qnu:=rr 12000 XE 14
abbrev Qnv:=rr 12000 XE 15
abbrev Qnw:W:=.add Qnu Q0
abbrev Qnx:=oN (oN (nD Qnv Qnu) Qnn) (td Qnv Qnw)
abbrev Qny:W:=.lit 13
abbrev Qnz:=mY Qny
abbrev Qn0:W:=.lit 14
abbrev Qn1:=mY Qn0
abbrev Qn2:=kG Al Nw Rl XH XG Qh a!
abbrev KB:W:=.lit 24
abbrev Qn4:=mY KB
abbrev Qn5:W:=.lit 15
abbrev Qn6:=mY Qn5
abbrev Zt:W:=.lit 4611686018427387904
abbrev H3:W:=.lit 25
abbrev Qn9:=mY H3
abbrev Ig:W:=.lit 16
abbrev Qob:=mY Ig
abbrev Qoc:=zK 26
abbrev oM a0 a1:=ld Qne a0 a1
abbrev ri a0 a1 a2 a3 a4:=cH a0 a1 a2 (ou a3) a4
abbrev mn a0 a1 a2 a3 a4 a5 a6:=eb a0 a1 (ou a2) a3 a4 a5 a6
abbrev Qod:=cH Qn4 (oM Qnf (ei Qlk Qll (ri Zs Qlp (nY Qnp) [stx (Pb Al Dp (Bm (el Al Dp) iy Ca)) Qla,Qm,bR,cC,Qa,Qa,eK] Ri) Ri)) Qn6 (jb Qk4 Zt (fj (iu QG) Dp (ou [kG Al Nw iy XH (mk (iu Qk4)) Ni a!,Qm,bR,cC,Qk4,Qa,jH]) (ou [Qmr,Qm,bR,cC,Qk4,Qa,jH])) Em) (mn Qn9 (fv eu Qk4) [Qlb,Qm,bR,cC,eu,Qa,eK] Ri Qob (gz Qk2 (cH Qlh Em Qlm Qlw Ri) Qlx) (ei Qoc Qlh (ou [kG Al Er Rl Qh XG Ni a!,Qm,bR,cC,Qa,Qa,eK]) Em))
abbrev Qoe:=eb Qnz (rD IB) Qlx (iE (.sub IB Q0) (lM IB (wZ Q0 IB Q0) (ou [kG Al Nw Rl XH XG (td (nD Ni (wZ Q0 IB Q0)) Q0) a!,Qm,bR,cC,iu (iF Ni Qa),Qa,eK]))) Qn1 (ou [Qn2,Qm,bR,cC,IB,Qa,eK]) Qod
abbrev Qof:=cn (Cr iy Qm5) iy
abbrev Qog:=iL (jq Dp) [kG Al Nw Rl XH XG Ni Qof,Qm,bR,cC,eu,Qa,eK] Ri
abbrev Qoh:=rr 12100 XF 14
abbrev Qoi:=rr 12100 XF 15
abbrev Qoj:W:=.add Qoh Q0
abbrev Qok:=oN (oN (nD Qoi Qoh) Qnn) (td Qoi Qoj)
abbrev Qol:=rr 12100 XE 14
abbrev Qom:=rr 12100 XE 15
abbrev Qon:W:=.add Qol Q0
abbrev Qoo:=oN (oN (nD Qom Qol) Qnn) (td Qom Qon)
abbrev Qop:=oG Rl XH XG Qnn a!
abbrev Qoq:=sp Qlh Em (ei Qlk Qll (iL Qlm [nG Al Nw Qop,Qm,bR,cC,Qa,Qa,eK] Ri) Em)
abbrev qg a0 a1 a2:=jt a0 (jt a1 a2)
abbrev Qor:=qg Ql8 (nY Ql9) Em
abbrev Qos:=ou [nG Al Er Qop,Qm,bR,cC,Qa,Qa,jH]
abbrev Qot:=ou [nG Qnr Nw Qop,Qm,bR,cC,Qa,Qa,jH]
abbrev Qou:=ri Qnz Qlx Qn1 [Qn2,Qm,bR,cC,Qa,Qa,eK] Qod
abbrev nJ a0 a1 a2 a3:=cH UU a0 a1 a2 a3
abbrev rm a0 a1 a2 a3:=tU (cL a0 a1) a2 a3
abbrev pF a0 a1 a2 a3:=ma a0 a1 (jt a2 a3)
def jr:=ma 9000 Qkn (qF (rD Qko) (sp UU Qku (n8 Qkv Qku)) Qko Q0 (nK Qkq Qkr Qkw Qkw (sp UU Qkw Qkw) Qkw) (dX Qko eK (nK Qkq Qkr Qkx Qkx (sp UU Qkx Qkx) Qkx) Qko jH (nK Qkq Qkr Fo Fo (nJ Fo Qkv (jt Qld (nN Qle Qlf Qlg Qlq (cH Qlr Qls Qlu Qls (cH Qlv Qly Qlz Ql1 (cH Ql2 Ql6 Ql7 Qmg (cH Qmh Qmi Qmj Qml (cH Qmm Qmn Qmp Qms (cH Qmt Qmv Qmw Qmx (cH Qmz Qm0 Qm1 Qm2 (cH Qm4 Qm6 Qm8 Qm9 (cH Qna Qnc Qnd (oM Qnf (eb Zs Qlh (gy 12000 XF 12000 XF Qnj (rm 12000 XF Q0 (iE Qnk (rv Qnl Qnm (iE Qnm (rv Qno Qnm (ou [kG Al Er Rl XH XG (nD Qno Qnm) a!,Qm,bR,cC,Qa,Qa,jH]))))))) Em Qnq (gy 12000 XE 12000 XE Qnt (rm 12000 XE Q0 (iE Qnu (rv Qnv Qnw (iE Qnw (rv Qnx Qnw (ou [kG Qnr Nw Rl XH XG (nD Qnx Qnw) a!,Qm,bR,cC,Qa,Qa,jH]))))))) Em)) Qoe))))))))) Fo)) Fo) Fo) (dX Qko qx (nK Qkq Qkr Fo Fo (nJ Fo Qkv (jt Qld (nN Qle Qlf Qlg Qlq (cH Qlr Qls Qlu Qls (cH Qlv Qly Qlz Ql1 (cH Ql2 Ql6 Ql7 Qmg (cH Qmh Qmi Qmj Qml (cH Qmm Qmn Qmp Qms (cH Qmt Qmv Qmw Qmx (cH Qmz Qm0 Qm1 Qm2 (cH Qm4 Qm6 Qm8 Qog (cH Qna Ri Qnd (oM Qnf (eb Zs Qlh (gy 12100 XF 12100 XF Qnj (rm 12100 XF Q0 (iE Qoh (rv Qoi Qoj (iE Qoj (rv Qok Qoj (ou [kG Al Er Rl XH XG (nD Qok Qoj) a!,Qm,bR,cC,Qa,Qa,jH]))))))) Em Qnq (gy 12100 XE 12100 XE Qnt (rm 12100 XE Q0 (iE Qol (rv Qom Qon (iE Qon (rv Qoo Qon (ou [kG Qnr Nw Rl XH XG (nD Qoo Qon) a!,Qm,bR,cC,Qa,Qa,jH]))))))) Em)) Qoe))))))))) Fo)) Fo) Fo) Qko B9 (nK Qkq Qkr Fo Fo (nJ Fo Qkv (jt Qld (nN Qle Qlf Qlg Qlq (cH Qlr Qls Qlu Qls (cH Qlv Qly Qlz Ql1 (cH Ql2 Qoq Ql7 Qor (cH Qmh Qlq Qmj Qml (cH Qmm Qmn Qmp Qms (cH Qmt Qmv Qmw Qmx (cH Qmz Qm0 Qm1 Qm2 (cH Qm4 Qm6 Qm8 Qm9 (cH Qna Qnc Qnd (oM Qnf (eb Zs Qlh (pF 12200 XF (eh 12200 XF) Qos) Em Qnq (pF 12200 XE (eh 12200 XE) Qot) Em)) Qou))))))))) Fo)) Fo) Fo) (tU Qko QJ (nK Qkq Qkr Fo Fo (nJ Fo Qkv (jt Qld (nN Qle Qlf Qlg Qlq (cH Qlr Qls Qlu Qls (cH Qlv Qly Qlz Ql1 (cH Ql2 Qoq Ql7 Qor (cH Qmh Qlq Qmj Qml (cH Qmm Qmn Qmp Qms (cH Qmt Qmv Qmw Qmx (cH Qmz Qm0 Qm1 Qm2 (cH Qm4 Qm6 Qm8 Qog (cH Qna Ri Qnd (oM Qnf (eb Zs Qlh (pF 12300 XF (eh 12300 XF) Qos) Em Qnq (pF 12300 XE (eh 12300 XE) Qot) Em)) Qou))))))))) Fo)) Fo) Fo)))))
abbrev Qov:=ju 451 [Qf,pn,Qa,Qb]
def arQ:=oL (nC (.lit 64)) Qov Ig Qc Qov (ju 452 [Qf,pn,Qa,Qb])
abbrev Qow:=re 451 [Qm]
def anH:=rk Qow (ju 453 [Qm,yn,Qa,Qf])
abbrev Qox:=[Qf,Qm,Qkf,EJ,Qke,Qkh,nm QF]
def anG:=rk (gy 700 Qox 700 Qox Qow (re 452 [Qm])) (ju 454 [Qm,yn,Qa,Qf])
abbrev Qoy:List W:=Jo [Qo,Qm,ce 0 Zu,EJ,ce 2 Zu]
abbrev Qoz:=ou [.lit 120]
def anF:=k7 yD Aa (eC QH 455 Qoy) Qoz
def anE:=ke yD (oK QH (iG (.lit 120) EJ) (ju 455 Qoy) (iG (.lit 4000) (ce 2 Zu)) 455 Qoy (ju 456 Qoy))
abbrev Qo0:=ju 453 [Qb,Qo,Q1,bR]
def anD:=sp (iG Qf gj) Qo0 Qo0
abbrev Qo1:=nY Qf
abbrev Qo2:=el gj Qf
abbrev Qo3:=[bR,Qb,cC,eu,gj,fT Qo2,yr 1 Qo2,ja Qo2,fZ Qo2,jC Qo2,yr 5 Qo2,ce 6 Qo2]
abbrev Qo4:=iu Qf
abbrev Qo5:=[ce 6 Qo2,cC,eu,gj]
abbrev fE a0 a1:=rr a0 a1 1
abbrev DN (l:List W):=Qo4::Qb::Qo::Qm::l
abbrev Qo6:List W:=DN [bR,cL 5000 Qo5,fE 5000 Qo5,fR 5000 Qo5]
abbrev DM (l:List W):=bR::cC::eu::gj::l
def anC:=k7 (iG Qf gj) Qo1 (gy 750 Qo3 750 Qo3 (ju 455 (DN (DM []))) (tV 5000 Qo5 5000 Qo5 3 (ju 456 Qo6) (ju 455 Qo6))) (ju 454 [Qb,Qo,Q1,bR])
abbrev IA:List W:=CD [Qm,bR]
abbrev Qo8:=fv cC Rh
abbrev Qo9:=fv cC lQ
abbrev Qpa:=nY gX
abbrev Qpb:=kZ iJ
abbrev lL a0:=kf Qf a0
abbrev UR:=lL qx
abbrev Qpd:=kZ kr
abbrev Zr:=rD gj
abbrev Qpf:=jq gX
abbrev Qpg:=ju 501 [lQ,iJ,ln iJ,Qa,Qf,Qb,Qo,Qm,bR,cC,eu,gj,gX,kr,iy]
abbrev pD a0 a1:=sp a0 gx a1
abbrev Qph:=pD Qpf Qpg
abbrev Qpi:=kc Qpd Zr Qph
abbrev Qpj:=lL eK
abbrev Qpk:=lL Qlt
abbrev Z9:=lL B9
abbrev Qpm:=lL QJ
abbrev Qpn:=lL Q0
abbrev iq a0 a1 a2:=yS a0 a1 gx a2
abbrev Qpo:=kc Qo8 Qo9 (iq Qpa (fv Zt gX) (nJ (cH Qpb (cH UR Qpi Qpj Qpi gx) Qpd (ke Qpk (ke Zr Qph)) (eb Zr Qpf (ke Z9 Qpg) Qpg Qpm Qph gx)) Qpn (pD Qpb Qpi) (eb Qpj Qpb Qpi Qpi Qpm (pD Qpb (yS Qpd Zr Qph Qph)) gx)))
def afm:=tV 650 IA 650 IA 1 Qpo (iq Qiy (fv (cL 650 IA) eu) Qpo)
abbrev Qpp:=nm Qs
abbrev Qpq:=qf (mk Qpp)
abbrev uU a0 a1:=W.op .OE a0 a1
abbrev aaw (l:List W):=Q1::bR::cC::eu::gj::gX::iJ::kr::lQ::lr::mc::l
abbrev Qpr:=rh 501 (aaw [uU qk (cn Qpq Qh)])
abbrev Z8:=ln mc
abbrev Qpt:=nY iJ
abbrev Qpu:=rD lQ
abbrev oJ a0 a1 a2 a3:=cH a0 ga a1 a2 a3
abbrev Qpv:=oJ Qpt (rD Qc) (ke Qpu ga) gx
def X1:=sp Qp (nP (kc (nY Qpp) (fv Qpp Qf) (qF (rD (.op .Ev qk Qpq)) Qpr (nm (.op .Ew qk Qpq)) Q0 gx Qpr))) (eb Qiy (jq Z8) gx Qpv (fv eu Z8) gx Qpv)
abbrev Qpw:=fv pn (.lit 1759218604441)
abbrev Qpx:=qf Qf
def afl:=lX Qj2 (eC Qpw 551 [Qf,pn,Qa]) Qpx (ju 552 []) (eC (pE Qpx) 553 [])
abbrev Qpy:=ot QF
abbrev Qpz:=kZ Rk
abbrev Qp0:=ot Rk
abbrev Qp1:=lZ Qf Zy Zu Qbd QF
abbrev Qp2:=kf Rk Qh
abbrev Qp3:=pE Rk
abbrev Qp4:=Bk Qf Zu Qbl
abbrev Qp5:=Bk Qf Zu Qbq
def anB:=rk (lX (kZ QF) (om Qpy Qpz (eC Qp0 551 [lZ Qp1 Zy (sF Qp1) Qbf Rk,Qb,Dr]) Qp2 551 [qi Qp1 Qp1 Qbh,Qb,Dr] (eC Qp3 551 [qi Qp1 Qp1 Qbj,Qb,Dr])) QF (ox Qpz (eC Qp0 551 [lZ Qp4 Zy (sF Qp4) Qbf Rk,Qb,Dr]) Qp2 551 [qi Qp4 Qp4 Qbh,Qb,Dr] (eC Qp3 551 [qi Qp4 Qp4 Qbj,Qb,Dr])) (tU QF Qk (ox Qpz (eC Qp0 551 [lZ Qp5 Zy (sF Qp5) Qbf Rk,Qb,Dr]) Qp2 551 [qi Qp5 Qp5 Qbh,Qb,Dr] (eC Qp3 551 [qi Qp5 Qp5 Qbj,Qb,Dr])))) (ou Qj)
def auJ:=ou [Qh]
def auI:=ou [Qk]
abbrev US:=lL jH
abbrev Qp7:=ou [eK]
abbrev Qp8:=lL Zv
abbrev Qp9:=ou [jH]
abbrev Qqa:=lL (.lit 11)
abbrev Z7:=ou [qx]
abbrev Qqc:=ou [B9]
abbrev Qqd:=ou [QJ]
abbrev Qqe:=lL (.lit 17)
abbrev Qqf:=ou [Rm]
abbrev Qqg:=ou [Qlt]
abbrev Qqh:=lL (.lit 21)
abbrev Qqi:=lL (.lit 22)
abbrev Qqj:=ou [Zv]
def arK:=jb (wr Qf) Qli (qb Qo1 Qf Qli (yS (rD Qf) Qpn ga (oJ Qpj US ga (oJ UR Z9 Qp7 (qF Qpm Qp7 Qf Rm Qp7 (cH Qpk Qp7 Qp8 Qp9 (cH (lL a_) Qp9 Qqa Qp9 (dX Qf (.lit 12) Z7 Qf Qny Z7 (dX Qf Qn0 Z7 Qf Qn5 Qqc (cH (lL Ig) Qqd Qqe Qqf (dX Qf (.lit 18) Qqf Qf Qmy Qqf (cH (lL Qm7) Qqg Qqh Qqg (qF Qqi Qqj Qf Qm3 Qqj (dX Qf KB Z7 Qf H3 Qqc Qqd)))))))))))))) gx
abbrev Qqk:=ou [Qa,Qa]
def anA:=ri US (ou [Qo,Q0]) Z9 [s7 Qo,Q0] (cH (lL Rm) (ou [Qmu,Q0]) Qp8 Qqk (ou [Qa,Q0]))
abbrev Qql:=gz bR ga gx
abbrev Qqm:=iq Qi1 (fv (.lit 1048576) bR) ga
abbrev Qqn:=iq Qi1 (fv Ig bR) ga
abbrev xy:=nY bR
abbrev Qqp:=kc xy (nC bR) (kY (jQ 0 Qf bR) Q0 ga)
def arJ:=fj Qo Q0 Qql (dX Qo eK Qql Qo QJ Qql (dX Qo Rm Qql Qo jH Qqm (dX Qo Qlt Qqm Qo B9 Qqn (dX Qo qx Qqp Qo Zv ga gx))))
abbrev Qqq:=nY gj
abbrev qe a0:=kf a0 Q0
abbrev Qqr:=qe cC
abbrev Qqs:=kf cC eK
abbrev Qqt:=kf cC jH
abbrev Qqu:=kf cC qx
abbrev Qqv:=kf cC B9
abbrev Qqw:=kf cC QJ
abbrev Qqx:=kf cC Rm
abbrev Qqy:=iq Qqw Qqx gx
abbrev Qqz:=pD Qqt (iq Qqu Qqv Qqy)
abbrev Qq0:=nC gj
abbrev Qq1:=jQ 0 Qf gj
abbrev Qq2:=[Qq1,cC,eu,gj,gX,iJ,kr,lQ,Qa]
abbrev Qq3:=fj eu Ig gx ga
abbrev Qq4:=iD 950 Qq2 950 Qq2 Qq3
abbrev Qq5:=kY Qq1 QJ ga
abbrev Qq6:=ke Qq0 Qq5
abbrev Qq7:=kY Qjh Q0 ga
abbrev Qq8:=jb EK iJ gx Qq7
abbrev Qq9:=jb EK iJ gx ga
abbrev Qra:=pD Qqt (cH Qqu Qq8 Qqv Qq9 Qqy)
abbrev Qrb:=fj eu Ig Qq9 ga
abbrev Qrc:=iD 950 Qq2 950 Qq2 Qrb
abbrev Qrd:=fv gX yn
abbrev Qre:=sp Qqt (ke Qrd Qq7) (iq Qqu Qqv (eb Qqw Qrd ga gx Qqx (ke Qrd gx) gx))
abbrev Qrf:=[Qq1,cC,eu,gj,gX,iJ,kr,lQ,Q0]
abbrev Qrg:=sp Qqt (ke Qrd Qq7) (cH Qqu Qq8 Qqv Qq9 (eb Qqw Qrd ga gx Qqx (ke Qrd Qq9) gx))
def D!:=sp Qpa (eb Qpt Qqq (iq Qqr Qqs Qqz) (eb Qqr Qq0 Qq4 gx Qqs Qq6 Qqz) Qqq (iq Qqr Qqs Qra) (eb Qqr Qq0 Qrc gx Qqs Qq6 Qra)) (eb Qpt Qqq (iq Qqr Qqs Qre) (eb Qqr Qq0 (sp Qrd (iD 950 Qrf 950 Qrf Qq3) Qq4) gx Qqs Qq6 Qre) Qqq (iq Qqr Qqs Qrg) (eb Qqr Qq0 (sp Qrd (iD 950 Qrf 950 Qrf Qrb) Qrc) gx Qqs Qq6 Qrg))
abbrev Qrh:W:=.lit 1000
abbrev Qri:List W:=CD [Qm,Q0,Qrh,bR]
def arI:=tV 5050 Qri 5050 Qri 2 gx ga
def arH:=ju 851 Qi8
abbrev Z6:=nm Qja
def afk:=mU Qp Qq (pH Qi9 Qb Z6 (ou [Qm]) (ju 851 Qjq)) [Rh]
abbrev w7 a0 a1 a2 a3:=qE a0 a1 a2 gx a3
def arG:=w7 850 xz (nY (cL 850 xz)) ga
abbrev Qrk:=rD gX
abbrev Qrl:=[Qf,ln gj,Qb,Qo,Qm,bR,cC,eu,gj]
def arB:=sp Qrk (ju 951 Qrl) (ju 952 Qrl)
abbrev Qrm:=rp Qh iy iy Qe5
abbrev SF (l:List W):=Qf::Qb::Q0::Qo::Qm::l
abbrev Qrn:List W:=SF (DM [gX,Cr iy Qrm])
abbrev Qro:=[Qf,Q0,Qa,Qa,Qm,Qa,Qa]
abbrev Qrp:=tL 1200 [Qm]
abbrev Qrq:=lL (cL 1200 [Qm])
abbrev Qrr:=[Qf,iy]
abbrev Qrs:=tL 5150 Qrr
abbrev Qrt:=sZ 5150 Qrr 2
abbrev Qru:=fj Qm Ig ga ga
abbrev s6 a0:=iG Qm7 a0
abbrev Qrv:=kE Qrp Qrq (jt Qrs (iq Qrt (s6 (fE 5150 Qrr)) Qru))
abbrev Qrw:=iD 12400 Qro 12400 Qro (rm 12400 Qro Q0 Qrv)
abbrev Qrx:=[Qa,Qa,Qf,Qa,Qa,Qa,Qm,Qa,Qa]
abbrev Qry:=tL 5200 Qrr
abbrev Qrz:=sZ 5200 Qrr 3
abbrev Qr0:=[Qf,Qa,Qa,Qa,Qm,Qa,Qa]
abbrev Qr1:=cH US Qrw Qpk Qrw (cH Z9 Qrw UR (iD 12450 Qrx 12450 Qrx (rm 12450 Qrx Q0 (kE Qrp Qrq (jt Qry (iq Qrz (s6 (fR 5200 Qrr)) Qru))))) (iD 12400 Qr0 12400 Qr0 (rm 12400 Qr0 Q0 Qrv)))
abbrev Qr2:=eh 12500 Qro
abbrev Qr3:=qe (cL 12500 Qro)
abbrev s9 a0 a1:=W.eS (qpx a0 a1)
abbrev Qr4:=s9 97 nH
abbrev Qr5:=cn Qr4 Qh
abbrev Qr6:=s6 (uU (fE 5150 Qrr) Qr5)
abbrev p7 a0 a1 a2:=ei a0 a1 gx a2
abbrev Qr7:=kE Qrp Qrq (p7 Qrs Qrt (nI Qr6 gx Qm Ig gx))
abbrev p8 a0 a1 a2 a3 a4:=w7 a0 a1 a2 (jt a3 a4)
abbrev Qr8:=p8 12500 Qro Qr2 Qr3 Qr7
abbrev Qr9:=eh 12550 Qrx
abbrev Qsa:=qe (cL 12550 Qrx)
abbrev Qsb:=s6 (uU (fR 5200 Qrr) Qr5)
abbrev Qsc:=eh 12500 Qr0
abbrev Qsd:=qe (cL 12500 Qr0)
def afj:=qF Qj1 (ju 953 Qrn) cC Rh Qr1 (cH US Qr8 Qpk Qr8 (cH Z9 Qr8 UR (p8 12550 Qrx Qr9 Qsa (kE Qrp Qrq (p7 Qry Qrz (nI Qsb gx Qm Ig gx)))) (p8 12500 Qr0 Qsc Qsd Qr7)))
abbrev Qse:=kE Qrp Qrq (jt Qrs (iq Qrt Qr6 Qru))
abbrev Qsf:=p8 12500 Qro Qr2 Qr3 Qse
def afi:=qF Qj1 (ju 954 Qrn) cC Rh Qr1 (cH US Qsf Qpk Qsf (cH Z9 Qsf UR (p8 12550 Qrx Qr9 Qsa (kE Qrp Qrq (jt Qry (iq Qrz Qsb Qru)))) (p8 12500 Qr0 Qsc Qsd Qse)))
abbrev Qsg:=vA kr (.lit 2513169434915)
abbrev og (l:List W):=Qm::bR::cC::l
abbrev Qsh:List W:=oD (og [eu,gj,gX,iJ,Cr kr Qrm])
abbrev Qsi:=[Qf,Q0,Qa,Qa,bR,Qa,kr,Qa]
abbrev Qsj:=tL 1200 [bR]
abbrev Qsk:=lL (cL 1200 [bR])
abbrev Qsl:=[rr 12600 Qsi 9,rr 12600 Qsi 10,Qf,iy]
abbrev Qsm:=sp Qob ga ga
abbrev Qsn:=iD 12600 Qsi 12600 Qsi (rm 12600 Qsi Q0 (kE Qsj Qsk (ma 5300 Qsl (iq (sZ 5300 Qsl 3) (s6 (fR 5300 Qsl)) Qsm))))
abbrev Qso:=[Qa,Qa,Qf,Qa,Qa,Qa,bR,Qa,kr,Qa]
abbrev Qsp:=[rr 12650 Qso 11,rr 12650 Qso 12,Qf,iy]
abbrev Qsq:=[Qf,Qa,Qa,Qa,bR,Qa,kr,Qa]
abbrev Qsr:=[rr 12600 Qsq 9,rr 12600 Qsq 10,Qf,iy]
abbrev Qss:=cH US Qsn Qpk Qsn (cH Z9 Qsn UR (iD 12650 Qso 12650 Qso (rm 12650 Qso Q0 (kE Qsj Qsk (ma 5350 Qsp (iq (sZ 5350 Qsp 4) (s6 (rr 5350 Qsp 3)) Qsm))))) (iD 12600 Qsq 12600 Qsq (rm 12600 Qsq Q0 (kE Qsj Qsk (ma 5300 Qsr (iq (sZ 5300 Qsr 3) (s6 (fR 5300 Qsr)) Qsm))))))
abbrev Qst:=eh 12700 Qsi
abbrev Qsu:=qe (cL 12700 Qsi)
abbrev Qsv:=[rr 12700 Qsi 9,rr 12700 Qsi 10,Qf,iy]
abbrev Qsw:=sZ 5300 Qsv 3
abbrev Qsx:=s6 (uU (fR 5300 Qsv) Qr5)
abbrev Qsy:=ke Qob gx
abbrev Qsz:=p8 12700 Qsi Qst Qsu (kE Qsj Qsk (ma 5300 Qsv (iq Qsw Qsx Qsy)))
abbrev Qs0:=eh 12750 Qso
abbrev Qs1:=qe (cL 12750 Qso)
abbrev Qs2:=[rr 12750 Qso 11,rr 12750 Qso 12,Qf,iy]
abbrev Qs3:=sZ 5350 Qs2 4
abbrev Qs4:=s6 (uU (rr 5350 Qs2 3) Qr5)
abbrev Qs5:=eh 12700 Qsq
abbrev Qs6:=qe (cL 12700 Qsq)
abbrev Qs7:=[rr 12700 Qsq 9,rr 12700 Qsq 10,Qf,iy]
abbrev Qs8:=sZ 5300 Qs7 3
abbrev Qs9:=s6 (uU (fR 5300 Qs7) Qr5)
def NU:=qF yD (eC Qsg 953 Qsh) eu Rh Qss (cH US Qsz Qpk Qsz (cH Z9 Qsz UR (p8 12750 Qso Qs0 Qs1 (kE Qsj Qsk (ma 5350 Qs2 (iq Qs3 Qs4 Qsy)))) (p8 12700 Qsq Qs5 Qs6 (kE Qsj Qsk (ma 5300 Qs7 (iq Qs8 Qs9 Qsy))))))
abbrev Qta:=p8 12700 Qsi Qst Qsu (kE Qsj Qsk (ma 5300 Qsv (iq Qsw Qsx Qsm)))
def NT:=qF yD (eC Qsg 954 Qsh) eu Rh Qss (cH US Qta Qpk Qta (cH Z9 Qta UR (p8 12750 Qso Qs0 Qs1 (kE Qsj Qsk (ma 5350 Qs2 (iq Qs3 Qs4 Qsm)))) (p8 12700 Qsq Qs5 Qs6 (kE Qsj Qsk (ma 5300 Qs7 (iq Qs8 Qs9 Qsm))))))
abbrev Z4:=[Qf,Qa]
def ajU:=tV 1050 Z4 1050 Z4 6 (kY (cL 1050 Z4) eK (kY (Bp (rr 1050 Z4 5) (rr 1050 Z4 4)) pn ga)) gx
abbrev VI (l:List W):=Qa::iy::Qa::Qa::Qa::Qa::l
abbrev Qtc:=ou (VI [jH,Qa])
abbrev Qtd:=ou (VI [eK,Qa])
abbrev UQ:=rr 12800 xz 3
abbrev uN a0 a1:=W.op .sub a0 a1
abbrev Qtf:=iu (.op .cnt (uN Qf (zF iy (mk UQ) iy)) a_)
abbrev Qtg:=rr 12850 [Qf,UQ] 3
abbrev Z3:=uN Qf (zF (mk UQ) (mk Qtg) iy)
abbrev Qti:=iF Z3 Qa
abbrev Qtj:W:=.lit 256
abbrev zJ a0 a1:=iF (.eS a0) a1
abbrev Qtk:=zJ b0 Qti
abbrev Qtl:=ou (VI [Qi2,Qtf])
abbrev Qtm:=s9 32 nH
abbrev Qtn:=kf (qf Z3) (s9 61 nH)
abbrev oI a0 a1 a2 a3 a4 a5 a6:=tV a0 a1 a2 a3 a4 a5 (ou a6)
def Vu:=jb (.lit 16384) pn Qtc (oL Dq Qtd pn Qb Qtd (pF 12800 xz (eh 12800 xz) (iE UQ (lM pn UQ (fj UQ pn (ou [B9,iy,Qa,Qtf,UQ,UQ,Qa,Qa]) (pF 12850 [Qf,UQ] (eh 12850 [Qf,UQ]) (lM Qtg UQ (ld (fv pn Qtg) (kZ Z3) (iE Qti (pH (fv Qti Qtj) Qtk jH (oI 1100 [Z3] 1100 [Z3] 1 Qtl [Q0,iy,cL 1100 [Z3],Qtf,UQ,Qtg,Qa,Qa]) (dX Qtk qx (qg (vA Z3 (.lit 1000000000)) (vA (oN Qtm Z3) (.lit 1000000000)) (eb (rD (.op .con (.eS b1) (oN (oN Qtm Z3) Qtm))) Qtn Qtl (ou [eK,Z3,Qa,Qtf,UQ,Qtg,Qa,Qa]) Qtn Qtl (ou [jH,Z3,Qa,Qtf,UQ,Qtg,Qa,Qa]))) Qtk B9 (sp Qtn Qtl (ou [qx,Z3,Qa,Qtf,UQ,Qtg,Qa,Qa])) Qtl)))))))))))
def ajT:=gz pn (ju 1101 []) (ju 1102 [Qa,Qf,pn,Qa])
def arR:=ou [Qa,Q0]
abbrev Qto:W:=.lit 9223372036854775807
abbrev Qtp:=wr (.wrap .u8 (.sub Qpp (.lit 48)))
def W!:=mU Qp Qq (ei Qr (fv (wr (.quo (Bp Qto Qtp) a_)) Qf) Qqk (ju 1102 [lO (wr (.mul Qf a_)) Qtp,Qb,Qo,Q1])) [Qf,Q0]
abbrev Qtq:=eh 1000 [Qb]
abbrev Qtr:=s7 yn
abbrev Qts:=s9 45 nH
abbrev Qtt:=kf Qg Qts
abbrev Qtu:=s9 43 nH
abbrev Qtv:=s9 42 nH
abbrev Bq a0 a1 a2:=qpx a0 (qpx a1 a2)
abbrev Qtw:W:=.eS (Bq 61 61 nH)
abbrev Qtx:=s9 60 nH
def ajS:=sp Qpn (nI Aa gx Qg iy (gz yn ga gx)) (eb Qpj (rD Qo) (gz yn (w7 1000 [Qb] Qtq ga) gx) gx US (gz Qo (iq (fv yn Q0) (fv eK yn) (qb (nY Qtr) Qtr eK (qF (rD Qtr) (ke Qtt ga) Qg Qtu ga (qF Qtt ga Qg Qtv ga (dX Qg Qtw ga Qg Qtx ga gx))))) gx) gx)
def ajR:=jb qx Qf (jb Qlt Qf (jb (.lit 11) Qf (jb Qn0 Qf (fj Qf Qn5 Qqc (oL (lL Ig) Qqd Qmy Qf (jb (.lit 21) Qf Qqj Qqg) Qqf)) Z7) Qp9) Qp7) ga
def ajQ:=oJ UR Qqe ga (dX Qf Qm7 ga Qf Qm3 ga gx)
def ajP:=sp US ga (oJ UR Qqa ga (oJ Qqh Qqi ga gx))
def ajO:=oJ US Z9 ga (oJ Qpk Qp8 ga gx)
abbrev Z2:=qf Qm
abbrev Qtz:=nI UR (iD 1000 [Qm] 1000 [Qm] ga) Z2 iy ga
def Vt:=iq (fv Qf Q0) (fv Zv Qf) (w7 1000 [Qb] Qtq (yS Aa (jq Qo) (iD 1350 Qj 1350 Qj Qtz) Qtz))
def S_:=ei Qjy Qjz (ma 300 xz (ju 1451 [Qb,Qc,cL 300 xz])) (ou [Qh,Qh,cL 450 xz])
abbrev Qt0:=gT Qj3
abbrev Qt1:=nB iy Qk Qgb
abbrev Qt2:=ot Qt0
def Vs:=sp Qj1 (qa Qj2 (uS Qt0) 1452 [Qf,Qb,Q0,Qo,Qt1] (eC Qt2 1452 [Qf,Qb,Q0,Qo,nB iy (rpx (ln Qt0) iy) Qgb])) (ou [Qo,Qh,Qa])
abbrev Qt3:=fv EK Qgr
abbrev Qt4:=lN bR iy Qk Qgb
abbrev Qt5:=ot EJ
abbrev Qt6:=ou [Qm,bR,Qa]
def Vr:=k7 yD Aa (nO QH (uS EJ) (gP Qt3 1452 [Qm,Qt4]) Qt5 (gP Qt3 1452 [Qm,lN bR iy (rpx (ln EJ) iy) Qgb])) Qt6
def ajN:=jt Qkq (nI Qkr gx yn Qc (ju 1501 [Qm,yn,Qa,Qf,Qb]))
abbrev Qt7:=[Qm,bR,ce 0 Qdl,Qdm,ce 2 Qdl,Qkf,EJ,Qke,nm Qkh,nm QF,nm Rk]
def R?:=rk (jt b? (iD 1600 Qt7 1600 Qt7 (re 1501 [Qm,bR]))) ga
abbrev Ak:=fv bR Qc
abbrev Z5:List W:=CD [Qm]
abbrev Qua:=iD 1500 Z5 1500 Z5 ga
def ajM:=kc xy Ak Qua
def ajL:=pD UU (nI (fv EK cC) gx Nj yn (pD (nY kr) (yS (fv Zt kr) Zr (ke Qrk (gz iJ ga gx)) (dX gj KB (kc Qpa (nC gX) (kY (jQ 0 Qf gX) qx ga)) gj H3 (kc Qpa (nC gX) (kY (jQ 0 Qf gX) B9 ga)) gx))))
abbrev Qub:=fv bR yn
abbrev Quc:=el Qm bR
abbrev Qud:=ja Quc
abbrev Que:=rD Qud
abbrev Quf:=fT Quc
abbrev Ie:=uP 2 Qb bR
abbrev Quh:=kf Quf (ln Ie)
def ajK:=n8 xy (kE Qub Que (kE Ak Quh ga))
abbrev Qui:=tL 1550 IA
abbrev Quj:=eh 1550 IA
abbrev Quk:=eh 1650 IA
def R_:=p7 Qui Quj (w7 1650 IA Quk ga)
abbrev Qul:=el Ie Quf
abbrev Qum:=qe (fT Qul)
abbrev Qun:=yr 5 Quc
abbrev Quo:=yr 1 Qul
abbrev Qup:=ja Qul
abbrev Quq:=ou [Qa,Qa,Qa,Qa,Qa]
abbrev Qur:=fj (fT Qul) eK (ou [.lit 26,Qup,Qa,Qa,Q0]) Quq
abbrev Qus:=ou [Qud,fZ Quc,jC Quc,Qa,Q0]
def IW:=n8 xy (ei Qub Que (qE 1650 IA Quk (jt Ak (iE Quf (qa (iG Quf Ie) Qum 1751 [ce 6 Qul,ln (ce 6 Qul),Qa,Quf,gT Quc,Qud,fZ Quc,jC Quc,Qun,Quo,Qup,Qa] Qur))) Quq) Qus)
def Q?:=rk (ma 1950 [Qkf,EJ,Qke,Qkh,bR] (re 1751 (og [eu,gj,gX,iJ,kr,cL 1950 [Qkf,EJ,Qke,Qkh,bR]]))) (ou [iJ,kr,lQ,gX,Q0])
abbrev aj0 (l:List W):=(rr 1750 IA 0)::(rr 1750 IA 1)::(rr 1750 IA 2)::(rr 1750 IA 3)::l
def Q!:=ei Qui Quj Quq (oI 1750 IA 1750 IA 4 (ou (aj0 [Qa])) (aj0 [Q0]))
abbrev sk:=[bR,Qo,Qm]
abbrev Quu:=cL 9050 sk
abbrev Rg:=fR 9050 sk
abbrev Quw:=rr 9050 sk 3
abbrev Qux:=[Qf,Qb,Rg,Quw,bR]
abbrev Quy:=[Qf,Qb,Rg,Qh,bR]
abbrev Quz:=[Qf,Qb,Rg,Qk,bR]
abbrev Nh:=mk bR
abbrev Qu1:=rr 9050 sk 4
abbrev Qu2:=rr 9050 sk 5
abbrev Qu3:=rr 9050 sk 6
abbrev Qu4:=rr 9050 sk 7
abbrev Qu5:=rr 9050 sk 8
abbrev Qu6:=rr 9050 sk 9
abbrev Qu7:=uQ Qu3 Qu4 (mk Qu5) (mk Qu6)
abbrev oH a0 a1 a2 a3:=akj a0 Nh a1 a2 a3
abbrev Qu8:=oH Quw (mk Qu1) Qu2 Qu7
abbrev Qu9:=ou [Rg,Qu8,Qa,Qa,Qa,Qa,Qa,Qa]
abbrev Qva:=[Qf,Qb,Rg,Qu8,bR]
abbrev Qvb:=eh 1650 Qva
abbrev Qvc:=sZ 1750 Qva 4
abbrev Qvd:=[Qf,Qb,bR,Rg,Quw,Qu1,Qu2,Qu3,Qu4,Qu5,Qu6]
abbrev UP:=[Qf,Qb,bR,cL 1750 Qva,fE 1750 Qva,fR 1750 Qva,rr 1750 Qva 3,Rg,Quw,Qu1,Qu2,Qu3,Qu4,Qu5,Qu6]
abbrev Qvf:=ou [Rg,Qu8,Qa,Qa,Qa,Qa,Qa,qx]
abbrev abG a0 a1:=rr a0 UP a1
abbrev w6 a0:=abG 14500 a0
abbrev zH a0:=abG 14550 a0
abbrev kH a0 a1 a2:=mk (rr a0 a1 a2)
def qS:=ma 9050 sk (qF (rD Quu) (ei Qui Quj (ou [Rg,Quw,Qa,Qa,Qa,Qa,Qa,Qa]) (gy 1650 Qux 1650 Qux (pF 1750 Qux (sZ 1750 Qux 4) fl) (ou [Rg,Quw,Qa,Qa,Qa,Qa,Qa,qx]))) Quu Q0 (ei Qui Quj (ou [Rg,Qh,Qa,Qa,Qa,Qa,Qa,Qa]) (gy 1650 Quy 1650 Quy (pF 1750 Quy (sZ 1750 Quy 4) fl) (ou [Rg,Qh,Qa,Qa,Qa,Qa,Qa,qx]))) (dX Quu eK (ei Qui Quj (ou [Rg,Qk,Qa,Qa,Qa,Qa,Qa,Qa]) (gy 1650 Quz 1650 Quz (pF 1750 Quz (sZ 1750 Quz 4) fl) (ou [Rg,Qk,Qa,Qa,Qa,Qa,Qa,qx]))) Quu jH (ei Qui Quj Qu9 (qE 1650 Qva Qvb (qE 1750 Qva Qvc (ma 14000 Qvd (gG (eh 14000 Qvd) [Rg,oH Quw (kH 14000 Qvd 12) (rr 14000 Qvd 13) Qu7,Qa,Qa,Qa,Qa,Qa,Q0])) (ma 14500 UP (gG (eh 14500 UP) [w6 22,oH Quw (kH 14500 UP 23) (w6 24) (jB (kH 14500 UP 25) (kH 14500 UP 26) (kH 14500 UP 27) (kH 14500 UP 28)),w6 16,w6 17,w6 18,w6 19,w6 20,w6 21]))) Qvf)) (tU Quu qx (ei Qui Quj Qu9 (qE 1650 Qva Qvb (qE 1750 Qva Qvc (ma 14050 Qvd (gG (eh 14050 Qvd) [Rg,oH Quw (kH 14050 Qvd 12) Qu2 Qu7,Qa,Qa,Qa,Qa,Qa,Q0])) (ma 14550 UP (gG (eh 14550 UP) [zH 22,oH Quw (kH 14550 UP 23) Qu2 (jB (kH 14550 UP 24) (kH 14550 UP 25) (kH 14550 UP 26) (kH 14550 UP 27)),zH 16,zH 17,zH 18,zH 19,zH 20,zH 21]))) Qvf)))))
abbrev Qvi:=fv Qb Qf
abbrev Qvj:=fv Qb UW
abbrev Qvk:=el Qo Qb
abbrev Qvl:=ce 4 Qvk
abbrev Qvr:=mk Qb
abbrev Qv6:=gT Qvk
abbrev Qwa:=kc Aa b? (ou [nm Qdl])
abbrev Qwb:=el Qm Qa
abbrev Qwc:=[fT Qwb,gT Qwb,ja Qwb,k8 Qwb,bR]
abbrev Qwd:=cL 1950 Qwc
abbrev Qwe:=el Qm Q0
abbrev Qwf:=[fT Qwe,gT Qwe,ja Qwe,k8 Qwe,bR]
abbrev Qwg:=cL 1950 Qwf
abbrev Qwh:=uU (uU (uU iy (cn Qtu (mk (lO Qwd Qwg)))) (cn Qts (mk (Bp Qwd Qwg)))) (cn Qtv (mk (wr (.mul Qwd Qwg))))
abbrev Qwi:=gz (.op .Ev Qwh Qg) gx (ou [nm (.op .Ew Qwh Qg)])
def yG:=iL Qpn [Qo] (cH Qpj Qwa US (dX yn Q0 (ke Qtt (ma 1950 Qwc (ou [Bp Qa Qwd]))) yn eK (ma 1950 Qwc (ma 1950 Qwf (dX Qg Qtw (fj Qwd Qwg ga Qwi) Qg Qtx (jb Qwd Qwg ga Qwi) Qwi))) gx) gx)
def ajJ:=ma 200 [Qf,Qo] (nI (eh 200 [Qf,Qo]) gx Qc yn (ju 2051 [Qc,Qa,Qf,Qb,Qo,Qm]))
abbrev Qwj:=fT QI
abbrev Qwk:=ja QI
def P!:=sp Qvi (ld Dq Qgl (pH (fv Qb KC) Qgv Qwj (kY Qgw Qwk (kY Qgx (fZ QI) (kY Qgy (jC QI) (kY Qgz (yr 5 QI) (kY (ln Qgo) (ln (gT QI)) (ju 2052 [Qf,Qb,ln Qgo,Qa,Qo,Qm,bR,cC,Qgv,Qgo,Qgw,Qgx,Qgy,Qgz,Qwj,gT QI,Qwk,fZ QI,jC QI,yr 5 QI])))))) gx)) ga
def P_:=sp Qp (Pa (iG Qm iJ) (pZ Qm Ep (iF iJ Qm) (iF Ep Qm) (rh 2052 (aaw [qk,Ep,Qjo,Qji,.dH 18,.dH 19])) gx)) (ju 2051 [Qf,Nk,bR,cC,eu,gj])
def ajI:=ke Qi7 (ju 2451 Qi8)
def N':=sp Qp (Pa Qi9 (kE Qr (.and Qjb (.and Qjc (.and (kf Qjd Qfo) (.and Qje (kf (nm Qjf) (nm Qt)))))) (ju 2451 Qjq))) ga
def Vq:=kY EK Qc (gy 16000 [bR] 16000 [bR] Qua gx)
abbrev Qwl:=cL 1450 xz
abbrev Qwm:=fE 1450 xz
abbrev Qwn:=ou [Qh,Qh,Qh,eK]
abbrev Jn (l:List W):=Qf::Qb::Qwl::Qwm::l
def IV:=oI 1450 xz 1450 xz 2 (cH Qcm (jt (fv UW Qv) (gy 2750 (Jn [Qo]) 2750 (Jn [Qo]) Qwn (ou [Qwl,Qwm,Qo,Qa]))) Qco (gy 2750 (Jn [Qh]) 2750 (Jn [Qh]) Qwn (ou [Qwl,Qwm,Qh,Qa])) (jt Qcq (gy 2750 (Jn [Qk]) 2750 (Jn [Qk]) Qwn (ou [Qwl,Qwm,Qk,Qa])))) [Qh,Qh,Qh,fR 1450 xz]
abbrev Qwo:=ce 2 Qjw
abbrev Qwp:=fZ Qjw
def NZ:=Bt Qjt (dX (nm Qwo) KB (ld (nY Qwp) (nC Qwp) (iD 900 [uP 4 Qf Qwp,Qo] 900 [uP 4 Qf Qwp,Qo] ga)) (nm Qwo) H3 (iE Qwp (p7 (nC Qwp) (fv (jC Qjw) (jQ 3 Qf Qwp)) ga)) gx)
abbrev Qwq:=[Qo,Qm,bR]
abbrev Qwr:=gy 2850 Qwq 2850 Qwq ga gx
def Vp:=n8 xy (ei Qub Que (p7 Ak Quh Qwr) Qwr)
abbrev Ng:List W:=CD [Qm,cC]
def N_:=iD 2900 Ng 2900 Ng (ju 2951 [cC,bR,EK,Qa,Qf,Qb,Qo,Qm])
abbrev Qwt:=rh 2951 [Q1,bR,cC,eu,gj]
abbrev Qwu:=gy 2900 (DM [Qm]) 2900 (DM [Qm]) Qwt gx
def Dz:=sp Qp (nP (qb Qo1 Qf Qc (qF (fv Qpp (nm Q2)) Qwu Qpp (nm Q2) (jb Qm Qf Qwu Qwt) Qwt))) ga
abbrev Qwv:=fv cC Qc
abbrev Qww:=eh 2750 IA
abbrev Qwx:List W:=CD (og [])
abbrev Qwy:=tL 2950 Qwx
abbrev Qwz:=eh 2950 Qwx
def NY:=kc UU Qwv (w7 2750 IA Qww (p7 Qwy Qwz ga))
def ajH:=ju 3051 [Qf,pn,Qb,Qo]
abbrev Qw0:=ce 4 Qj3
abbrev XD:=ce 5 Qj3
abbrev Qw2:=kZ XD
abbrev Qw3:=ot XD
abbrev Z1:=mk Qj4
abbrev uR a0:=mk (nm a0)
abbrev Qw5:=uR Qt0
abbrev Qw6:W:=.op .bit Qj6 Qa
abbrev Qw7:=mk (fZ Qj3)
abbrev Qw8:=nB Z1 Qw5 (jB Qw6 Qw7 Qw0 XD)
abbrev Qw9:=pG iy Z1 (oG Qw5 Qw6 Qw7 Qw0 Rn)
abbrev Qxa:=nB Z1 Qw5 (jB Qw6 Qw7 Qk XD)
abbrev Qxb:=Cr iy (oG Z1 Qw5 Qw6 Qw7 Qfg)
abbrev s8 a0 a1 a2:=eC a0 a1 (SF a2)
def M?:=sp Qj1 (jt Qj2 (lX (kZ Qw0) (jt (ot Qw0) (lX Qw2 (s8 Qw3 3052 [Qw8]) XD (ju 3052 (SF [pG iy Z1 (oG Qw5 Qw6 Qw7 Qw0 Qe5)])) (s8 (pE XD) 3052 [Qw9]))) Qw0 (lX Qw2 (s8 Qw3 3052 [nB Z1 Qw5 (jB Qw6 Qw7 Qh XD)]) XD (ju 3052 (SF [pG iy Z1 (oG Qw5 Qw6 Qw7 Qh Qe5)])) (s8 (pE XD) 3052 [pG iy Z1 (oG Qw5 Qw6 Qw7 Qh Rn)])) (tU Qw0 Qk (lX Qw2 (s8 Qw3 3052 [Qxa]) XD (ju 3052 (SF [pG iy Z1 (oG Qw5 Qw6 Qw7 Qk Qe5)])) (s8 (pE XD) 3052 [Qxb]))))) (ju 3053 [Qo,UW,Qf,Qm])
abbrev Qxc:=fv KC Qfj
abbrev UO:=mk Qkf
abbrev Qxe:=uR EJ
abbrev Qxf:W:=.op .bit (mk Qke) Qa
abbrev Qxg:=uR Qkh
abbrev Qxh:=zF UO Qxe (jB Qxf Qxg QF Rk)
abbrev Qxi:=cn UO (oG Qxe Qxf Qxg QF Rn)
abbrev Qxj:=zF UO Qxe (jB Qxf Qxg Qk Rk)
abbrev Qxk:=oG UO Qxe Qxf Qxg Qfg
abbrev uO a0 a1:=gP a0 3052 a1
def M!:=rk (lX (kZ QF) (jt Qpy (cH Qpz (jt Qp0 (uO Qxc [Qm,bR,Cr cC Qxh])) Qp2 (uO Qxc [Qm,bR,pG cC UO (oG Qxe Qxf Qxg QF Qe5)]) (jt Qp3 (uO Qxc [Qm,bR,Cr cC Qxi])))) QF (cH Qpz (jt Qp0 (uO Qxc [Qm,bR,lN cC UO Qxe (jB Qxf Qxg Qh Rk)])) Qp2 (uO Qxc [Qm,bR,pG cC UO (oG Qxe Qxf Qxg Qh Qe5)]) (jt Qp3 (uO Qxc [Qm,bR,pG cC UO (oG Qxe Qxf Qxg Qh Rn)]))) (tU QF Qk (cH Qpz (jt Qp0 (uO Qxc [Qm,bR,Cr cC Qxj])) Qp2 (uO Qxc [Qm,bR,pG cC UO (oG Qxe Qxf Qxg Qk Qe5)]) (jt Qp3 (uO Qxc [Qm,bR,Cr cC Qxk]))))) (ju 3054 [Qm,yn,Qf,bR,cC])
abbrev Qxl:=jB Qj6 Qw7 (uR Qw0) (uR XD)
abbrev Qxm:=nB Z1 Qt0 Qxl
abbrev Qxn:=nB Z1 Qh Qxl
abbrev Qxo:=nB Z1 Qk Qxl
def IU:=sp Qj1 (jt Qj2 (lX (kZ Qt0) (s8 Qt2 3055 [Qxm]) Qt0 (ju 3055 (SF [Qxn])) (s8 (pE Qt0) 3055 [Qxo]))) (lX (jq yn) (gG (fv yn Qv) [Qh,Qh,Qm]) Z2 (ou [Qh,Qh,Qh]) (gG (pE Z2) [Qh,Qh,Qk]))
def IT:=sp Qj1 (jt Qj2 (lX (kZ Qt0) (s8 Qt2 3056 [bR,Qxm]) Qt0 (ju 3056 (SF [bR,Qxn])) (s8 (pE Qt0) 3056 [bR,Qxo]))) (lX (jq yn) (gG (fv yn Qv) [bR,Qh,Qm]) Z2 (ou [bR,Qh,Qh]) (gG (pE Z2) [bR,Qh,Qk]))
abbrev Qxp:=jB (mk Qke) Qxg (uR QF) (uR Rk)
abbrev Qxq:=fv EK Qv
abbrev Qxr:=kf (qf bR) Qh
abbrev Qxs:=pE (qf bR)
def IS:=rk (lX (kZ EJ) (jt Qt5 (gP Qgs 3055 [Qm,bR,lN cC UO EJ Qxp])) EJ (gP Qgs 3055 [Qm,bR,lN cC UO Qh Qxp]) (tU EJ Qk (gP Qgs 3055 [Qm,bR,lN cC UO Qk Qxp]))) (ri (jq EK) (gG Qxq [Qh,cC,bR]) Qxr [Qh,cC,Qh] (gG Qxs [Qh,cC,Qk]))
def IQ:=rk (lX (kZ EJ) (jt Qt5 (gP (fv Nj Qgr) 3056 (og [lN eu UO EJ Qxp]))) EJ (gP (fv Nj Qgr) 3056 (og [lN eu UO Qh Qxp])) (tU EJ Qk (gP (fv Nj Qgr) 3056 (og [lN eu UO Qk Qxp])))) (ri (jq EK) (gG Qxq [cC,eu,bR]) Qxr [cC,eu,Qh] (gG Qxs [cC,eu,Qk]))
abbrev Qxt:=tL 3050 Qwq
abbrev Qxu:=cL 3050 Qwq
abbrev Qxv:=fE 3050 Qwq
abbrev Qxw:=fR 3050 Qwq
abbrev aar (l:List W):=Qxu::Qxv::Qxw::Qa::Qa::Qa::Qa::Qa::l
abbrev Qxx:=gG Qxt (aar [Qa,Qa])
abbrev Qxy:=fv cC EK
abbrev Qxz:=iF bR cC
abbrev Qx0:=kf Qxz Qto
abbrev Qx1:=gG Qxt (aar [Qa,.lit 131])
abbrev Qx2:=Bm bR Qhr (mk (iu Qxz))
abbrev aki a0 a1:=rr a0 Ng a1
abbrev oP a0:=aki 1850 a0
abbrev Qx3:=[Qo,Qm,cL 1850 Ng,oP 1,oP 2,oP 3,oP 4,oP 5,oP 6,Qx2,iF Qx2 cC]
abbrev Qx4:=qE 1850 Ng (jq EK) (jt Qxq (ma 15000 Qx3 (gG (eh 15000 Qx3) [cL 1850 Ng,oP 1,rr 15000 Qx3 12,oP 2,oP 3,oP 4,oP 5,oP 6,oP 7,Qa]))) (ld Qxr Qxs fl)
def wa:=nJ Qxx Qwv (qE 2750 IA Qww Qxx (gy 1700 Ng 1700 Ng (pF 1800 Ng Qxy (gy 2850 [Qo,Qm,cC] 2850 [Qo,Qm,cC] (qq (sZ 1800 Ng 4) Qx0 (ei Qwy Qwz Qxx Qx1) Qx4 (jt Qwy (cH Qwz Qxx Qx0 Qx1 Qx4))) Qxx)) (gG Qxt (aar [qx,Qa])))) Qxx
def Vo:=oI 2800 Rj 2800 Rj 3 (ju 3151 [Qm,Qc,Qa,Qf,Qb,cL 2800 Rj,fE 2800 Rj,fR 2800 Rj]) [Qh,Qh,Qh,Qh,rr 2800 Rj 3]
abbrev Qx5:=lO (.rem UT Qb) Qb
abbrev Qx6:List W:=og [eu,gj,.rem Qx5 Qb]
abbrev abF a0 a1:=rr 3100 a0 a1
abbrev qd a0:=abF Qx6 a0
abbrev Qx7:=ju 3152 [Qf,pG iy (mk (qd 3)) (uQ (qd 4) (qd 5) (mk (qd 6)) (mk (qd 7))),Qb,Dr,Qm,bR,cL 3100 Qx6,qd 1,qd 2]
abbrev Qx8:=ou [Qh,cC,eu,gj,Qa]
def Dy:=sp QH (k7 Qj1 Aa (oI 3100 Qx6 3100 Qx6 9 (dX (qd 8) eK Qx7 (qd 8) jH Qx7 (re 3151 [Qm,bR,cL 3100 Qx6,qd 1,qd 2])) [Qh,cC,eu,gj,qd 9]) Qx8) Qx8
abbrev Qx9:=lO (.rem Z6 Qo) Qo
abbrev Qya:List W:=DM [gX,.rem Qx9 Qo]
abbrev Qyb:=fv Qc (.lit 3518437208882)
abbrev qc a0:=abF Qya a0
abbrev Qyc:=eC Qyb 3152 [Qf,pG Qb (mk (qc 3)) (uQ (qc 4) (qc 5) (mk (qc 6)) (mk (qc 7))),Qo,Q1,bR,cC,cL 3100 Qya,qc 1,qc 2]
abbrev Qyd:=ou [Qb,eu,gj,gX,Qa]
def IP:=sp Qi9 (k7 (jq Qo) Qq (oI 3100 Qya 3100 Qya 9 (dX (qc 8) eK Qyc (qc 8) jH Qyc (rh 3152 [Q1,bR,cC,cL 3100 Qya,qc 1,qc 2])) [Qb,eu,gj,gX,qc 9]) Qyd) Qyd
def ajG:=iD 2050 [Qf,Qb,Qm,bR] 2050 [Qf,Qb,Qm,bR] (iD 3550 [Qo,cC] 3550 [Qo,cC] ga)
def ajF:=ke Qi7 (ju 3551 Qi8)
def M_:=sp Qp (Pa Qi9 (pH Qr Z6 Qpp (ju 3551 Qjq) gx)) ga
def ajE:=ju 3801 [Qf,pn,pn,Qa]
def L?:=oL Qp (n8 Qq (eC Qi9 3801 [Qf,lO Qb (lO (ln Qjf) Qjg),Qo,Q1])) (.lit 3000) Qb ga gx
abbrev Qye:=tL 4050 xz
abbrev Qyf:=eh 4050 xz
def Vn:=qa Qye Qyf 3851 xz Qj0
abbrev Qyg:=ju 3852 [Qj7,Q0,Qf,Qb]
def L!:=sp Qj2 (dX Qj4 jH Qyg Qj4 Zv Qyg (ju 3852 [Qka,Q0,Qf,Qb])) Qj0
abbrev Qyh:=fT Qvk
abbrev Qyi:=ja Qvk
abbrev Qyj:=eC Qkb 3852 [lN Qf Er (mk Qyi) Qe6,Nk,Qo,Qm]
def L_:=mU Qvj Dq (dX Qyh jH Qyj Qyh Zv Qyj (eC Qkb 3852 [Qkd,Nk,Qo,Qm])) Qj
def ajD:=kE Qye Qyf (kY UW pn (ju 3901 [Qo,Qa,Qf,Qb]))
abbrev Qyk:=nC Qb
abbrev ZZ:=el Qf Qb
abbrev Qym:=k8 Qvk
abbrev Qyn:=[Qyh,Qv6,Qyi,Qym,nm Qvl,fT ZZ,yr 1 ZZ,Qa,fZ ZZ,ce 4 ZZ,ce 5 ZZ,yn]
abbrev Qyo:=ju 3901 [Qf,Nk,Qo,Qm]
abbrev Qyp:=[Qyh,Qv6,Qyi,Qym,nm Qvl,fT ZZ,yr 1 ZZ,Q0,fZ ZZ,ce 4 ZZ,ce 5 ZZ,yn]
def Vm:=k7 Qyk Dq (ei Qvj (rD (ja ZZ)) (iD 4100 Qyn 4100 Qyn Qyo) (iD 4100 Qyp 4100 Qyp Qyo)) ga
def ajC:=ju 3951 Qj
def K?:=sp Qj2 (gz (ln Qw0) (gz (ln XD) (ju 3952 [Qf,Qxb,Q0]) (eC Qw3 3952 [Qf,Qxa,Q0])) (qa (ot Qw0) (uS XD) 3952 [Qf,Qw9,Q0] (eC Qw3 3952 [Qf,Qw8,Q0]))) Qj0
abbrev Qyq:=fv Qc Qfj
def K!:=k7 QH Aa (gz (ln QF) (gz (ln Rk) (eC Qyq 3952 [Qf,Cr Qb Qxk,Dr]) (Bn Qp0 Qyq 3952 [Qf,Cr Qb Qxj,Dr])) (ei Qpy (uS Rk) (eC Qyq 3952 [Qf,Cr Qb Qxi,Dr]) (Bn Qp0 Qyq 3952 [Qf,Cr Qb Qxh,Dr]))) Qi4
abbrev Qyr:=cL 9100 Qkn
abbrev Qys:=tL 3900 Rj
abbrev Qyt:=eh 3900 Rj
abbrev Qyu:=tL 4150 [bR]
abbrev Qyv:=kf (cL 4150 [bR]) (jQ 0 Qf cC)
abbrev vC:=fR 9100 Qkn
abbrev Qyx:=rj 9100 3
abbrev EI:=mk Qyx
abbrev UN:=rj 9100 4
abbrev vQ:=mk UN
abbrev B8:W:=.op .bit (kH 9100 Qkn 5) Qa
abbrev Z0:=rj 9100 6
abbrev Dn:=mk Z0
abbrev Qy4:=zF B8 Dn Qfg
abbrev Qy5:=rp Qhr EI vQ Qy4
abbrev Qy6:=stx vC Qy5
abbrev Qy7:=ou [Qy6,Qa,Qa,Qa,Qa,Qa,Qa]
abbrev Qy8:=iG cC vC
abbrev Qy9:=tL 4400 [Qm,Qk]
abbrev UM:=kf Qyx Qm
abbrev qj:=ma 3950 [Qo] (ou [cL 3950 [Qo],Qm,Qli,cC,wr bR,Qa,eK])
abbrev Fm:=kf Qyx Rh
abbrev Bo a0 a1 a2:=Bu vC a0 a1 a2
abbrev Qzd:=Bo Ca vQ Qy4
abbrev pj:=ma 3950 [Qo] (ou [cL 3950 [Qo],Qa,Qa,Qa,Qa,Qa,Qa])
abbrev Qzf:=iL Fm [Qzd,Qm,bR,cC,Qa,Qa,eK] pj
abbrev Qzg:=iL UM [Bo Er vQ Qy4,Qm,bR,cC,Qa,Qa,eK] qj
abbrev Qzh:=ou [Qzd,Qm,bR,cC,Q0,Qa,eK]
abbrev Qzi:=ou [Qy6,Qm,bR,cC,Qa,Qa,eK]
abbrev Qzj:=nY (cL 4400 [Qm,Qk])
abbrev Qzk:=oG vQ B8 Dn Qnn Rn
abbrev Qzl:=tL 20000 [Qm]
abbrev Qzm:=eh 20000 [Qm]
abbrev Qzn:=kG vC EI vQ B8 Dn Qh Rn
abbrev Qzo:=ou [Qzn,Qm,bR,cC,Qa,Qa,eK]
abbrev ZY:=jq UN
abbrev Qzq:=s7 UN
abbrev lK a0 a1:=Bo EI a0 a1
abbrev Qzr:=lK (mk Qzq) Qy4
abbrev Qzs:=fv UN Dp
abbrev Qzt:=mk (iu UN)
abbrev Qzu:=lK Qzt Qy4
abbrev Qzv:=iG Dp vC
abbrev Qzw:=ou [nG vC Er Qzk,Qm,bR,cC,Qa,Qa,jH]
abbrev Qzy:=kf (jQ 0 vC Dp) Qm
abbrev Qzz:=Pb vC Dp (Bm (el vC Dp) iy Er)
abbrev Qz0:=ou [nG Qzz EI Qzk,Qm,bR,cC,Qa,Qa,jH]
abbrev Qz1:=kf (jQ 0 vC Dp) Rh
abbrev Qz2:=Pb vC Dp (Bm (el vC Dp) iy Ca)
abbrev Qz3:=fv Z0 Zt
abbrev Qz4:=kf (iu UN) Dp
abbrev Qz5:=mk (iu Z0)
abbrev Qz6:=fv eu Z0
abbrev Qz7:=sZ 9100 Qkn 5
abbrev Qz8:=fv eu (.lit (-1099511627776))
abbrev Qz9:=fv Qmu eu
abbrev ZI:=lO UN eu
abbrev Q0c:=fv Qmu ZI
abbrev Ds:=rj 9100 7
abbrev Q0f:=rp Dn Qk Ds iy
abbrev Q0g:=cn B8 Q0f
abbrev Q0h:=rp Qhr EI vQ Q0g
abbrev Q0i:=stx vC Q0h
abbrev Q0j:=ou [Q0i,Qa,Qa,Qa,Qa,Qa,Qa]
abbrev Q0k:=Bo Ca vQ Q0g
abbrev Q0l:=iL Fm [Q0k,Qm,bR,cC,Qa,Qa,eK] pj
abbrev Q0m:=iL UM [Bo Er vQ Q0g,Qm,bR,cC,Qa,Qa,eK] qj
abbrev Q0n:=ou [Q0k,Qm,bR,cC,Q0,Qa,eK]
abbrev Q0o:=ou [Q0i,Qm,bR,cC,Qa,Qa,eK]
abbrev Q0p:=cn vQ (jB B8 Dn Qnn Ds)
abbrev Q0q:=ou [lK vQ (jB B8 Dn Qh Ds),Qm,bR,cC,Qa,Qa,eK]
abbrev Q0r:=lK (mk Qzq) Q0g
abbrev Q0s:=lK Qzt Q0g
abbrev UX:=ln Ds
abbrev Q0u:=nY (.sub UX Q0)
abbrev Q0v:=fv UX (wZ Q0 UX Q0)
abbrev Q0w:=td (nD Ds (wZ Q0 UX Q0)) Q0
abbrev Q0x:=rp B8 Dn Ds Rn
abbrev Q0y:=rp Qhr EI vQ Q0x
abbrev Q0z:=stx vC Q0y
abbrev Q00:=ou [Q0z,Qa,Qa,Qa,Qa,Qa,Qa]
abbrev Q02:=Bo Ca vQ Q0x
abbrev Q03:=ou [Q02,Qm,bR,cC,Qa,Qa,eK]
abbrev Q04:=iL UM [Bo Er vQ Q0x,Qm,bR,cC,Qa,Qa,eK] qj
abbrev Q05:=ou [Q02,Qm,bR,cC,Q0,Qa,eK]
abbrev Q06:=ou [Q0z,Qm,bR,cC,Qa,Qa,eK]
abbrev Q07:=nY (cL 4400 [Qm,Ds])
abbrev Q08:=tL 20050 [Ds,Qm]
abbrev Q09:=eh 20050 [Ds,Qm]
abbrev Q1a:=qe (cL 20050 [Ds,Qm])
abbrev Q1b:=rr 20050 [Ds,Qm] 3
abbrev Q1d:=lK (mk Qzq) Q0x
abbrev Q1e:=lK Qzt Q0x
abbrev Q1f:=vA Q1b Ql4
abbrev Q1g:=oG vQ B8 Dn (Cr Q1b Ca) Rn
abbrev Q1h:=iu (iF Ds Qa)
abbrev Q1i:=rj 9100 8
abbrev Q1j:=cn Q1i iy
abbrev Q1k:=rp B8 Dn Ds Q1j
abbrev Q1l:=rp Qhr EI vQ Q1k
abbrev Q1m:=stx vC Q1l
abbrev Q1n:=ou [Q1m,Qa,Qa,Qa,Qa,Qa,Qa]
abbrev Q1o:=Bo Ca vQ Q1k
abbrev Q1p:=ou [Q1o,Qm,bR,cC,Qa,Qa,eK]
abbrev Q1q:=iL UM [Bo Er vQ Q1k,Qm,bR,cC,Qa,Qa,eK] qj
abbrev Q1r:=ou [Q1o,Qm,bR,cC,Q0,Qa,eK]
abbrev Q1s:=ou [Q1m,Qm,bR,cC,Qa,Qa,eK]
abbrev Q1t:=kG vC EI vQ B8 Dn Qh Q1j
abbrev Q1u:=lK (mk Qzq) Q1k
abbrev Q1v:=lK Qzt Q1k
abbrev Q1w:=wZ Q0 (ln Q1i) Q0
abbrev Q1x:=oG vQ B8 Dn Qnn Q1j
abbrev Q1y:=oG vQ B8 Dn (Cr Q1b Ca) Q1j
abbrev Q1z:=ou [vC,Qa,Qa,Qa,Qa,Qa,Qa]
abbrev Bl a0 a1 a2 a3:=cH a0 qj a1 a2 a3
abbrev nL a0 a1 a2:=Bl UM a0 a1 a2
def mf:=qE 9100 Qkn (rD Qyr) (nK Qys Qyt Qkw Qkw (nJ Qkw Qle (jt Qyu (n8 Qyv Qkw)) Qkw) Qkw) (dX Qyr Q0 (nK Qys Qyt Qy7 Qy7 (nJ Qy7 Qle (ei Qyu Qyv (qg Qy8 Qy9 (eb Qlg UM qj Qzf Qlr Qzg (cH Qlu Qzg Qlv (sp Fm Qzh Qzi) (cH Qlz (cH Fm Qzh Ql0 pj Qzi) Ql2 (nL Qzj (iL Fm [nG vC EI Qzk,Qm,bR,cC,Qa,Qa,eK] pj) qj) (eb Ql7 Qzj qj (qg Qzl Qzm Qzo) Qmh (nL Qzj Qzf qj) (mn Qmj ZY [Qzr,Qm,bR,cC,Qa,Qa,eK] pj Qmm (iL ZY [Qzr,Qm,bR,cC,Q0,Qa,eK] Qzi) (mn Qmp Qzs [Qzu,Qm,bR,cC,Qa,Qa,eK] qj Qm8 (iL (jq Dp) [kG vC EI vQ B8 Dn Qk Qof,Qm,bR,cC,eu,Qa,eK] pj) (ri Qna pj Qm1 [Qy6,Qm,bR,cC,UN,Qa,eK] (cH Qm4 (ou [lK Qm5 Qy4,Qm,bR,cC,eu,Qa,eK]) Qnd (oM Qzv (eb Zs UM (qg Qzl Qzm Qzw) qj Qzy (qg Qzl Qzm Qz0) qj)) (cH Qnz Qzi Qn1 Qzo (eb Qn4 Qzj (oM Qzv (ri Zs Qzf Qz1 [stx Qz2 Qy5,Qm,bR,cC,Qa,Qa,eK] pj)) pj Qn6 (sp Qz3 (ry Qz4 [Bm vC Qhr (oG EI iy B8 Qz5 Qfg),Qm,bR,cC,Z0,Qa,jH] [Qzu,Qm,bR,cC,Z0,Qa,jH]) qj) (mn Qn9 Qz6 [Qy6,Qm,bR,cC,eu,Qa,eK] pj Qob (sp Qz7 (nL Fm Qzh pj) Qzi) (mn Qoc UM [Bm vC Qhr (oG Er vQ Qh Dn Qfg),Qm,bR,cC,Qa,Qa,eK] qj Qmt (Bl Qz8 Qz9 qj (Bl (nY ZI) Q0c qj (ou [lK (mk ZI) Qy4,Qm,bR,cC,ZI,Qa,eK]))) (mn Qmw ZY [Qzr,Qm,bR,cC,Qzq,Qa,eK] qj Qmz (gz UN Qzi pj) pj)))))))))))))) Qy7) Qy7) Qy7) Qyr eK (nK Qys Qyt Q0j Q0j (nJ Q0j Qle (ei Qyu Qyv (qg Qy8 Qy9 (eb Qlg UM qj Q0l Qlr Q0m (cH Qlu Q0m Qlv (sp Fm Q0n Q0o) (cH Qlz (cH Fm Q0n Ql0 pj Q0o) Ql2 (nL Qzj (iL Fm [nG vC EI Q0p,Qm,bR,cC,Qa,Qa,eK] pj) qj) (eb Ql7 Qzj qj (qg Qzl Qzm Q0q) Qmh (nL Qzj Q0l qj) (mn Qmj ZY [Q0r,Qm,bR,cC,Qa,Qa,eK] pj Qmm (iL ZY [Q0r,Qm,bR,cC,Q0,Qa,eK] Q0o) (mn Qmp Qzs [Q0s,Qm,bR,cC,Qa,Qa,eK] qj Qm8 (jb UX Dp (gG (fv UX Ql4) [lK vQ (jB B8 Dn Qk (Cr Ds Qm5)),Qm,bR,cC,eu,Qa,eK]) pj) (eb Qna (jq UX) (n8 Q0u (n8 Q0v (ou [lK vQ (jB B8 Dn Qk Q0w),Qm,bR,cC,iF Ds Qa,Qa,eK]))) pj Qm1 (ou [Q0i,Qm,bR,cC,UN,Qa,eK]) (cH Qm4 (ou [lK Qm5 Q0g,Qm,bR,cC,eu,Qa,eK]) Qnd (oM Qzv (eb Zs UM (jt Qzl (gG Qzm [nG vC Er Q0p,Qm,bR,cC,Qa,Qa,jH])) qj Qzy (jt Qzl (gG Qzm [nG Qzz EI Q0p,Qm,bR,cC,Qa,Qa,jH])) qj)) (cH Qnz Q0o Qn1 Q0q (eb Qn4 Qzj (oM Qzv (ri Zs Q0l Qz1 [stx Qz2 Q0h,Qm,bR,cC,Qa,Qa,eK] pj)) pj Qn6 (sp Qz3 (ry Qz4 [lK iy (jB B8 Qz5 Qk Ds),Qm,bR,cC,Z0,Qa,jH] [Q0s,Qm,bR,cC,Z0,Qa,jH]) qj) (mn Qn9 Qz6 [Q0i,Qm,bR,cC,eu,Qa,eK] pj Qob (sp Qz7 (nL Fm Q0n pj) Q0o) (mn Qoc UM [stx vC (oG Qhr Er vQ Qh Q0f),Qm,bR,cC,Qa,Qa,eK] qj Qmt (Bl Qz8 Qz9 qj (Bl (nY ZI) Q0c qj (ou [lK (mk ZI) Q0g,Qm,bR,cC,ZI,Qa,eK]))) (mn Qmw ZY [Q0r,Qm,bR,cC,Qzq,Qa,eK] qj Qmz (gz UN Q0o pj) pj)))))))))))))) Q0j) Q0j) Q0j) (dX Qyr jH (nK Qys Qyt Q00 Q00 (nJ Q00 Qle (ei Qyu Qyv (qg Qy8 (tL 4400 [Qm,Ds]) (cH Qlg (nL Fm Q03 pj) Qlr Q04 (cH Qlu Q04 Qlv (sp Fm Q05 Q06) (cH Qlz (cH Fm Q05 Ql0 pj Q06) Ql2 (nL Q07 (sp Fm (gG (fv UX Ql4) [kG vC EI vQ B8 Dn (Cr Ds Ca) Rn,Qm,bR,cC,Qa,Qa,eK]) pj) qj) (eb Ql7 Q07 qj (ei Q08 Q09 Qzo (gG Q1a [kG vC EI vQ B8 Dn Q1b Rn,Qm,bR,cC,Qa,Qa,eK])) Qmh (nL Q07 (sp Fm (gz UX Q03 pj) pj) qj) (mn Qmj ZY [Q1d,Qm,bR,cC,Qa,Qa,eK] pj Qmm (iL ZY [Q1d,Qm,bR,cC,Q0,Qa,eK] Q06) (mn Qmp Qzs [Q1e,Qm,bR,cC,Qa,Qa,eK] qj Qm8 (iL (jq Dp) [kG vC EI vQ B8 Dn Ds Qof,Qm,bR,cC,eu,Qa,eK] pj) (ri Qna pj Qm1 [Q0z,Qm,bR,cC,UN,Qa,eK] (cH Qm4 (ou [lK Qm5 Q0x,Qm,bR,cC,eu,Qa,eK]) Qnd (oM Qzv (eb Zs UM (nO Q08 Q09 Qzw Q1a (gG Q1f [nG vC Er Q1g,Qm,bR,cC,Qa,Qa,jH])) qj Qzy (nO Q08 Q09 Qz0 Q1a (gG Q1f [nG Qzz EI Q1g,Qm,bR,cC,Qa,Qa,jH])) qj)) (eb Qnz (rD UX) Q06 (n8 Q0u (n8 Q0v (ou [kG vC EI vQ B8 Dn Q0w Rn,Qm,bR,cC,Q1h,Qa,eK]))) Qn1 (ou [Qzn,Qm,bR,cC,UX,Qa,eK]) (eb Qn4 Q07 (oM Qzv (eb Zs Fm Q03 pj Qz1 (ou [stx Qz2 Q0y,Qm,bR,cC,Qa,Qa,eK]) pj)) pj Qn6 (sp Qz3 (ry Qz4 [kG vC EI iy B8 Qz5 Ds Rn,Qm,bR,cC,Z0,Qa,jH] [Q1e,Qm,bR,cC,Z0,Qa,jH]) qj) (mn Qn9 Qz6 [Q0z,Qm,bR,cC,eu,Qa,eK] pj Qob (sp Qz7 (nL Fm Q05 pj) Q06) (mn Qoc UM [kG vC Er vQ Qh Dn Ds Rn,Qm,bR,cC,Qa,Qa,eK] qj Qmt (Bl Qz8 Qz9 qj (Bl (nY ZI) Q0c qj (ou [lK (mk ZI) Q0x,Qm,bR,cC,ZI,Qa,eK]))) (mn Qmw ZY [Q1d,Qm,bR,cC,Qzq,Qa,eK] qj Qmz (gz UN Q06 pj) pj)))))))))))))) Q00) Q00) Q00) Qyr qx (nK Qys Qyt Q1n Q1n (nJ Q1n Qle (ei Qyu Qyv (qg Qy8 (tL 4400 [Qm,Ds]) (cH Qlg (nL Fm Q1p pj) Qlr Q1q (cH Qlu Q1q Qlv (sp Fm Q1r Q1s) (cH Qlz (cH Fm Q1r Ql0 pj Q1s) Ql2 (nL Q07 (sp Fm (gG (fv UX Ql4) [kG vC EI vQ B8 Dn (Cr Ds Ca) Q1j,Qm,bR,cC,Qa,Qa,eK]) pj) qj) (eb Ql7 Q07 qj (ei Q08 Q09 (ou [Q1t,Qm,bR,cC,Qa,Qa,eK]) (gG Q1a [kG vC EI vQ B8 Dn Q1b Q1j,Qm,bR,cC,Qa,Qa,eK])) Qmh (nL Q07 (sp Fm (gz UX Q1p pj) pj) qj) (mn Qmj ZY [Q1u,Qm,bR,cC,Qa,Qa,eK] pj Qmm (iL ZY [Q1u,Qm,bR,cC,Q0,Qa,eK] Q1s) (mn Qmp Qzs [Q1v,Qm,bR,cC,Qa,Qa,eK] qj Qm8 (sp (vA Q1i Dp) (gG (vA Q1i Ql4) [lK vQ (jB B8 Dn Ds (Cr Q1i Qm5)),Qm,bR,cC,eu,Qa,eK]) pj) (eb Qna (kZ Q1i) (iE (.sub (ln Q1i) Q0) (rv Q1i Q1w (ou [lK vQ (jB B8 Dn Ds (td (nD Q1i Q1w) Q0)),Qm,bR,cC,iF Q1i Qa,Qa,eK]))) pj Qm1 (ou [Q1m,Qm,bR,cC,UN,Qa,eK]) (cH Qm4 (ou [lK Qm5 Q1k,Qm,bR,cC,eu,Qa,eK]) Qnd (oM Qzv (eb Zs UM (nO Q08 Q09 (ou [nG vC Er Q1x,Qm,bR,cC,Qa,Qa,jH]) Q1a (gG Q1f [nG vC Er Q1y,Qm,bR,cC,Qa,Qa,jH])) qj Qzy (nO Q08 Q09 (ou [nG Qzz EI Q1x,Qm,bR,cC,Qa,Qa,jH]) Q1a (gG Q1f [nG Qzz EI Q1y,Qm,bR,cC,Qa,Qa,jH])) qj)) (eb Qnz (rD UX) Q1s (n8 Q0u (n8 Q0v (ou [kG vC EI vQ B8 Dn Q0w Q1j,Qm,bR,cC,Q1h,Qa,eK]))) Qn1 (ou [Q1t,Qm,bR,cC,UX,Qa,eK]) (eb Qn4 Q07 (oM Qzv (eb Zs Fm Q1p pj Qz1 (ou [stx Qz2 Q1l,Qm,bR,cC,Qa,Qa,eK]) pj)) pj Qn6 (sp Qz3 (ry Qz4 [kG vC EI iy B8 Qz5 Ds Q1j,Qm,bR,cC,Z0,Qa,jH] [Q1v,Qm,bR,cC,Z0,Qa,jH]) qj) (mn Qn9 Qz6 [Q1m,Qm,bR,cC,eu,Qa,eK] pj Qob (sp Qz7 (nL Fm Q1r pj) Q1s) (mn Qoc UM [kG vC Er vQ Qh Dn Ds Q1j,Qm,bR,cC,Qa,Qa,eK] qj Qmt (Bl Qz8 Qz9 qj (Bl (nY ZI) Q0c qj (ou [lK (mk ZI) Q1k,Qm,bR,cC,ZI,Qa,eK]))) (mn Qmw ZY [Q1u,Qm,bR,cC,Qzq,Qa,eK] qj Qmz (gz UN Q1s pj) pj)))))))))))))) Q1n) Q1n) Q1n) (ei (kf Qyr B9) UU (nK Qys Qyt Q1z Q1z Q1z Q1z) (n8 Qy8 (nK Qys Qyt Q1z Q1z (sp Qle (jt Qyu (n8 Qyv Q1z)) Q1z) Q1z)))))
def ajB:=oL (nC (.lit 64)) Qoz Ig Qc Qoz (ju 4051 (Jo []))
abbrev Q10:=[Qb,Qo,Q3,gT Q2,Q5,k8 Q2,jC Q2]
def K_:=p9 Qf Qc Qo1 (gy 4200 Q10 4200 Q10 Qoz (ju 4051 [Qo4,Qb,Qo])) (ju 4052 [Qa,Qb,Qo])
abbrev ZH:=el Qo Qf
abbrev Q12:=ln (gT ZH)
def J?:=k7 Qfl Qo1 (cH (fv (.lit 120) Q12) Qoz (iG (.lit 4000) (ce 2 ZH)) Qoz (ju 4053 [Qf,Qa,Qb,Qo,ce 0 ZH,gT ZH,ce 2 ZH])) gx
abbrev Q13:=el eu Qb
abbrev wG (l:List W):=Qo::Qm::bR::cC::l
abbrev Q14:List W:=wG [eu,fT Q13,yr 1 Q13,ja Q13,fZ Q13,jC Q13,yr 5 Q13,ce 6 Q13]
def J!:=p9 Qb Nj Dq (gy 4250 Q14 4250 Q14 Qoz (ju 4054 [Qf,Qb,Qa,Qo,Qm,bR,cC,eu])) (ju 4052 [Qo4,Qo,Qm])
abbrev Q15:=sF (uP 6 gj Qb)
abbrev Q16:=[fT Q15,gT Q15,ja Q15,k8 Q15,Qm7]
abbrev Q17:=[fT Q15,gT Q15,ja Q15,k8 Q15,Nj]
def NX:=n8 Dq (ei (iG Qb gj) (iG Qo (uP 6 gj Qb)) (n8 Aa (qE 4300 Q16 (fv Qrh (cL 4300 Q16)) Qoz (gy 4350 Q17 4350 Q17 Qoz (re 4054 (og [eu,gj]))))) (ju 4053 [Qf,Nk,Qm,bR,cC,eu,gj]))
abbrev Q18:=ju 4101 [lQ,Qf,Qa,Qb,Qo,Qm,bR,cC,eu,gj,gX,iJ,kr]
abbrev Q19:=pD Qpa (iq (fv Zt gX) Qpf Q18)
abbrev Q2a:=kc Qpd Zr Q19
abbrev Q2b:=sp Qpb Q2a Q2a
def J':=sp UR (kc Qo8 Qo9 (ke UU Q2b)) (cH Qpn (kc Qo8 Qo9 (eb UU Qpb gx Q2a Qpb gx Q2a)) Qpj (kc Qo8 Qo9 (sp UU Q2b Q2b)) (kc Qo8 Qo9 (nJ (yS Qpb Qpd (ke Qpk (ke Zr Q19)) (eb Zr Qpa gx (yS (fv Zt gX) Qpf (ke Z9 Q18) Q18) Qpm Q19 gx)) Qpm (pD Qpb (yS Qpd Zr Q19 Q19)) gx)))
abbrev Q2c:=iF lQ Qo
abbrev abH a0 a1 a2 a3 a4 a5:=dX Qb a0 a1 a2 a3 a4 a5
abbrev jY a0 a1 a2 a3 a4:=abH a0 a1 Qb a2 a3 a4
abbrev Q2d:=jY jH (iq Qpa (fv bR gX) ga) B9 (kc Qpa (fv gX bR) ga) (jY Rm (iq Qpa (fv Qmu gX) ga) Zv ga (eb (kf Qb Qlt) Qrk (pD (iG bR lr) ga) gx Qrk ga gx))
def J_:=cH (fv Qo Qjh) (n8 Aa (kc (nY Q2c) (fv Q2c Qf) (qE 4400 [Q2c,nD lQ Qo] (nY (cL 4400 [Q2c,nD lQ Qo])) (re 4101 (og [eu,gj,gX,iJ,kr,lQ,lr])) gx))) Qqq Q2d (kc (jq Qjh) (rD iJ) Q2d)
def ajA:=fj Qf KB Z7 (dX Qf H3 Qqc Qf (.lit 26) Qqd (ma 4450 Qj (ou [cL 4450 Qj])))
def ajz:=fj Qo jH Qqm (dX Qo Qlt Qqm Qo B9 Qqn (dX Qo qx Qqp Qo Zv ga (kc (fv Qo Q0) (fv Qo Zv) Qql)))
abbrev Q2e:=fv eu Q0
abbrev Q2f:=fv Qm3 eu
abbrev Q2h:=eh 4500 [gj,pn]
abbrev Q2i:=eh 4500 [iJ,iu EK]
abbrev Q2j:=eh 4500 [gX,yn]
abbrev Q2k:=ma 4600 [eu] (cH (eh 4600 [eu]) (kY gX Rh ga) Q2j gx ga)
def IN:=ma 4500 [gX,yn] (qE 4500 [iJ,iu EK] Qqr (iq Q2e Q2f (p7 (tL 4500 [gj,pn]) Q2h (ld Qqq Qq0 (qE 4450 [eu] (kf Qq1 (cL 4450 [eu])) (qE 4550 [eu] (kf Qjh (cL 4550 [eu])) (fj eu Ig (pD Q2i Q2k) Q2k) gx) gx)))) (cH Qqs (p7 (tL 4500 [gj,pn]) Q2h (ld Qqq Qq0 Qq5)) Qqt (pD Q2j Qq7) (eb Qqu Q2i gx Qq7 Qqv (pD Q2i ga) (eb Qqw Q2j gx ga Qqx (iq Q2j Q2i ga) gx))))
def I?:=iL Qi1 [.lit 10000] (ju 4301 [bR,Q0,Qa,Qf,Qb,Qo,Qm])
def I!:=jb Qo Nj (jb Qrh Qb Qi4 (n8 Aa (ma 4300 Qi6 (ju 4301 [Qf,lO Qb (cL 4300 Qi6),Dr,Qm,bR,cC,eu])))) Qi4
def ajy:=ju 4351 [bR,Qa,Qf,Qb,Qo,Qm]
abbrev Q2l:=[Qwj,gT QI,Qwk,k8 QI,Qf]
def I':=qF (fv Qb KC) (n8 Dq (iD 4350 Q2l 4350 Q2l (ju 4351 (Im [cC])))) Qo Q0 (gz KC (kY Z2 iy (pD xy ga)) gx) (dX Qo eK (gz KC (kc xy (fv bR Qf) (iD 4650 [Qm] 4650 [Qm] ga)) gx) Qo jH (gz bR (dX KC Q0 (kY Z2 Qts ga) KC eK (fj Z2 Qtu ga (dX Z2 Qts ga Z2 Qtv ga (dX Z2 Qtw ga Z2 Qtx ga gx))) gx) gx) gx)
def ajx:=ju 4401 Qjr
abbrev Q2m:=kf (nm Qjw) Qf
def I_:=mU Qjt Aa (iL Q2m [Qo] (ju 4401 Qjx)) [Rh]
def ajw:=sp Qpn ga (oJ Qpj US ga (oJ UR Z9 Qp7 (qF Qpm Qp7 Qf Rm Qp7 (cH Qpk Qp7 Qp8 Qp9 (cH (lL a_) Qp9 Qqa Qp9 (dX Qf (.lit 12) Z7 Qf Qny Z7 (dX Qf Qn0 Z7 Qf Qn5 Qqc (cH (lL Ig) Qqd Qqe Qqf (dX Qf (.lit 18) Qqf Qf Qmy Qqf (cH (lL Qm7) Qqg Qqh Qqg (nI Qqi Qqj Qf Qm3 Qqj)))))))))))
def ajv:=kc Qo1 (fv Qf Qb) ga
def aju:=oJ UR Qqe ga (dX Qf Qm7 ga Qf Qm3 ga gx)
def ajt:=sp US ga (oJ UR Qqa ga (oJ Qqh Qqi ga gx))
def ajs:=tV 4700 Z4 4700 Z4 6 (kY (cL 4700 Z4) eK (ke (sZ 4700 Z4 4) (kY (rr 4700 Z4 5) pn ga))) gx
def H?:=jb (.lit 16384) pn Qtc (oL Dq Qtd pn Qb Qtd (ju 4701 [Qf,Qb,Qb]))
abbrev Q2n:=[uN Qf (zF Qvr (mk Dr) iy)]
abbrev Q2o:=ju 4702 [Qf,Qo,Q0,Qa]
def Vl:=k7 QH Dq (lM Dr Qb (lM pn Dr (gy 4850 Q2n 4850 Q2n Q2o (ju 4701 Qjx)))) Q2o
def H!:=qF (fv Qm Qb) (n8 Qq (pH Qi9 Z6 a_ (re 4702 [Q1]) (ju 4702 Qjq))) Qb pn (ou [B9,iy,Qa,Qo,Qb,Qb,Qa,Qa]) (rh 4703 [Qb,Nk])
abbrev Q2p:=uN Qf (zF Qvr Ca iy)
abbrev Q2q:=cL 4750 [Q2p]
abbrev Q2r:=ou (VI [Qi2,Qo])
abbrev Q2s:=lM Qm Qb (lM pn Qm (ma 4750 [Q2p] (qF (rD Q2q) Q2r Q2q Q0 (oI 22000 [Q2p] 22000 [Q2p] 1 Q2r [Q2q,iy,cL 22000 [Q2p],Qo,Qb,Qm,Qa,Qa]) (ou [Q2q,Q2p,Qa,Qo,Qb,Qm,Qa,Qa]))))
abbrev Q2t:=lO Qb eK
abbrev Q2u:=[uN Qf (zF Qvr Nh iy)]
abbrev Q2v:=jq (cL 4750 Q2u)
abbrev Q2w:=iu bR
abbrev Q2x:=rh 4703 [bR,Q2w]
def NW:=oL (fv pn bR) (n8 Dq Q2s) Q2t bR (n8 Dq (lM bR Qb (qE 4750 Q2u Q2v Q2x Q2s))) (n8 Dq (lM bR Qb (qE 4750 Q2u Q2v Q2x (rh 4703 [Qm,Q2w]))))
abbrev Pc a0 a1 a2 a3 a4:=Bq a0 a1 (Bq a2 a3 a4)
abbrev mV a0 a1 a2 a3:=Pc a0 a1 a2 a3 nH
abbrev Q2y:=[Qf,.eS (Bq 48 49 (Pc 50 51 52 53 (mV 54 55 56 57)))]
abbrev Q2z:W:=.eS (Bq 45 62 nH)
abbrev Q20:=[nm Qj3,s9 60 (Pc 43 45 42 40 (mV 41 123 125 59))]
abbrev Q21:=fj Qpx Q2z Z7 (dX Qpx Qtw Z7 pn Q0 (iD 4950 Q20 4950 Q20 Z7) gx)
def H_:=fj Qpx iy gx (gy 4900 Q2y 4900 Q2y (jt Qj2 (gy 4950 [nm Qj3,.eS b2] 4950 [nm Qj3,.eS b2] Q21 (gy 4900 [Qf,.eS b3] 4900 [Qf,.eS b3] Q21 (gy 4800 Qj 4800 Qj Qp7 Qp9)))) ga)
def ajr:=ju 4801 Z4
abbrev Q22:=ju 4801 [Qf,Nk]
abbrev nM a0 a1 a2 a3 a4 a5:=Bq a0 a1 (mV a2 a3 a4 a5)
abbrev atC a0 a1 a2 a3:=fj a0 (.eS a1) a2 a3
abbrev atB a0 a1 a2:=atC Qpx a0 a1 a2
abbrev atA a0 a1:=atB a0 ga a1
abbrev nF a0:=atA a0 Q22
abbrev ow a0 a1:=nF (qpx a0 a1)
def G?:=p9 Qb (.lit 37) Dq (gz Qb (ow 97 (nM 99 113 117 105 114 101)) (jY Q0 (ow 97 (Bq 100 100 nH)) eK (nF (nM 97 114 114 105 118 101)) (jY jH (ow 98 (nM 97 114 114 105 101 114)) qx (ow 98 (Pc 114 111 97 100 (mV 99 97 115 116))) (jY B9 (nF (mV 99 111 110 100)) QJ (nF (Bq 100 111 nH)) (jY Rm (nF (mV 100 111 110 101)) Qlt (nF (mV 101 108 115 101)) (jY Zv (nF (Bq 105 102 nH)) a_ (nF (mV 108 111 99 107)) (jY (.lit 11) (ow 108 (nM 111 99 107 102 111 114)) (.lit 12) (nF (mV 108 111 111 112)) (jY Qny (ow 109 (mV 117 116 101 120)) Qn0 (nF (mV 111 110 99 101)) (jY Qn5 (ow 112 (Bq 117 116 nH)) Ig (ow 113 (mV 117 101 117 101)) (jY (.lit 17) (nF (mV 114 101 97 100)) (.lit 18) (ow 114 (nM 101 108 101 97 115 101)) (jY Qmy (ow 114 (mV 108 111 99 107)) Qm7 (ow 114 (nM 117 110 108 111 99 107)) (jY (.lit 21) (nF (nM 114 119 108 111 99 107)) (.lit 22) (ow 115 (Bq 101 109 nH)) (jY Qm3 (ow 115 (Bq 101 116 nH)) KB (nF (nM 115 105 103 110 97 108)) (jY H3 (nF (mV 116 97 107 101)) (.lit 26) (nF (nM 116 104 114 101 97 100)) (jY Qli (nF (Bq 116 114 (Pc 121 97 99 113 (mV 117 105 114 101)))) (.lit 28) (ow 116 (nM 114 121 108 111 99 107)) (jY (.lit 29) (nF (nM 117 110 108 111 99 107)) (.lit 30) (ow 118 (Bq 97 114 nH)) (jY (.lit 31) (nF (mV 119 97 105 116)) (.lit 32) (ow 119 (nM 97 105 116 102 111 114)) (jY (.lit 33) (nF (nM 119 97 105 116 111 110)) (.lit 34) (ow 119 (mV 108 111 99 107)) (abH (.lit 35) (ow 119 (mV 114 105 116 101)) Qpx (s9 119 (nM 117 110 108 111 99 107)) ga Q22))))))))))))))))))) gx
def G!:=ju 4851 Z4
abbrev Q23:=nm ZZ
abbrev Q24:=ju 4851 [Qf,Nk]
abbrev Q25:=ju 4852 [Qf,Nk]
abbrev Q26:=[Q23,.eS (mV 9 10 13 32)]
def Vk:=k7 Qyk Dq (dX Q23 a_ Q24 Q23 (.lit 35) Q25 (iD 4950 Q26 4950 Q26 Q24)) ga
def G_:=k7 Qyk Dq (dX Q23 a_ Q24 Q23 (.lit 35) Q25 Q25) ga
def ajq:=ju 4901 Qjr
def F?:=k7 QH Aa (iD 4950 [UT,Qb] 4950 [UT,Qb] (ju 4901 Qjx)) ga
def ajp:=ju 4951 Qjr
def F!:=k7 Qjt Aa (sp Q2m ga (ju 4951 Qjx)) gx
def O?:=ju 22001 Qj
abbrev Q27:=cn (mk pn) iy
abbrev Q28:=ju 22002 [Qf,Qa,Qa]
def O!:=jb Q0 pn (fj (nm Qj3) (.lit 48) (lM pn pn (ju 22001 [uN Qf (cn Qh Q27)])) (qF (nC Qmy) Qqk pn Qmy (gz (.op .slt (.eS b4) Qf) Q28 Qqk) Q28)) Q28
def RR:=mU QH Aa (ju 22002 [Qf,lO (wr (.mul a_ Qb)) (wr (.wrap .u8 (.sub UT (.lit 48)))),Dr]) [Qb,Q0]
def O':=ju 22101 [Qc,Qc,Qa,Qf,Qb]
def K0:=oL yD (n8 Aa (eC b? 22101 [lO Qf (ln Qdm),Qb,Dr,Qm,bR])) (.lit 3000) Qf ga (iD 3800 [Qm] 3800 [Qm] ga)
def RQ:=ei Qye Qyf (ma 3850 xz (ju 22151 [Qf,Qb,cL 3850 xz])) (ou [Qh,Qh,cL 4050 xz])
abbrev Q29:=ln (gT Qe0)
def KZ:=sp Qd (gz Q29 (ju 22152 [Q0,Qf,Qb,Qo,Qt1]) (eC (fv Q29 Qv) 22152 [Q0,Qf,Qb,Qo,nB iy (rpx Q29 iy) Qgb])) (ou [Qo,Qh,Qa])
def KY:=k7 Qfl Qo1 (gz Q12 (eC Qt3 22152 (DN [Qt4])) (Bn (fv Q12 Qv) Qt3 22152 (DN [lN bR iy (rpx Q12 iy) Qgb]))) Qt6
def O_:=jt Qys (nI Qyt gx yn Qc (ju 22201 (Jo [Qo,Qm])))
abbrev Q3a:=ju 22201 (DN [bR])
abbrev Q3b:=kc (nY Qds) (fv Qds Qc) (qE 4150 [Qdr] (kf (jQ 0 Qb Qds) (cL 4150 [Qdr])) Q3a gx)
def FG:=p9 Qf EK Qo1 (p7 Qfl (nY Qdq) (nI (vA (ce 2 ZH) Qdq) gx (ln (gT Qdp)) Q12 (pD (nY Qdu) (yS (fv Zt Qdu) (rD Qdr) (gz Qds (gz Qdt Q3a gx) gx) (dX Qdr KB Q3b Qdr H3 Q3b gx))))) ga
def N?:=ma 3950 Qj (ju 22251 [Qf,Qb,cL 3950 Qj])
abbrev Q3c:=uQ Qfa Qfb (uR Qe1) (uR Qe2)
def KX:=sp Qd (gz Q29 (ju 22252 [Q0,Qf,Qb,Qo,nB Qfd Qk Q3c]) (eC (fv Q29 Qv) 22252 [Q0,Qf,Qb,Qo,nB Qfd (gT Qe0) Q3c])) (ou [Qo,Qh])
abbrev Q3d:=uQ (ja ZH) (fZ ZH) (mk (jC ZH)) (mk (yr 5 ZH))
def KW:=mU Qfl Qo1 (gz Q12 (eC Qt3 22252 (DN [lN bR (mk (fT ZH)) Qk Q3d])) (Bn (fv Q12 Qv) Qt3 22252 (DN [lN bR (mk (fT ZH)) (gT ZH) Q3d]))) [Qm,bR]
abbrev Ac:=tL 22200 Z5
abbrev Ab:=eh 22200 Z5
def RP:=p7 Ac Ab (kc xy Ak (kE Qub Que (ke Quh ga)))
abbrev Q3g:=el (ce 6 Qul) Qa
abbrev Q3h:=[fT Q3g,gT Q3g,ja Q3g,k8 Q3g,gT Quc]
def wg:=ei Ac Ab Quq (cH xy Quq Ak (nN Qub Que Quh Quq (iE Quf (nN (iG Quf Ie) Qum (kZ (ce 6 Qul)) (ma 22500 Q3h (ou [Quo,Qup,cL 22500 Q3h,Qun,Q0])) (ou [Quo,Qup,Qa,Qun,Q0]) Qur)) Qus) Quq)
abbrev me:=cL 9150 sk
abbrev rV:=D2 sk 2
abbrev Q3k:=ou [rV,Qh,Qa,Qa,Qa,Qa,Qa,Qa]
abbrev Nz:=tL 22300 IA
abbrev Ny:=eh 22300 IA
abbrev vR:=D2 sk 3
abbrev An:=D2 sk 4
abbrev H4:=D2 sk 5
abbrev Q3q:=D2 sk 6
abbrev Q3r:=D2 sk 7
abbrev Q3s:=D2 sk 8
abbrev Q3t:=cn Qk (uQ H4 Q3q (mk Q3r) (mk Q3s))
abbrev Q3u:=WK vR Nh (mk An) Q3t
abbrev Q3v:=ou [rV,Q3u,Qa,Qa,Qa,Qa,Qa,Qa]
abbrev XL:=[Qf,Qb,rV,Q3u,bR]
abbrev ZE:=iG bR vR
abbrev ZD:=el Ie An
abbrev vm:=fT ZD
abbrev Q30:=kZ (ce 6 ZD)
abbrev Q31:=el (ce 6 ZD) Qa
abbrev Q32:=[fT Q31,gT Q31,ja Q31,k8 Q31,Qk]
abbrev ZG:=fZ ZD
abbrev Q34:=nY ZG
abbrev Q35:=ou [rV,WK vR Nh (mk (jC ZD)) Q3t,Qa,Qa,Qa,Qa,Qa,Q0]
abbrev Q36:=mk (iu An)
abbrev Q37:=ou [rV,WK vR Nh Q36 Q3t,Qa,Qa,Qa,Qa,Qa,Q0]
abbrev Cb:=[Qf,Qb,rV,vR,bR,cL 22350 XL,fE 22350 XL,fR 22350 XL,rr 22350 XL 3,An,H4,Q3q,Q3r,Q3s]
abbrev ZF:=uQ Q3q Q3r (mk Q3s) (kH 9150 sk 9)
abbrev Q4a:=oH vR (mk An) H4 ZF
abbrev Q4b:=ou [rV,Q4a,Qa,Qa,Qa,Qa,Qa,Qa]
abbrev Ih:=[Qf,Qb,rV,Q4a,bR]
abbrev Q4d:=[fT Q31,gT Q31,ja Q31,k8 Q31,H4]
abbrev Q4e:=iG ZG H4
abbrev Q4f:=ou [rV,oH vR (mk (jC ZD)) H4 ZF,Qa,Qa,Qa,Qa,Qa,Q0]
abbrev Q4g:=ou [rV,oH vR Q36 H4 ZF,Qa,Qa,Qa,Qa,Qa,Q0]
abbrev Am:=[Qf,Qb,rV,vR,bR,cL 22350 Ih,fE 22350 Ih,fR 22350 Ih,rr 22350 Ih 3,An,H4,Q3q,Q3r,Q3s,D2 sk 9]
abbrev Q4i:=ou [rV,vR,Qa,Qa,Qa,Qa,Qa,Qa]
abbrev Q4j:=jQ 0 vR bR
abbrev Q4k:=el Ie Q4j
abbrev Q4l:=fT Q4k
abbrev Q4m:=kZ (ce 6 Q4k)
abbrev Q4n:=el (ce 6 Q4k) Qa
abbrev Q4o:=lZ vR Nh (el vR bR) iy (mk (iu Q4j))
abbrev Q4p:=gT (el Q4o bR)
abbrev Q4q:=[fT Q4n,gT Q4n,ja Q4n,k8 Q4n,Q4p]
abbrev Q4r:=fZ Q4k
abbrev Q4s:=ld (nY Q4r) (iG Q4r Q4p) fl
abbrev Q4t:=ou [rV,lZ Q4o Nh (el Q4o bR) iy (mk (jC Q4k)),Qa,Qa,Qa,Qa,Qa,Q0]
abbrev Q4u:=ou [rV,Q4o,Qa,Qa,Qa,Qa,Qa,Q0]
abbrev wY a0 a1:=rr 24050 a0 a1
abbrev rb a0 a1 a2:=Pb a0 a1 (mk a2)
def jS:=qE 9150 sk (rD me) (ei Ac Ab Q3k (cH xy Q3k Ak (ei Nz Ny (pF 22350 [Qf,Qb,rV,Qh,bR] (sZ 22350 [Qf,Qb,rV,Qh,bR] 4) fl) (ou [rV,Qh,Qa,Qa,Qa,Qa,Qa,qx])) Q3k)) (dX me Q0 (ei Ac Ab Q3v (cH xy Q3v Ak (ei Nz Ny (tV 22350 XL 22350 XL 4 (jt ZE (iE An (pZ An Ie vm jH (jt Q30 (pF 22500 Q32 Q34 fl)) (dX vm qx (jt Q30 (gy 22500 Q32 22500 Q32 Q35 Q37)) vm B9 Q35 (dX vm QJ (jt Q34 fl) vm Rm (jt Q34 fl) Q37))))) (ma 24000 Cb (gG (eh 24000 Cb) [rr 24000 Cb 15,oH vR (kH 24000 Cb 22) Qk (jB (kH 24000 Cb 23) (kH 24000 Cb 24) (kH 24000 Cb 25) (kH 24000 Cb 26)),rr 24000 Cb 16,rr 24000 Cb 17,rr 24000 Cb 18,rr 24000 Cb 19,rr 24000 Cb 20,rr 24000 Cb 21]))) (ou [rV,Q3u,Qa,Qa,Qa,Qa,Qa,qx])) Q3v)) me eK (ei Ac Ab Q4b (cH xy Q4b Ak (ei Nz Ny (tV 22350 Ih 22350 Ih 4 (jt ZE (iE An (pZ An Ie vm jH (jt Q30 (ma 22500 Q4d (ld Q34 Q4e (ou [rV,oH vR Q36 (rb H4 ZG (cL 22500 Q4d)) ZF,Qa,Qa,Qa,Qa,Qa,Q0])))) (dX vm qx (jt Q30 (gy 22500 Q4d 22500 Q4d Q4f Q4g)) vm B9 Q4f (dX vm QJ (ld Q34 Q4e (ou [rV,oH vR Q36 (rb H4 ZG (yr 5 ZD)) ZF,Qa,Qa,Qa,Qa,Qa,Q0])) vm Rm (n8 Q34 (ei Q4e (jq (iF H4 ZG)) (ou [rV,oH vR Q36 (rb H4 ZG (s7 (iF H4 ZG))) ZF,Qa,Qa,Qa,Qa,Qa,Q0]) Q4f)) Q4g))))) (ma 24050 Am (gG (eh 24050 Am) [wY Am 16,oH vR (kH 24050 Am 23) (wY Am 24) (jB (kH 24050 Am 25) (kH 24050 Am 26) (kH 24050 Am 27) (kH 24050 Am 28)),wY Am 17,wY Am 18,wY Am 19,wY Am 20,wY Am 21,wY Am 22]))) (ou [rV,Q4a,Qa,Qa,Qa,Qa,Qa,qx])) Q4b)) (tU me jH (ei Ac Ab Q4i (cH xy Q4i Ak (ei Nz Ny (pF 22350 [Qf,Qb,rV,vR,bR] (sZ 22350 [Qf,Qb,rV,vR,bR] 4) (jt ZE (iE Q4j (pZ Q4j Ie Q4l jH (jt Q4m (ma 22500 Q4q Q4s)) (dX Q4l qx (jt Q4m (gy 22500 Q4q 22500 Q4q Q4t Q4u)) Q4l B9 Q4t (dX Q4l QJ Q4s Q4l Rm (ld (nY Q4r) (iG Q4r Q4p) (n8 (jq (iF Q4p Q4r)) Q4t)) Q4u)))))) (ou [rV,vR,Qa,Qa,Qa,Qa,Qa,qx])) Q4i))))
abbrev Q4v:=cL 22500 Qwc
abbrev Q4w:=cL 22500 Qwf
abbrev Q4x:=kY Qg Qtx (jb Q4v Q4w ga gx)
def KV:=iL Qpn [Qo] (cH Qpj Qwa US (iq (fv yn Q0) (fv eK yn) (qE 22500 Qwc (qe yn) (iL Qtt [Bp Qa Q4v] gx) (ma 22500 Qwf (ri (kf Qg Qtu) (ou [lO Q4v Q4w]) Qtt [Bp Q4v Q4w] (dX Qg Qtv (ou [wr (.mul Q4v Q4w)]) Qg Qtw (fj Q4v Q4w ga Q4x) Q4x))))) gx)
abbrev Q4y:=nD cC (.lit 60)
abbrev e?:List W:=[Qf,Qb,bR,Q4y]
abbrev Q40:=[cL 3150 e?,cL 23100 e?]
abbrev Q41:=[fE 3150 e?,fR 3150 e?,rr 3150 e? 3,fE 23100 e?,fR 23100 e?,rr 23100 e? 3]
abbrev Q42:=nD cC KC
abbrev f_:=[Qf,Qb,bR,Q42]
abbrev Q44:=[cL 3150 f_,cL 23100 f_]
abbrev Q45:=[fE 3150 f_,fR 3150 f_,rr 3150 f_ 3,fE 23100 f_,fR 23100 f_,rr 23100 f_ 3]
def RO:=gy 100 xz 100 xz (gy 22100 [Qo,Qm] 22100 [Qo,Qm] (oL (fv Qi2 EK) ga (.lit 60) KC (ma 3150 e? (ma 23100 e? (iD 2450 Q40 2450 Q40 (ma 3300 Q41 (nI (eh 3300 Q41) gx (rr 3150 e? 4) (rr 23100 e? 4) (ju 22751 [Q4y,ln Q4y,Qa,Qf,Qb,Qo,Qm,bR])))))) (lM KC KC (ma 3150 f_ (ma 23100 f_ (iD 2450 Q44 2450 Q44 (ma 3300 Q45 (nI (eh 3300 Q45) gx (rr 3150 f_ 4) (rr 23100 f_ 4) (ju 22751 [Q42,ln Q42,Qa,Qf,Qb,Qo,Qm,bR])))))))) ga) ga
abbrev Q46:List W:=og [eu,gj,UT]
abbrev rq a0:=abF Q46 a0
abbrev gm a0 a1:=rr 23050 a0 a1
abbrev s5 a0:=gm Q46 a0
abbrev Q47:=[cL 3100 Q46,rq 1,rq 2,s5 0,s5 1,s5 2]
abbrev Q48:SB:=.not (eh 3000 Q46)
abbrev Q49:SB:=.not (eh 23000 Q46)
def RN:=rk (ma 3100 Q46 (ma 23050 Q46 (ma 3300 Q47 (kc (eh 3300 Q47) (.and (kf (rq 3) (s5 3)) (.and (kf (rq 4) (s5 4)) (.and (kf (rq 5) (s5 5)) (.and (kf (rq 6) (s5 6)) (kf (rq 7) (s5 7)))))) (kY (rq 8) (s5 8) (kY (rq 9) (s5 9) (ma 3000 Q46 (w7 23000 Q46 (.and (.not (.and Q48 Q49)) (.not (.and (.not Q48) (.not Q49)))) (re 22751 [Qm,bR,cL 3100 Q46,rq 1,rq 2]))))))))) ga
def N!:=jt Ac (nI Ab gx EK Qc (ju 22801 [Qa,Qo,Qm,bR]))
def RM:=p9 Qf yn Qo1 (pD (nY (nm Qd6)) (ju 22801 (DN []))) ga
abbrev Q5a:=cL 22150 xz
abbrev Q5b:=fE 22150 xz
def Cl:=oI 22150 xz 22150 xz 2 (gz UW (gy 22800 [Qf,Qb,Q5a,Q5b,Qk] 22800 [Qf,Qb,Q5a,Q5b,Qk] Qwn (ou [Q5a,Q5b,Qk,Qa])) (jt (fv UW Qv) (gy 22800 [Qf,Qb,Q5a,Q5b,Qo] 22800 [Qf,Qb,Q5a,Q5b,Qo] Qwn (ou [Q5a,Q5b,Qo,Qa])))) [Qh,Qh,Qh,fR 22150 xz]
def KU:=nP (dX Qfo KB (iE Zw (eC (nC Zw) 22901 [Qm,uP 4 Qf Zw,Qa])) Qfo H3 (iE Zw (p7 (nC Zw) (fv (nm Qt) (jQ 3 Qf Zw)) ga)) gx)
def RL:=k7 Qjt Aa (sp Q2m ga (ju 22901 Qjx)) gx
abbrev Q5c:=tL 22300 Ng
abbrev Q5d:=eh 22300 Ng
abbrev Q5e:=tL 22900 (wG [])
abbrev Q5f:=eh 22900 (wG [])
def RJ:=kE Q5c Q5d (kE Q5e Q5f ga)
abbrev Q5g:=tL 22800 IA
abbrev Q5h:=eh 22800 IA
def we:=p7 Q5g Q5h (kc UU Qwv (iD 22950 Qwx 22950 Qwx (ju 23001 [cC,Qa,Qf,Qb,Qo,Qm,bR])))
abbrev Q5i:=ju 23001 (Im [cC,eu])
def RI:=qq Qgl Qgk Q5i (gy 22950 (wG [eu,Qb]) 22950 (wG [eu,Qb]) Q5i (qb Dq Qb Nj (qb Qo1 Qf Nj (qF (fv (nm Q13) (iF eu Qf)) gx (nm Q13) (iF eu Qf) (pD Qvi Q5i) Q5i)))) ga
abbrev Q5j:=cL 22250 [Qo,Qm]
abbrev Q5k:=fE 22250 [Qo,Qm]
abbrev aaq (l:List W):=Q5j::Q5k::Qk::Qa::Qa::Qa::Qa::Qa::l
abbrev Q5l:=ou (aaq [Qa,Qa])
abbrev Q5m:=sZ 22350 Ng 4
abbrev Q5n:=tL 23000 Qwx
abbrev Q5o:=eh 23000 Qwx
abbrev Q5p:=ou (aaq [Qa,.lit 131])
abbrev aap (l:List W):=Q5j::Q5k::bR::Qa::Qa::Qa::Qa::Qa::l
abbrev Q5r:=ou (aap [Qa,Qa])
abbrev Q5s:=ou (aap [Qa,.lit 131])
abbrev zG a0:=aki 22400 a0
abbrev Q5t:=ma 22400 Ng (ju 23051 [zG 7,Qx2,iu Qxz,Qa,Qf,Qb,Qo,Qm,bR,cL 22400 Ng,zG 1,zG 2,zG 3,zG 4,zG 5,zG 6])
def nt:=qE 22250 [Qo,Qm] (rD EK) (ei Q5g Q5h Q5l (nJ Q5l Qwv (ei Q5c Q5d (pF 22350 Ng Qxy (ei Q5e Q5f (qq Q5m Qx0 (ei Q5n Q5o Q5l Q5p) (ma 22400 Ng fl) (jt Q5n (cH Q5o Q5l Qx0 Q5p (ma 22400 Ng fl)))) Q5l)) (ou (aaq [qx,Qa]))) Q5l)) (jt Qxq (ei Q5g Q5h Q5r (nJ Q5r Qwv (ei Q5c Q5d (pF 22350 Ng Qxy (ei Q5e Q5f (qq Q5m Qx0 (ei Q5n Q5o Q5r Q5s) Q5t (jt Q5n (cH Q5o Q5r Qx0 Q5s Q5t))) Q5r)) (ou (aap [qx,Qa]))) Q5r)))
abbrev Q5u:=Bm Qb Ca Zy
abbrev Q5v:=Bm Qb Ca (mk Qpp)
abbrev Q5w:=qa Qr (fv Qpp Qo) 23051 [Qf,Q5u,Qo,Q1,bR,cC,eu,gj,gX,iJ,kr,lQ,lr,mc,qk,Ep] (ju 23051 [Qf,Q5v,Qo,Q1,bR,cC,eu,gj,gX,iJ,kr,lQ,lr,mc,qk,Ep])
abbrev Q5x:=rh 23051 (aaw [qk,Ep])
def wc:=jb Qm KC (fj lr Qny (fj qk Q1 (n8 Qq Q5w) Q5x) (dX lr Qn0 (iE mc (eC (fv mc Nj) 23052 (CD [Qm,uP 4 eu mc,Qa,bR,cC,eu,gj,gX,iJ,kr,lQ,lr,mc,qk,Ep]))) lr Qn5 (iE mc (ei (iG mc iJ) (fv qk (jQ 3 iJ mc)) (n8 Qq (pZ Qm kr (jQ 2 kr Qm) H3 (fj (jQ 3 kr Qm) mc (fj (jQ 4 kr Qm) qk Q5w Q5x) Q5x) Q5x)) Q5x)) Q5x)) (ou [iJ,kr,Qb,lQ,lr,mc,qk,Ep,Qf,Qa])
abbrev Q5z:=fv Qjo (jQ 3 lQ Ep)
abbrev Q50:=qa Qr (fv Qpp Qo) 23051 [Qf,Q5u,Qo,Q1,eu,gj,gX,iJ,kr,lQ,lr,mc,qk,Ep,Qjo,Qji] (ju 23051 [Qf,Q5v,Qo,Q1,eu,gj,gX,iJ,kr,lQ,lr,mc,qk,Ep,Qjo,Qji])
abbrev Q51:=rh 23051 [Q1,eu,gj,gX,iJ,kr,lQ,lr,mc,qk,Ep,Qjo,Qji]
abbrev Q52:=n8 Qq (pZ Qm lr (jQ 2 lr Qm) H3 (fj (jQ 3 lr Qm) Ep (fj (jQ 4 lr Qm) Qjo Q50 Q51) Q51) Q51)
def RG:=qF Qxy (n8 UU (fj Qxz Qm (ju 23053 Qjp) (ju 23052 Qjp))) qk Qn5 (iE Ep (ei (fv Ep Qjh) Q5z Q52 Q51)) Q51
def RF:=qF Qxy (ju 23053 Qjp) qk Qn5 (iE Ep (ei (fv Ep Qjh) Q5z Q52 (n8 Qq Q50))) (n8 Qq Q50)
def KS:=oI 22850 Rj 22850 Rj 3 (ju 23101 [Qm,Qc,Qa,Qf,Qb,cL 22850 Rj,fE 22850 Rj,fR 22850 Rj]) [Qh,Qh,Qh,Qh,rr 22850 Rj 3]
abbrev Rr:List W:=og [eu,gj,Qx5]
abbrev mW a0 a1:=mk (gm a0 a1)
abbrev Q54:=ju 23102 [Qf,pG iy (mW Rr 3) (jB (mW Rr 4) (mW Rr 5) (mW Rr 6) (mW Rr 7)),Qb,Dr,Qm,bR,gm Rr 0,gm Rr 1,gm Rr 2]
abbrev Rq:List W:=og [eu,gj,.rem UT Qb]
abbrev Q56:=ju 23102 [Qf,pG iy (mW Rq 3) (jB (mW Rq 4) (mW Rq 5) (mW Rq 6) (mW Rq 7)),Qb,Dr,Qm,bR,gm Rq 0,gm Rq 1,gm Rq 2]
def wb:=sp QH (k7 Qj1 Aa (sp (nY (.rem UT Qb)) (oI 23050 Rr 23050 Rr 9 (dX (gm Rr 8) eK Q54 (gm Rr 8) jH Q54 (re 23101 [Qm,bR,gm Rr 0,gm Rr 1,gm Rr 2])) [Qh,cC,eu,gj,gm Rr 9]) (oI 23050 Rq 23050 Rq 9 (dX (gm Rq 8) eK Q56 (gm Rq 8) jH Q56 (re 23101 [Qm,bR,gm Rq 0,gm Rq 1,gm Rq 2])) [Qh,cC,eu,gj,gm Rq 9])) Qx8) Qx8
abbrev Rp:List W:=DM [gX,Qx9]
abbrev Q58:=eC Qyb 23102 [Qf,pG Qb (mW Rp 3) (jB (mW Rp 4) (mW Rp 5) (mW Rp 6) (mW Rp 7)),Qo,Q1,bR,cC,gm Rp 0,gm Rp 1,gm Rp 2]
abbrev Ro:List W:=DM [gX,.rem Z6 Qo]
abbrev Q6a:=eC Qyb 23102 [Qf,pG Qb (mW Ro 3) (jB (mW Ro 4) (mW Ro 5) (mW Ro 6) (mW Ro 7)),Qo,Q1,bR,cC,gm Ro 0,gm Ro 1,gm Ro 2]
def Ck:=sp Qi9 (k7 (jq Qo) Qq (sp (nY (.rem Z6 Qo)) (oI 23050 Rp 23050 Rp 9 (dX (gm Rp 8) eK Q58 (gm Rp 8) jH Q58 (rh 23102 [Q1,bR,cC,gm Rp 0,gm Rp 1,gm Rp 2])) [Qb,eu,gj,gX,gm Rp 9]) (oI 23050 Ro 23050 Ro 9 (dX (gm Ro 8) eK Q6a (gm Ro 8) jH Q6a (rh 23102 [Q1,bR,cC,gm Ro 0,gm Ro 1,gm Ro 2])) [Qb,eu,gj,gX,gm Ro 9])) Qyd) Qyd
def ajo:=qE 5400 Z5 (nY (rr 5400 Z5 3)) (ou [cL 5400 Z5,fE 5400 Z5,fR 5400 Z5,Qa]) (ou [cL 5400 Z5,fE 5400 Z5,fR 5400 Z5,Q0])
abbrev Q6b:=s7 cC
def ajn:=oL (nY Q6b) (ou [Q6b,eu,Qa]) Qm7 bR (ou [Q6b,eu,Qa]) (ju 5051 [bR,Qm,yn,Qa,Q6b,eu,Qf,Qb,Qo])
abbrev aao (l:List W):=Qfm::(ce 1 Qs)::Qfo::(ce 3 Qs)::l
abbrev Q6c:List W:=aao [Qo4,bR,cC]
abbrev Q6d:=qf gj
abbrev e!:=ou [bR,cC,Qa]
abbrev Q6f:=ou [bR,cC,Q0]
def F_:=qF Qp (nP (tV 5050 Q6c 5050 Q6c 2 (ou [cL 5050 Q6c,fE 5050 Q6c,Qa]) (rh 5051 [Q1,cL 5050 Q6c,fE 5050 Q6c,eu,gj,gX]))) eu Q0 (gz Qc (fj Q6d iy (sp Qpa e! Q6f) e!) e!) (dX eu eK (gz Qc (oL Qpa e! gX cC (gy 12900 [gj,Qa] 12900 [gj,Qa] e! (rm 12900 [gj,Qa] Q0 Q6f)) e!) e!) eu jH (sp Qrk (dX Qc Q0 (fj Q6d Qts Q6f e!) Qc eK (fj Q6d Qtu Q6f (dX Q6d Qts Q6f Q6d Qtv Q6f (dX Q6d Qtw Q6f Q6d Qtx Q6f e!))) e!) e!) e!)
def ajm:=ju 5101 xz
def arP:=ou [Qb]
def ajl:=ju 5151 xz
def arO:=ou [Qf,Qb,Q0]
def ajk:=ju 5201 xz
def arN:=ou [Q0,Qf,Qb,Q0]
def ajj:=ju 5251 [Qb,Qf,pn,Qa,Qo]
abbrev Q6g:=tL 1150 (aao [])
abbrev Q6h:=eh 1150 (aao [])
abbrev Q6i:=tL 5450 [k8 Qs,Qo4,Q2w]
abbrev Q6j:List W:=CD [Q1,cL 5450 [k8 Qs,Qo4,Q2w]]
def E?:=sp Qp (nP (lM Qrh Q2w (ld (fv Qm7 Qf) Q6g (n8 Q6h (eC Q6i 5251 Q6j))))) (ou [bR,Qb])
def aji:=ju 5301 [Qf,Qa,Qb,Qo,Qm]
abbrev Q6k:=[Qym,Qm,bR]
abbrev Q6l:=tV 5500 Q6k 5500 Q6k 2 (ou [Qo,cL 5500 Q6k,fE 5500 Q6k,Qa]) (ju 5301 [Qf,Nk,Qo,cL 5500 Q6k,fE 5500 Q6k])
def E!:=mU Qvi Dq (pH Qvj Qyh eK (ri (rD (.op .Ev bR Qv6)) (ou [Qo,Qm,bR,Qa]) (rD (nm (.op .Ew bR Qv6))) [Qo,Qm,bR,Qa] Q6l) Q6l) [Qo,Qm,bR,Q0]
def ajh:=ju 5351 [Qf,Qa,Qb,Q0,Qo,Qm]
abbrev Q6m:=ou (wG [Qa])
abbrev Q6n:=[Qym,Qm,bR,cC]
abbrev Q6o:=tV 5600 Q6n 5600 Q6n 3 (ou [Qo,cL 5600 Q6n,fE 5600 Q6n,fR 5600 Q6n,Qa]) (ju 5351 [Qf,Nk,Qo,cL 5600 Q6n,fE 5600 Q6n,fR 5600 Q6n])
def E_:=mU Qvi Dq (pH Qvj Qyh eK (cH (rD (.op .Ev cC Qv6)) Q6m (rD (nm (.op .Ew cC Qv6))) Q6m Q6o) Q6o) (wG [Q0])
def RV:=w7 16050 Qj (nY (cL 16050 Qj)) ga
def ajg:=ju 5401 [Qf,pn,Qa,Qb,Qo,Qm]
def D?:=rk (gy 800 [Qkf,EJ,Qke,Qkh,EK] 800 [Qkf,EJ,Qke,Qkh,EK] (ou (og [Qo])) (re 5401 (og []))) (ou (og [Rh]))
def ajf:=ju 5451 [Qb,Qf,pn,Qa,Qo]
def aje:=sp Qp (nP (lM Qrh Q2w (ld (fv Qm7 Qf) Q6g (n8 Q6h (eC Q6i 5451 Q6j))))) (ou [bR])
def ajd:=ju 5501 [Qf,pn,Qa,Qb,Qo]
abbrev Q6p:=[Qkh,Qm,bR]
abbrev Q6q:=tV 5500 Q6p 5500 Q6p 2 (ou [cL 5500 Q6p,fE 5500 Q6p,Qa]) (re 5501 [cL 5500 Q6p,fE 5500 Q6p])
def ajc:=mU yD Aa (pH QH Qkf eK (cH (rD (.op .Ev bR EJ)) Qt6 (rD (nm (.op .Ew bR EJ))) Qt6 Q6q) Q6q) [Qm,bR,Q0]
def arM:=ju 5551 [Qf,pn,Qa,Q0,Qb,Qo]
abbrev Q6r:=rD (.op .Ev cC EJ)
abbrev Q6s:=ou (og [Qa])
abbrev Q6t:=rD (nm (.op .Ew cC EJ))
abbrev Q6u:=[Qkh,Qm,bR,cC]
abbrev Q6v:=sZ 5600 Q6u 3
abbrev Q6w:=ou [cL 5600 Q6u,fE 5600 Q6u,fR 5600 Q6u,Qa]
abbrev Q6x:List W:=oD [cL 5600 Q6u,fE 5600 Q6u,fR 5600 Q6u]
abbrev Q6y:=qE 5600 Q6u Q6v Q6w (ju 5551 Q6x)
def arL:=mU yD Aa (pH QH Qkf eK (cH Q6r Q6s Q6t Q6s Q6y) Q6y) (og [Q0])
def ajb:=ju 5601 [Qf,pn,Qa,Qb,Qo,Qm]
abbrev Q6z:=qE 5600 Q6u Q6v Q6w (ju 5601 Q6x)
def aja:=mU yD Aa (pH QH Qkf eK (cH Q6r Q6s Q6t Q6s Q6z) Q6z) (og [Q0])
def R!:=ju 16051 [Qf,pn,Qa]
def K1:=mU yD Aa (ei QH (nY UT) (ou [Qo]) (ju 16051 Qjx)) [Rh]
abbrev Q60:List W:=CD (DM [gX])
abbrev Q61:=rr 4000 Q60 6
abbrev Q62:=iu mc
abbrev au5 (l:List W):=Qa::Qf::Qb::Qo::Qm::bR::cC::eu::gj::gX::iJ::kr::l
abbrev gH a0:=ou (au5 a0)
abbrev AG (l:List W):=lQ::lr::mc::l
abbrev Q63:=gH (AG [Qo,Qa,Qa,Qa,Qa,Qa,Qa,iJ,kr,lQ,lr,mc])
abbrev Q64:=el Ie iJ
abbrev Q67:=fR 4000 Q60
abbrev Q68:=rr 4000 Q60 4
abbrev Q7a:=nY (fZ Q64)
abbrev d?:=kf Q61 jH
abbrev Q7c:=cL 4000 Q60
abbrev Q7d:=fE 4000 Q60
abbrev XK:=rr 4000 Q60 3
abbrev Q7f:=rr 4000 Q60 5
abbrev Nx:=iu iJ
abbrev SD (l:List W):=lQ::lr::mc::Q7c::Q7d::Q67::XK::Q68::Q7f::Q61::l
abbrev Q7h:=gH (SD [Nx,KB,XK,lr,Qa])
abbrev Q7i:=gH (SD [Nx,kr,lQ,lr,Qa])
abbrev Q7j:=jC Q64
abbrev Q7k:=gH (SD [Q7j,KB,XK,lr,Qa])
abbrev Q7l:=gH (SD [Q7j,kr,lQ,lr,Qa])
abbrev Q7m:=kf Q67 Qn5
abbrev Q7n:=qq d? Q7m (gH (SD [Nx,H3,XK,Q68,Qa])) Q7h Q7i
def Cj:=ma 4000 Q60 (ld xy Qub (eb (rD Q61) Qqu (jb mc Zt (gH (AG [Qo,Qa,Qa,Qa,Qa,Qa,Qa,iJ,kr,lQ,lr,Q62])) Q63) Q63 (rD kr) (jt Ak (n8 Qpt (pZ iJ Ie (fT Q64) Q0 (fj (yr 1 Q64) Ig (fj Q67 Ig (fj Q68 Q0 (ei Q7a d? Q7h Q7i) (ei Q7a d? Q7k Q7l)) (nN Q7a d? Q7m (gH (SD [Q7j,H3,XK,Q68,Qa])) Q7k Q7l)) (jt Q7a Q7n)) Q7n))) (gH (SD [iJ,Qa,Qa,Qa,Qa]))))
abbrev Q7o:=iu qk
abbrev Q7p:=gH (AG [qk,Qo,Qa,Qa,Qa,Qa,Qa,Qa,iJ,kr,lQ,lr,mc,qk])
abbrev au3 (l:List W):=lQ::lr::mc::qk::Q7c::Q7d::Q67::XK::Q68::Q7f::Q61::l
abbrev oO a0:=gH (au3 a0)
abbrev Q7q:=oO [Nx,kr,KB,XK,mc,Qa]
abbrev Q7r:=oO [Nx,kr,lQ,lr,mc,Qa]
abbrev Q7s:=iG (fZ Q64) kr
abbrev Q7t:=rb kr (fZ Q64) Q68
abbrev Q7u:=oO [Nx,Q7t,KB,XK,mc,Qa]
abbrev Q7v:=oO [Nx,Q7t,lQ,lr,mc,Qa]
abbrev Q7w:=oO [Q7j,kr,KB,XK,mc,Qa]
abbrev Q7x:=oO [Q7j,kr,lQ,lr,mc,Qa]
abbrev Q7y:=oO [Q7j,Q7t,KB,XK,mc,Qa]
abbrev Q7z:=oO [Q7j,Q7t,lQ,lr,mc,Qa]
abbrev Q70:=qq d? Q7m (oO [Nx,kr,H3,XK,Q68,Qa]) Q7q Q7r
def Ci:=ma 4000 Q60 (ld xy Qub (eb (rD Q61) Qqu (jb qk Zt (gH (AG [qk,Qo,Qa,Qa,Qa,Qa,Qa,Qa,iJ,kr,lQ,lr,mc,Q7o])) Q7p) Q7p Qpu (jt Ak (n8 Qpt (pZ iJ Ie (fT Q64) Q0 (cH (kf (yr 1 Q64) Ig) (cH (kf Q67 Ig) (eb (qe Q68) Q7a (sp d? Q7q Q7r) (ei Q7s d? Q7u Q7v) Q7a (sp d? Q7w Q7x) (ei Q7s d? Q7y Q7z)) Q7a (qq d? Q7m (oO [Q7j,kr,H3,XK,Q68,Qa]) Q7w Q7x) (nN Q7s d? Q7m (oO [Q7j,Q7t,H3,XK,Q68,Qa]) Q7y Q7z)) Q7a Q70 (nN Q7s d? Q7m (oO [Nx,Q7t,H3,XK,Q68,Qa]) Q7u Q7v)) Q70))) (oO [iJ,kr,Qa,Qa,Qa,Qa])))
abbrev AF (l:List W):=Qf::Qb::Qo::Qm::bR::cC::eu::gj::gX::iJ::kr::l
abbrev e_:List W:=AF [lQ,lr]
abbrev Q72:=rr 12050 e_ 14
abbrev Q73:=gH [lQ,lr]
def R8:=ma 12050 e_ (pH (eh 12050 e_) Q72 Rh Q73 (ju 12001 (AF [lQ,lr,Qf,Q72,iu Q72])))
abbrev Q74:=kf (iF mc Ep) Qb
abbrev Q75:List W:=AF (AG [qk,iu Ep])
abbrev Q76:=nY qk
abbrev Q77:List W:=AF [lQ,lr,rb mc qk (iF mc Ep),Q7o,iu Ep]
abbrev Ok (l:List W):=Q0::Qf::Qb::Qo::Qm::bR::cC::eu::l
abbrev Q78:=n8 Q76 (lM Z8 qk (ld (nY (.sub Z8 qk)) (kf (wZ qk Z8 qk) Z8) (ou (Ok [gj,gX,iJ,kr,lQ,lr,qk,.op .fill mc (cn (mk qk) iy),Z8]))))
def K6:=p9 Ep Z8 (nY Ep) (sp Q74 (ju 12001 Q75) (n8 Q76 (eC (fv qk Z8) 12001 Q77))) Q78
abbrev Q79:List W:=AF [lQ,lr,pn,Qa]
def W_:=ju 12051 Q79
abbrev Q8a:=kf (iF Qf qk) Qb
abbrev Q8b:=gH [lQ,lr,qk]
abbrev Q8c:List W:=AF (AG [Q7o])
abbrev Q8d:=gH [lQ,lr,Rh]
def K5:=p9 qk mc Q76 (ei (nC qk) Q8a Q8b (ju 12051 Q8c)) Q8d
abbrev Q8e:=rr 12150 e_ 14
def R7:=ma 12150 e_ (pH (eh 12150 e_) Q8e Rh Q73 (ju 12101 (AF [lQ,lr,Qf,Q8e,iu Q8e])))
def K4:=p9 Ep Z8 (nY Ep) (sp Q74 (ju 12101 Q75) (n8 Q76 (eC (fv qk Z8) 12101 Q77))) Q78
def V?:=ju 12151 Q79
def K3:=p9 qk mc Q76 (ei (nC qk) Q8a Q8b (ju 12151 Q8c)) Q8d
def V!:=pF 12250 e_ (eh 12250 e_) Q73
def V_:=ju 12251 e_
def U?:=gH [lQ,lr]
def U!:=pF 12350 e_ (eh 12350 e_) Q73
def U':=ju 12351 e_
def U_:=gH [lQ,lr]
abbrev Q8f:=tL 1400 [Qf,Qr4,Qb,iy,Qo]
abbrev Q8g:=eh 1400 [Qf,Qr4,Qb,iy,Qo]
abbrev d_:=ta (wG [eu])
abbrev Q8i:=fv Qm3 bR
abbrev Q8k:=tL 1250 [bR]
abbrev Q8l:=eh 1250 [bR]
abbrev Q8m:=tL 1300 [bR]
abbrev Q8n:=eh 1300 [bR]
abbrev Q8p:=gG (tL 5100 [eK,Q0]) (Ok [])
abbrev Q8q:=tL 1000 [iy]
abbrev Q8r:=eh 1000 [iy]
def T?:=jt Q8f (cH Q8g d_ Qi1 d_ (cH Q8i d_ (rD cC) (ei Q8k Q8l (ei Q8m Q8n Q8p (ei Q8q Q8r d_ Q8p)) d_) d_))
abbrev Q8s:=s9 98 nH
abbrev Q8t:=tL 1400 [Q0,Q8s,Qf,iy,Qb]
abbrev Q8u:=eh 1400 [Q0,Q8s,Qf,iy,Qb]
abbrev XI:=ta (wG [eu,gj,gX])
abbrev Q8w:=tL 1400 [Qo,Qr4,Qm,Q8s,bR]
abbrev Q8x:=eh 1400 [Qo,Qr4,Qm,Q8s,bR]
abbrev Q8y:=tL 1250 [eu]
abbrev Q8z:=eh 1250 [eu]
abbrev Q80:=tL 1300 [eu]
abbrev Q81:=eh 1300 [eu]
abbrev Q82:=gG (tL 5100 [eK,Q0]) (Ok [gj,gX])
def T!:=nO Q8t Q8u XI Q8w (cH Q8x XI Q2e XI (cH Q2f XI Zr (ei Q8y Q8z (ei Q80 Q81 Q82 (ei Q8q Q8r XI Q82)) XI) XI))
def T_:=jt Q8f (cH Q8g d_ Qi1 d_ (cH Q8i d_ (rD cC) (ei Q8k Q8l (ei Q8m Q8n d_ Q8p) d_) d_))
def S?:=nO Q8t Q8u XI Q8w (cH Q8x XI Q2e XI (cH Q2f XI Zr (ei Q8y Q8z (ei Q80 Q81 XI Q82) XI) XI))
abbrev d!:=ta (wG [eu,gj])
abbrev Q84:=kf Nj (cL 1250 [bR])
abbrev Q85:=ma 5250 [eu,eK,Q0] (ou (Ok [gj,Nj,fE 5250 [eu,eK,Q0]]))
def R6:=jt Q8f (cH Q8g d! Qi1 d! (cH Q8i d! (rD cC) (ei Q8k Q84 (ei Q8m Q8n Q85 (ei Q8q Q8r d! Q85)) d!) d!))
abbrev XJ:=ta (wG [eu,gj,gX,iJ])
abbrev Q87:=kf (ln gX) (cL 1250 [eu])
abbrev Q88:=ma 5250 [gX,eK,Q0] (ou (Ok [gj,gX,iJ,ln gX,fE 5250 [gX,eK,Q0]]))
def R5:=nO Q8t Q8u XJ Q8w (cH Q8x XJ Q2e XJ (cH Q2f XJ Zr (ei Q8y Q87 (ei Q80 Q81 Q88 (ei Q8q Q8r XJ Q88)) XJ) XJ))
def R4:=jt Q8f (cH Q8g d! Qi1 d! (cH Q8i d! (rD cC) (ei Q8k Q84 (ei Q8m Q8n d! Q85) d!) d!))
def R3:=nO Q8t Q8u XJ Q8w (cH Q8x XJ Q2e XJ (cH Q2f XJ Zr (ei Q8y Q87 (ei Q80 Q81 XJ Q88) XJ) XJ))
def RZ:=ju 12801 [Qf,Qb,Qb]
abbrev Q89:W:=.op .idx (uN Qf (cn Zy Q27)) a_
def K2:=mU QH Aa (qb (nY UT) UT Qtj (dX (zJ b0 UT) Q0 (ju 12801 Qjx) (zJ b0 UT) eK (lM pn pn (iL (nY Q89) (Jo [pn]) (ju 12801 [Qf,Qb,lO Qo Q89]))) (ta [Qo]))) (Jo [Qo])
abbrev Q9a:=qf (uN Qf (cn Qvr Q27))
abbrev Q9b:=ta [iu Nk]
abbrev Q9c:=qf (uN Qf (zF Qvr (mk Q2t) iy))
def RY:=ld Dq Qyk (iE Q23 (pH (fv Q23 Qtj) (zJ b0 Q23) B9 (p9 pn Q2t (nC pn) (dX Q9a Q2z Q9b Q9a Qtw Q9b (ta [Nk])) (lM Q2t Qb (dX Q9c Q2z Q9b Q9c Qtw Q9b (ta [Nk])))) (ju 12851 [Qf,Qb,zJ b0 Q23,Nk])))
abbrev Q9d:=ta [Qm]
def FH:=k7 Qi9 Qq (qb (nY Z6) Z6 Qtj (dX (zJ b0 Z6) jH (ju 12851 Qjq) (zJ b0 Z6) qx (fj Qo qx (ju 12851 Qjq) Q9d) Q9d)) Q9d
abbrev Q9e:=el Qwo cC
abbrev Q9f:=fT Q9e
abbrev Q9g:=kZ (ce 6 Q9e)
abbrev Q9h:=el (ce 6 Q9e) Qa
abbrev Q9i:=[fT Q9h,gT Q9h,ja Q9h,k8 Q9h,eu]
abbrev Q9j:=tL 1950 Q9i
abbrev Q9k:=fZ Q9e
abbrev Q9l:=eh 1950 Q9i
abbrev Q9m:=gH [jC Q9e,eu]
def Cn:=Bt b? (jt Qjt (ld UU (iG cC Qwo) (dX Q9f jH (qg Q9g Q9j (qb (nY Q9k) Q9k Nj (gH [Qjj,rb eu Q9k (cL 1950 Q9i)]))) Q9f qx (jt Q9g (ei Q9j Q9l Q9m (gH [Qjj,eu]))) (dX Q9f B9 Q9m Q9f QJ (qb (nY Q9k) Q9k Nj (gH [Qjj,rb eu Q9k (yr 5 Q9e)])) (tU Q9f Rm (iE Q9k (ei (fv Q9k Nj) (jq (iF eu Q9k)) (gH [Qjj,rb eu Q9k (s7 (iF eu Q9k))]) Q9m)))))))
abbrev Q9n:=[Qf,Qb,gj,Qo,Qm,bR,cC,eu]
abbrev Q9o:=rr 400 Q9n 6
abbrev Q9p:=el Qwo iJ
abbrev Q9s:=fR 400 Q9n
abbrev Q9t:=rr 400 Q9n 4
abbrev Q9v:=nY (fZ Q9p)
abbrev c!:=kf Q9o jH
abbrev Q9x:=fE 400 Q9n
abbrev ZC:=rr 400 Q9n 3
abbrev Q9z:=rr 400 Q9n 5
abbrev Q90:=cL 400 Q9n
abbrev au4 (l:List W):=lQ::lr::mc::qk::Q9x::Q9s::ZC::Q9t::Q9z::Q9o::Q90::l
abbrev mX a0:=gH (au4 a0)
abbrev Q91:=mX [Nx,kr,KB,ZC,mc,Qa]
abbrev Q92:=mX [Nx,kr,lQ,lr,mc,Qa]
abbrev Q93:=iG (fZ Q9p) kr
abbrev Q94:=rb kr (fZ Q9p) Q9t
abbrev Q95:=mX [Nx,Q94,KB,ZC,mc,Qa]
abbrev Q96:=mX [Nx,Q94,lQ,lr,mc,Qa]
abbrev Q97:=jC Q9p
abbrev Q98:=mX [Q97,kr,KB,ZC,mc,Qa]
abbrev Q99:=mX [Q97,kr,lQ,lr,mc,Qa]
abbrev aut:=mX [Q97,Q94,KB,ZC,mc,Qa]
abbrev aus:=mX [Q97,Q94,lQ,lr,mc,Qa]
abbrev ZB:=kf Q9s Qn5
abbrev aur:=qq c! ZB (mX [Nx,kr,H3,ZC,Q9t,Qa]) Q91 Q92
abbrev Yq (l:List W):=lQ::lr::mc::qk::Qa::Qa::Qa::Qa::Qa::Q9o::gj::iJ::l
def jT:=ma 400 Q9n (Bt (iG Qo gX) (cH (rD Q9o) (fj Qm qx (jb Zt Q7o (gH (Yq [kr,lQ,lr,mc,Zt])) (gH (Yq [kr,lQ,lr,mc,Q7o]))) (gH (Yq [kr,lQ,lr,mc,qk]))) Qpu (jt Qjt (n8 Qpt (pZ iJ Qwo (fT Q9p) Q0 (cH (kf (yr 1 Q9p) Ig) (cH (kf Q9s Ig) (eb (qe Q9t) Q9v (sp c! Q91 Q92) (ei Q93 c! Q95 Q96) Q9v (sp c! Q98 Q99) (ei Q93 c! aut aus)) Q9v (qq c! ZB (mX [Q97,kr,H3,ZC,Q9t,Qa]) Q98 Q99) (nN Q93 c! ZB (mX [Q97,Q94,H3,ZC,Q9t,Qa]) aut aus)) Q9v aur (nN Q93 c! ZB (mX [Nx,Q94,H3,ZC,Q9t,Qa]) Q95 Q96)) aur))) (mX [iJ,kr,Qa,Qa,Qa,Qa])))
abbrev auq:=gH [jC Q9e]
def RX:=Bt b? (jt Qjt (n8 UU (pZ cC Qwo Q9f jH (qg Q9g Q9j fl) (dX Q9f qx (jt Q9g (ei Q9j Q9l auq (gH [Qjj]))) Q9f B9 auq (ld (kf Q9f QJ) (kf Q9f Rm) fl)))))
abbrev aup:=mX [Nx,KB,ZC,mc,Qa]
abbrev auo:=mX [Nx,lQ,lr,mc,Qa]
abbrev aun:=mX [Q97,KB,ZC,mc,Qa]
abbrev aum:=mX [Q97,lQ,lr,mc,Qa]
abbrev aul:=qq c! ZB (mX [Nx,H3,ZC,Q9t,Qa]) aup auo
def oy:=ma 400 Q9n (Bt (iG Qo gX) (cH (rD Q9o) (fj Qm qx (jb Zt Q7o (gH (Yq (AG [Zt]))) (gH (Yq (AG [Q7o])))) (gH (Yq (AG [qk])))) Qpu (jt Qjt (n8 Qpt (pZ iJ Qwo (fT Q9p) Q0 (fj (yr 1 Q9p) Ig (fj Q9s Ig (fj Q9t Q0 (ei Q9v c! aup auo) (ei Q9v c! aun aum)) (nN Q9v c! ZB (mX [Q97,H3,ZC,Q9t,Qa]) aun aum)) (jt Q9v aul)) aul))) (mX [iJ,Qa,Qa,Qa,Qa])))
abbrev ZA:=s7 gj
abbrev apD:=gH [iJ]
def wi:=fj cC Qny (k7 (jq gj) (nY ZA) (ei (iG ZA iJ) (fv (iF iJ ZA) kr) (gH [rb iJ ZA kr]) (gH [rb iJ ZA (iF iJ ZA)])) apD) (dX cC Qn0 (n8 Qiy (eC (nC eu) 15001 (AF [uP 4 Qf eu,ln (uP 4 Qf eu),Qa,iJ]))) cC Qn5 (n8 Qiy (qa (fv eu UW) (fv gj (jQ 3 Qo eu)) 15002 (AF [yn,Qa,iJ]) apD)) apD)
abbrev Zz:=iF lQ mc
def RW:=jb mc lr (qb (nY mc) mc Qjh (iE Zz (qa (iG Zz qk) (fv (iF qk Zz) kr) 15001 (AF [lQ,lr,Q62,rb qk Zz kr]) (ju 15001 (AF [lQ,lr,Q62,rb qk Zz (iF qk Zz)]))))) (gH [qk])
abbrev apC:=iu lr
abbrev apB:=ju 15002 (AF [lQ,apC,mc])
def Cm:=p9 lr lQ (nY lr) (pH (fv lr yn) (jQ 2 Qm lr) H3 (fj (jQ 3 Qm lr) eu (fj (jQ 4 Qm lr) gj (qa (fv lr Z8) (fv (iF mc lr) kr) 15002 (AF [lQ,apC,rb mc lr kr]) (ju 15002 (AF [lQ,apC,rb mc lr (iF mc lr)]))) apB) apB) apB) (gH [mc])
def Q':=ju 20001 Qj
def Q_:=ou [Qa,Qf]
def P?:=ju 20051 Qjr
def RU:=k7 QH Aa (fj UT Qb (ju 20051 Qjx) (ju 20052 [Qf,Qb,Cr iy (mk UT),Dr])) Qbb
def RT:=mU Qi9 Qq (fj Z6 Qb (ju 20052 Qjq) (eC (fv UW Ql4) 20052 [Qf,Qb,Cr Qo (mk Z6),Q1])) [Q0,Qf,Qb,Qo]
def S!:=gy 1000 Qj 1000 Qj Qbb Qd2
end
theorem acv:S.tree 9000=NV:=cJ
theorem WZ:S.tree 9001=vp:=cJ
theorem aky:S.tree 9002=ai9:=cJ
theorem akx:S.tree 9003=ai8:=cJ
theorem acu:S.tree 9004=D':=cJ
theorem acs:S.tree 9005=D_:=cJ
theorem acr:S.tree 9006=C?:=cJ
theorem acq:S.tree 9007=C!:=cJ
theorem acp:S.tree 9050=tv:=cJ
theorem aco:S.tree 9051=C_:=cJ
theorem acn:S.tree 9052=B?:=cJ
theorem acm:S.tree 9053=B!:=cJ
theorem akw:S.tree 9054=ai7:=cJ
theorem akv:S.tree 9055=arF:=cJ
theorem aku:S.tree 9056=arE:=cJ
theorem akt:S.tree 9057=ai6:=cJ
theorem akr:S.tree 9058=arD:=cJ
theorem akq:S.tree 9059=arC:=cJ
theorem PH:S.tree 9060=FF:=cJ
theorem akp:S.tree 9061=ai5:=cJ
theorem ako:S.tree 9062=ai4:=cJ
theorem PG:S.tree 9063=FD:=cJ
theorem akn:S.tree 9064=ai3:=cJ
theorem akm:S.tree 9065=ai2:=cJ
theorem PF:S.tree 9066=FC:=cJ
theorem akl:S.tree 9067=ai1:=cJ
theorem akk:S.tree 9068=ai0:=cJ
theorem ack:S.tree 9069=B':=cJ
theorem acj:S.tree 9070=B_:=cJ
theorem aci:S.tree 9071=A?:=cJ
theorem ach:S.tree 9072=A!:=cJ
theorem acg:S.tree 9073=A_:=cJ
theorem acf:S.tree 9074=z?:=cJ
theorem ace:S.tree 9100=z!:=cJ
theorem acd:S.tree 9101=Vj:=cJ
theorem acb:S.tree 9102=z_:=cJ
theorem aca:S.tree 9103=y?:=cJ
theorem ab9:S.tree 9104=y!:=cJ
theorem ab8:S.tree 9105=y_:=cJ
theorem PE:S.tree 9106=Vi:=cJ
theorem WY:S.tree 9150=Vh:=cJ
theorem WX:S.tree 9151=IM:=cJ
theorem ab7:S.tree 9152=Vg:=cJ
theorem ab6:S.tree 9153=Vf:=cJ
theorem PD:S.tree 9154=IL:=cJ
theorem at0:S.tree 100=t100:=cJ
theorem agF:S.tree 101=t101:=cJ
theorem agE:S.tree 102=t102:=cJ
theorem apn:S.tree 103=t103:=cJ
theorem apm:S.tree 150=t150:=cJ
theorem agD:S.tree 151=t151:=cJ
theorem apl:S.tree 200=t200:=cJ
theorem MC:S.tree 201=t201:=cJ
theorem agC:S.tree 202=t202:=cJ
theorem apk:S.tree 250=t250:=cJ
theorem agB:S.tree 251=t251:=cJ
theorem agA:S.tree 300=afp:=cJ
theorem apj:S.tree 301=X2:=cJ
theorem api:S.tree 302=anI:=cJ
theorem agz:S.tree 350=afo:=cJ
theorem agy:S.tree 351=afn:=cJ
theorem aph:S.tree 400=jr:=cJ
theorem atZ:S.tree 450=arQ:=cJ
theorem apg:S.tree 451=anH:=cJ
theorem apf:S.tree 452=anG:=cJ
theorem ape:S.tree 453=anF:=cJ
theorem apd:S.tree 454=anE:=cJ
theorem apc:S.tree 455=anD:=cJ
theorem apb:S.tree 456=anC:=cJ
theorem apa:S.tree 500=afm:=cJ
theorem acC:S.tree 501=X1:=cJ
theorem atY:S.tree 550=afl:=cJ
theorem ao9:S.tree 551=anB:=cJ
theorem atX:S.tree 552=auJ:=cJ
theorem atW:S.tree 553=auI:=cJ
theorem atT:S.tree 600=arK:=cJ
theorem ao8:S.tree 650=anA:=cJ
theorem atS:S.tree 700=arJ:=cJ
theorem acw:S.tree 750=D!:=cJ
theorem atQ:S.tree 800=arI:=cJ
theorem atP:S.tree 850=arH:=cJ
theorem ao7:S.tree 851=afk:=cJ
theorem atO:S.tree 900=arG:=cJ
theorem atN:S.tree 950=arB:=cJ
theorem agx:S.tree 951=afj:=cJ
theorem agw:S.tree 952=afi:=cJ
theorem ab5:S.tree 953=NU:=cJ
theorem ab4:S.tree 954=NT:=cJ
theorem alx:S.tree 1000=ajU:=cJ
theorem W7:S.tree 1050=Vu:=cJ
theorem alw:S.tree 1100=ajT:=cJ
theorem alv:S.tree 1101=arR:=cJ
theorem adU:S.tree 1102=W!:=cJ
theorem alu:S.tree 1150=ajS:=cJ
theorem als:S.tree 1200=ajR:=cJ
theorem alr:S.tree 1250=ajQ:=cJ
theorem alq:S.tree 1300=ajP:=cJ
theorem alp:S.tree 1350=ajO:=cJ
theorem W6:S.tree 1400=Vt:=cJ
theorem adA:S.tree 1450=S_:=cJ
theorem ady:S.tree 1451=Vs:=cJ
theorem adx:S.tree 1452=Vr:=cJ
theorem alo:S.tree 1500=ajN:=cJ
theorem adu:S.tree 1501=R?:=cJ
theorem aln:S.tree 1550=ajM:=cJ
theorem alm:S.tree 1600=ajL:=cJ
theorem alk:S.tree 1650=ajK:=cJ
theorem adr:S.tree 1700=R_:=cJ
theorem alj:S.tree 1750=IW:=cJ
theorem adq:S.tree 1751=Q?:=cJ
theorem adp:S.tree 1800=Q!:=cJ
theorem ali:S.tree 1850=qS:=cJ
theorem Ec:S.tree 1950=yG:=cJ
theorem alh:S.tree 2050=ajJ:=cJ
theorem adl:S.tree 2051=P!:=cJ
theorem adk:S.tree 2052=P_:=cJ
theorem alg:S.tree 2450=ajI:=cJ
theorem ac6:S.tree 2451=N':=cJ
theorem alf:S.tree 2750=Vq:=cJ
theorem Kh:S.tree 2800=IV:=cJ
theorem ale:S.tree 2850=NZ:=cJ
theorem ald:S.tree 2900=Vp:=cJ
theorem ac5:S.tree 2950=N_:=cJ
theorem Eb:S.tree 2951=Dz:=cJ
theorem PK:S.tree 3000=NY:=cJ
theorem alc:S.tree 3050=ajH:=cJ
theorem ac4:S.tree 3051=M?:=cJ
theorem ac3:S.tree 3052=M!:=cJ
theorem ac2:S.tree 3053=IU:=cJ
theorem ac1:S.tree 3054=IT:=cJ
theorem ac0:S.tree 3055=IS:=cJ
theorem acZ:S.tree 3056=IQ:=cJ
theorem yV:S.tree 3100=wa:=cJ
theorem W5:S.tree 3150=Vo:=cJ
theorem PJ:S.tree 3151=Dy:=cJ
theorem W4:S.tree 3152=IP:=cJ
theorem alb:S.tree 3300=ajG:=cJ
theorem ala:S.tree 3550=ajF:=cJ
theorem acY:S.tree 3551=M_:=cJ
theorem ak9:S.tree 3800=ajE:=cJ
theorem acX:S.tree 3801=L?:=cJ
theorem W3:S.tree 3850=Vn:=cJ
theorem acW:S.tree 3851=L!:=cJ
theorem acV:S.tree 3852=L_:=cJ
theorem ak8:S.tree 3900=ajD:=cJ
theorem acU:S.tree 3901=Vm:=cJ
theorem ak7:S.tree 3950=ajC:=cJ
theorem ak6:S.tree 3951=K?:=cJ
theorem acT:S.tree 3952=K!:=cJ
theorem mu:S.tree 4000=mf:=cJ
theorem ak5:S.tree 4050=ajB:=cJ
theorem acS:S.tree 4051=K_:=cJ
theorem acR:S.tree 4052=J?:=cJ
theorem acQ:S.tree 4053=J!:=cJ
theorem acP:S.tree 4054=NX:=cJ
theorem ak4:S.tree 4100=J':=cJ
theorem acO:S.tree 4101=J_:=cJ
theorem ak3:S.tree 4150=ajA:=cJ
theorem ak2:S.tree 4200=ajz:=cJ
theorem Kg:S.tree 4250=IN:=cJ
theorem acN:S.tree 4300=I?:=cJ
theorem acM:S.tree 4301=I!:=cJ
theorem ak1:S.tree 4350=ajy:=cJ
theorem acL:S.tree 4351=I':=cJ
theorem ak0:S.tree 4400=ajx:=cJ
theorem acK:S.tree 4401=I_:=cJ
theorem akZ:S.tree 4450=ajw:=cJ
theorem akY:S.tree 4500=ajv:=cJ
theorem akX:S.tree 4550=aju:=cJ
theorem akW:S.tree 4600=ajt:=cJ
theorem akV:S.tree 4650=ajs:=cJ
theorem acJ:S.tree 4700=H?:=cJ
theorem W2:S.tree 4701=Vl:=cJ
theorem acI:S.tree 4702=H!:=cJ
theorem PI:S.tree 4703=NW:=cJ
theorem akU:S.tree 4750=H_:=cJ
theorem akT:S.tree 4800=ajr:=cJ
theorem acH:S.tree 4801=G?:=cJ
theorem acG:S.tree 4850=G!:=cJ
theorem W0:S.tree 4851=Vk:=cJ
theorem acF:S.tree 4852=G_:=cJ
theorem akS:S.tree 4900=ajq:=cJ
theorem acE:S.tree 4901=F?:=cJ
theorem akR:S.tree 4950=ajp:=cJ
theorem acD:S.tree 4951=F!:=cJ
theorem adj:S.tree 22000=O?:=cJ
theorem adi:S.tree 22001=O!:=cJ
theorem Ul:S.tree 22002=RR:=cJ
theorem adh:S.tree 22100=O':=cJ
theorem Uk:S.tree 22101=K0:=cJ
theorem Uj:S.tree 22150=RQ:=cJ
theorem adg:S.tree 22151=KZ:=cJ
theorem Ui:S.tree 22152=KY:=cJ
theorem adf:S.tree 22200=O_:=cJ
theorem Uh:S.tree 22201=FG:=cJ
theorem ade:S.tree 22250=N?:=cJ
theorem adb:S.tree 22251=KX:=cJ
theorem Ug:S.tree 22252=KW:=cJ
theorem Uf:S.tree 22300=RP:=cJ
theorem Ue:S.tree 22350=wg:=cJ
theorem Dg:S.tree 22400=jS:=cJ
theorem MB:S.tree 22500=KV:=cJ
theorem ada:S.tree 22750=RO:=cJ
theorem Ud:S.tree 22751=RN:=cJ
theorem ac9:S.tree 22800=N!:=cJ
theorem Uc:S.tree 22801=RM:=cJ
theorem Df:S.tree 22850=Cl:=cJ
theorem ac8:S.tree 22900=KU:=cJ
theorem Ub:S.tree 22901=RL:=cJ
theorem ac7:S.tree 22950=RJ:=cJ
theorem Hq:S.tree 23000=we:=cJ
theorem Ua:S.tree 23001=RI:=cJ
theorem tg:S.tree 23050=nt:=cJ
theorem T9:S.tree 23051=wc:=cJ
theorem T8:S.tree 23052=RG:=cJ
theorem T7:S.tree 23053=RF:=cJ
theorem MA:S.tree 23100=KS:=cJ
theorem Ho:S.tree 23101=wb:=cJ
theorem Mz:S.tree 23102=Ck:=cJ
theorem akQ:S.tree 5000=ajo:=cJ
theorem akP:S.tree 5050=ajn:=cJ
theorem acB:S.tree 5051=F_:=cJ
theorem akO:S.tree 5100=ajm:=cJ
theorem akN:S.tree 5101=arP:=cJ
theorem akM:S.tree 5150=ajl:=cJ
theorem akL:S.tree 5151=arO:=cJ
theorem akK:S.tree 5200=ajk:=cJ
theorem akJ:S.tree 5201=arN:=cJ
theorem akI:S.tree 5250=ajj:=cJ
theorem acA:S.tree 5251=E?:=cJ
theorem akH:S.tree 5300=aji:=cJ
theorem acz:S.tree 5301=E!:=cJ
theorem akG:S.tree 5350=ajh:=cJ
theorem acy:S.tree 5351=E_:=cJ
theorem adt:S.tree 16000=RV:=cJ
theorem akF:S.tree 5400=ajg:=cJ
theorem acx:S.tree 5401=D?:=cJ
theorem akE:S.tree 5450=ajf:=cJ
theorem akD:S.tree 5451=aje:=cJ
theorem akC:S.tree 5500=ajd:=cJ
theorem akB:S.tree 5501=ajc:=cJ
theorem atV:S.tree 5550=arM:=cJ
theorem atU:S.tree 5551=arL:=cJ
theorem akA:S.tree 5600=ajb:=cJ
theorem akz:S.tree 5601=aja:=cJ
theorem ads:S.tree 16050=R!:=cJ
theorem MD:S.tree 16051=K1:=cJ
theorem My:S.tree 24000=Cj:=cJ
theorem Mw:S.tree 24050=Ci:=cJ
theorem Uw:S.tree 12000=R8:=cJ
theorem MG:S.tree 12001=K6:=cJ
theorem adT:S.tree 12050=W_:=cJ
theorem Uv:S.tree 12051=K5:=cJ
theorem Uu:S.tree 12100=R7:=cJ
theorem MF:S.tree 12101=K4:=cJ
theorem adS:S.tree 12150=V?:=cJ
theorem Ut:S.tree 12151=K3:=cJ
theorem adR:S.tree 12200=V!:=cJ
theorem adQ:S.tree 12250=V_:=cJ
theorem adP:S.tree 12251=U?:=cJ
theorem adO:S.tree 12300=U!:=cJ
theorem adN:S.tree 12350=U':=cJ
theorem adM:S.tree 12351=U_:=cJ
theorem adL:S.tree 12400=T?:=cJ
theorem adK:S.tree 12450=T!:=cJ
theorem adJ:S.tree 12500=T_:=cJ
theorem adI:S.tree 12550=S?:=cJ
theorem adH:S.tree 12600=R6:=cJ
theorem adG:S.tree 12650=R5:=cJ
theorem adF:S.tree 12700=R4:=cJ
theorem adE:S.tree 12750=R3:=cJ
theorem Us:S.tree 12800=RZ:=cJ
theorem Ur:S.tree 12801=K2:=cJ
theorem Uq:S.tree 12850=RY:=cJ
theorem ME:S.tree 12851=FH:=cJ
theorem adC:S.tree 14000=Cn:=cJ
theorem adz:S.tree 14500=jT:=cJ
theorem adB:S.tree 14050=RX:=cJ
theorem adw:S.tree 14550=oy:=cJ
theorem adv:S.tree 15000=wi:=cJ
theorem Up:S.tree 15001=RW:=cJ
theorem Uo:S.tree 15002=Cm:=cJ
theorem ado:S.tree 20000=Q':=cJ
theorem adn:S.tree 20001=Q_:=cJ
theorem adm:S.tree 20050=P?:=cJ
theorem Un:S.tree 20051=RU:=cJ
theorem Um:S.tree 20052=RT:=cJ
theorem adD:S.tree 12900=S!:=cJ
end Go.As.Try
end
section
namespace Go.As.Try
open Go hiding Stat Spec shape
open Go.As Go.Proofs
set_option maxRecDepth 100000
structure PT where
 j:Nat
 t:T Lf
 e:S.tree j=t
def pT {j:Nat} {t:T Lf} (e:S.tree j=t):PT:=⟨j,t,e⟩
noncomputable def trees:List PT:=[pT acv,pT WZ,pT aky,pT akx,pT acu,pT acs,pT acr,pT acq,pT acp,pT aco,pT acn,pT acm,pT akw,pT akv,pT aku,pT akt,pT akr,pT akq,pT PH,pT akp,pT ako,pT PG,pT akn,pT akm,pT PF,pT akl,pT akk,pT ack,pT acj,pT aci,pT ach,pT acg,pT acf,pT ace,pT acd,pT acb,pT aca,pT ab9,pT ab8,pT PE,pT WY,pT WX,pT ab7,pT ab6,pT PD,pT at0,pT agF,pT agE,pT apn,pT apm,pT agD,pT apl,pT MC,pT agC,pT apk,pT agB,pT agA,pT apj,pT api,pT agz,pT agy,pT aph,pT atZ,pT apg,pT apf,pT ape,pT apd,pT apc,pT apb,pT apa,pT acC,pT atY,pT ao9,pT atX,pT atW,pT atT,pT ao8,pT atS,pT acw,pT atQ,pT atP,pT ao7,pT atO,pT atN,pT agx,pT agw,pT ab5,pT ab4,pT alx,pT W7,pT alw,pT alv,pT adU,pT alu,pT als,pT alr,pT alq,pT alp,pT W6,pT adA,pT ady,pT adx,pT alo,pT adu,pT aln,pT alm,pT alk,pT adr,pT alj,pT adq,pT adp,pT ali,pT Ec,pT alh,pT adl,pT adk,pT alg,pT ac6,pT alf,pT Kh,pT ale,pT ald,pT ac5,pT Eb,pT PK,pT alc,pT ac4,pT ac3,pT ac2,pT ac1,pT ac0,pT acZ,pT yV,pT W5,pT PJ,pT W4,pT alb,pT ala,pT acY,pT ak9,pT acX,pT W3,pT acW,pT acV,pT ak8,pT acU,pT ak7,pT ak6,pT acT,pT mu,pT ak5,pT acS,pT acR,pT acQ,pT acP,pT ak4,pT acO,pT ak3,pT ak2,pT Kg,pT acN,pT acM,pT ak1,pT acL,pT ak0,pT acK,pT akZ,pT akY,pT akX,pT akW,pT akV,pT acJ,pT W2,pT acI,pT PI,pT akU,pT akT,pT acH,pT acG,pT W0,pT acF,pT akS,pT acE,pT akR,pT acD,pT adj,pT adi,pT Ul,pT adh,pT Uk,pT Uj,pT adg,pT Ui,pT adf,pT Uh,pT ade,pT adb,pT Ug,pT Uf,pT Ue,pT Dg,pT MB,pT ada,pT Ud,pT ac9,pT Uc,pT Df,pT ac8,pT Ub,pT ac7,pT Hq,pT Ua,pT tg,pT T9,pT T8,pT T7,pT MA,pT Ho,pT Mz,pT akQ,pT akP,pT acB,pT akO,pT akN,pT akM,pT akL,pT akK,pT akJ,pT akI,pT acA,pT akH,pT acz,pT akG,pT acy,pT adt,pT akF,pT acx,pT akE,pT akD,pT akC,pT akB,pT atV,pT atU,pT akA,pT akz,pT ads,pT MD,pT My,pT Mw,pT Uw,pT MG,pT adT,pT Uv,pT Uu,pT MF,pT adS,pT Ut,pT adR,pT adQ,pT adP,pT adO,pT adN,pT adM,pT adL,pT adK,pT adJ,pT adI,pT adH,pT adG,pT adF,pT adE,pT Us,pT Ur,pT Uq,pT ME,pT adC,pT adz,pT adB,pT adw,pT adv,pT Up,pT Uo,pT ado,pT adn,pT adm,pT Un,pT Um,pT adD]
theorem w_:trees.all (fun p=>QV [] p.t)=true:=aa
theorem apv:alz (JQ 482 feT) 482 (trees.map PT.j)=true:=aa
theorem ae9 (j:Nat):QV [] (S.tree j)=true:=by
 cases h:vB St.t j with
 |none=>exact XX (S:=St) h
 |some e=> obtain⟨p,hp,rfl⟩:=aQ.1 (cov apv (fun k hk=>aaY hk) h);rw [p.e];exact aP.1 w_ p hp
noncomputable def L:pS:=qC S.tree
theorem bB (j:Nat) (xs:List Int):L j xs=fin L (eA (df L (low xs)) (S.tree j)):=aoc ae9 j xs
end Go.As.Try
end
section
namespace Go.As.Try
open Go hiding Stat
open Go.As Go.Proofs Go.RowKit Go.ChangeShapes Go.WideShapes Go.ChangeAt
open Go.Proofs.YteclpbehflfjiacGreatDoor
set_option maxRecDepth 100000
theorem own:ownKnob Tryz.prog.godebug=none:=aa
theorem laidOut:laidOutB Tryz.prog=true:=aa
def aax:TypeId->Option Nat:=D5 (asj.take 12)
def ownB (P:Program) (own:TypeId->Option Nat) (l:List (Nat×Nat)):Bool:=l.all fun p=>match P.underlying p.1 with
 |some (.slice e)=>decide (tW P own 8 e=some (lI p.2))&&Nat.beq (P.cellsOf e) (lI p.2).length&&Nat.ble (l4 p.2) (P.bytesOf e)&&Nat.ble 1 (lI p.2).length
 |_=>false
theorem J7 {t i:Nat}: ∀{l:List (Nat×Nat)},D5 l t=some i->(t,i)∈l
 |[],h=>by simp [D5] at h
 |(a,k)::l,h=>by
  unfold D5 at h;split at h
  ·rename_i hb;have:=ay hb;simp only [ah] at h;subst this h;simp
  ·exact aw3 _ (J7 h)
theorem afQ {P:Program} {l:List (Nat×Nat)} (h:ownB P (D5 l) l=true):aeN P (D5 l):=by
 intro t i hU;have:=aP.1 h _ (J7 hU);simp only at this;split at this
 ·rename_i e he;simp only [an,decide_eq_true_eq] at this;exact⟨e,8,he,this.1.1.1,ay this.1.1.2,awS this.1.2,awS this.2⟩
 ·simp at this
theorem afO:aeN Tryz.prog aax:=afQ aa
theorem agk {Z!:World} (h:Z!.ShapedOpen Tryz.prog):base.ok (Sr Z!) Z!.heap:=by obtain⟨m,hm⟩:=LaysM.n144.s1_3 Tryz.laysM144 Z! h;exact⟨Xt hm,m,by rw [<- pO]; exact hm⟩
def V4:DataW Unit->Value
 | .lit (.int k n)=> .int k n
 |_=>undef
def apw:DataW Unit->Array Value
 | .agg l=>(l.map V4).toArray
 |d=> #[V4 d]
def asB (d:DataW Unit):Obj->Obj
 | .cells _ t f=> .cells (apw d) t f
 |o=>o
noncomputable def aod (h:Array Obj) (x:String×DataW Unit):Array Obj:=match Tryz.prog.globalNamed x.1 with
 |some g=>h.modify g (asB x.2)
 |none=>h
noncomputable def CW (os:Os):World:=
 { World.holding Tryz.prog os ⟨#[],#[],[]⟩ with heap:=Rows.kendoTellsRow.laid.foldl aod (World.holding Tryz.prog os ⟨#[],#[],[]⟩).heap }
theorem ua {ro:Nat->Prop} {h:Array Obj} {i:Nat} {d:D} {v:Value} (r:Rd ro h (.sl i) d v):xC ro h (.sl i) (enc d) v:=by show Rd ro h (.sl i) (dec (enc d)) v;rw [bG];exact r
theorem aeD {ro:Nat->Prop} {h:Array Obj} {u:Value} (a:ag2 [.one .bool] [1] ro h u):u= .bool true:=by
 obtain⟨us,fl,hs,hc,hu⟩:=a
 cases hs with
 |one c v hs=> cases hs;simp only [qu,RK.flat,awU,aK,aw] at hc;obtain⟨n,ns',u',iz,U,Z,h3,h4⟩:=hc;simp only [List.cons.injEq] at U Z;obtain⟨rfl,_⟩:=U;obtain⟨rfl,_⟩:=Z;rw [hu];exact h3
theorem aek {g j:Nat} {e:Es} (hn:j∈S.Eu g) (he:S.cN j=some e) (hp:e.pat=none) (hr:e.mb= [.one .bool]) {xs:List Int} (hL:L j xs=some [1]) {Z!:World} (Ag:Z!.ShapedOpen Tryz.prog) {vals fl:List Value} (U:Shape e.HU vals fl) (Z:ik (Sr Z!) Z!.heap (qu e.HU) xs fl) :
 Calls Tryz.prog g vals.toArray Z! fun en W'=>en= .returned (.bool true)/\Below Z!.heap.size Z! W':=by
 obtain⟨n,mK⟩:=LH hL;refine (W? anJ hn he hp n xs [1] mK (Sr Z!) Z! vals fl (fun _ h=>h) (agk Ag) U Z).mono fun en W' ⟨u,hu,hb,oW,_,_,_,ha⟩=>?_;rw [hr] at ha;rw [aeD ha] at hu;exact⟨hu,hb⟩
end Go.As.Try
end
section
namespace Go.As
def prune (Z' N:List SB):T Lf->T Lf
 | .fail=> .fail
 | .ret l=> .ret l
 | .split c x y=>match Z'.contains c with
   |true=>prune Z' N x
   |false=>match N.contains c with
    |true=>prune Z' N y
    |false=> .split c (prune Z' N x) (prune Z' N y)
def zY (ρ:Nat->Int):List SB->Prop
 |[]=>True
 |c::l=>c.den ρ=true/\zY ρ l
def zW (ρ:Nat->Int):List SB->Prop
 |[]=>True
 |c::l=> ¬c.den ρ=true/\zW ρ l
theorem m? {ρ:Nat->Int}: ∀{l:List SB},zY ρ l->∀c∈l,c.den ρ=true
 |[],_,c,h=>by simp at h
 |a::l,hz,c,h=>by
  rcases aF.1 h with rfl|h
  ·exact hz.1
  ·exact m? hz.2 c h
theorem n? {ρ:Nat->Int}: ∀{l:List SB},zW ρ l->∀c∈l,c.den ρ=false
 |[],_,c,h=>by simp at h
 |a::l,hz,c,h=>by
  rcases aF.1 h with rfl|h
  ·simpa using hz.1
  ·exact n? hz.2 c h
theorem n_ {ρ:Nat->Int}: ∀{a b:List SB},zY ρ a->zY ρ b->zY ρ (a++b)
 |[],_,_,h=>h
 |_::_,_,h,h'=> ⟨h.1,n_ h.2 h'⟩
theorem o_ {ρ:Nat->Int}: ∀{a b:List SB},zW ρ a->zW ρ b->zW ρ (a++b)
 |[],_,_,h=>h
 |_::_,_,h,h'=> ⟨h.1,o_ h.2 h'⟩
theorem dK {ρ:Nat->Int} {Z' N:List SB} (h:zY ρ Z'/\zW ρ N): ∀t,eA ρ (prune Z' N t)=eA ρ t
 | .fail=>rfl
 | .ret l=>rfl
 | .split c x y=>by
   simp only [prune,eA];split
   ·rename_i h';rw [m? h.1 c (ayK.1 h'),ag rfl];exact dK h x
   ·split
    ·rename_i h';rw [n? h.2 c (ayK.1 h'),af ad];exact dK h y
    ·simp only [eA,dK h x,dK h y]
theorem cg {ρ:Nat->Int} (Z' N:List SB) {t:T Lf} {R:RS} (u:T Lf) (h:zY ρ Z'/\zW ρ N) (k:prune Z' N t=u) (h':eA ρ u=R):eA ρ t=R:=by rw [<- dK h t,k,h']
theorem zz :
 (∀{ρ:Nat->Int} (c:SB) (a b:T Lf),eA ρ (sp c a b)=if c.den ρ=true then eA ρ a else eA ρ b)/\
 (∀{ρ:Nat->Int} (l:List W),eA ρ (ou l)= .out (l.map (W.den ρ)))/\
 (∀{ρ:Nat->Int} (j:Nat) (l:List W),eA ρ (ju j l)= .jump j (l.map (W.den ρ)))/\
 (∀{ρ:Nat->Int},eA ρ fl= .no)/\
 (∀{ρ:Nat->Int} (a b:W),((SB.lt a b).den ρ=true)=(a.den ρ<b.den ρ))/\
 (∀{ρ:Nat->Int} (a b:W),((SB.eq a b).den ρ=true)=(a.den ρ=b.den ρ))/\
 (∀(F:pS) (lo:Nat->Int),(W.dH 0).den (df F lo)=lo 0)/\
 (∀(F:pS) (lo:Nat->Int),(W.dH 1).den (df F lo)=lo 1)/\
 (∀(F:pS) (lo:Nat->Int),(W.dH 2).den (df F lo)=lo 2)/\
 (∀(F:pS) (lo:Nat->Int),(W.dH 3).den (df F lo)=lo 3)/\
 (∀(F:pS) (lo:Nat->Int),(W.dH 4).den (df F lo)=lo 4)/\
 (∀(F:pS) (lo:Nat->Int),(W.dH 5).den (df F lo)=lo 5)/\
 (∀(F:pS) (lo:Nat->Int),(W.dH 6).den (df F lo)=lo 6)/\
 (∀(F:pS) (lo:Nat->Int),(W.dH 7).den (df F lo)=lo 7)/\
 (∀(F:pS) (lo:Nat->Int),(W.dH 8).den (df F lo)=lo 8)/\
 (∀(F:pS) (lo:Nat->Int),(W.dH 9).den (df F lo)=lo 9)/\
 (∀(F:pS) (lo:Nat->Int),(W.dH 10).den (df F lo)=lo 10)/\
 (∀(F:pS) (lo:Nat->Int),(W.dH 11).den (df F lo)=lo 11)/\
 (∀(F:pS) (lo:Nat->Int),(W.dH 12).den (df F lo)=lo 12)/\
 (∀(F:pS) (lo:Nat->Int),(W.dH 13).den (df F lo)=lo 13)/\
 (∀(F:pS) (lo:Nat->Int),(W.dH 14).den (df F lo)=lo 14)/\
 (∀(F:pS) (lo:Nat->Int),(W.dH 15).den (df F lo)=lo 15)/\
 (∀(F:pS) (lo:Nat->Int),(W.dH 16).den (df F lo)=lo 16)/\
 (∀(F:pS) (lo:Nat->Int),(W.dH 17).den (df F lo)=lo 17)/\
 (∀(F:pS) (lo:Nat->Int),(W.dH 18).den (df F lo)=lo 18)/\
 (∀(F:pS) (lo:Nat->Int),(W.dH 19).den (df F lo)=lo 19)/\
 (∀(F:pS) (lo:Nat->Int),(W.dH 20).den (df F lo)=lo 20)/\
 (∀(F:pS) (lo:Nat->Int),(W.dH 21).den (df F lo)=lo 21)/\
 (∀(F:pS) (lo:Nat->Int),(W.dH 22).den (df F lo)=lo 22)/\
 (∀(F:pS) (lo:Nat->Int),(W.dH 23).den (df F lo)=lo 23)/\
 (∀(F:pS) (lo:Nat->Int),(W.dH 24).den (df F lo)=lo 24)/\
 (∀(F:pS) (lo:Nat->Int),(W.dH 25).den (df F lo)=lo 25)/\
 (∀{ρ:Nat->Int} (n:Int),(W.lit n).den ρ=n)/\
 (∀{ρ:Nat->Int} (d:D),(W.eS d).den ρ=enc d)/\
 (∀{ρ:Nat->Int} (a:W),(ln a).den ρ=((dec (a.den ρ)).l.length:Int))/\
 (∀{ρ:Nat->Int} (a:W),(nm a).den ρ=(dec (a.den ρ)).n)/\
 (∀{ρ:Nat->Int} (j:Nat) (a:W),(ce j a).den ρ=enc ((dec (a.den ρ)).V j))/\
 (∀{ρ:Nat->Int} (a b:W),(el a b).den ρ=enc ((dec (a.den ρ)).at (b.den ρ)))/\
 (∀{ρ:Nat->Int} (a b:W),(cn a b).den ρ=enc (.p (dec (a.den ρ)) (dec (b.den ρ))))/\
 (∀{ρ:Nat->Int} (a:W),(mk a).den ρ=enc (.i (a.den ρ)))/\
 (∀{ρ:Nat->Int} (a:W),(wr a).den ρ=IntKind.i64.wrap (a.den ρ))/\
 (∀{ρ:Nat->Int} (a b:W),(W.add a b).den ρ=a.den ρ+b.den ρ)/\
 (∀{ρ:Nat->Int} (a b:W),(W.sub a b).den ρ=a.den ρ-b.den ρ)/\
 (∀{ρ:Nat->Int} (o:gQ) (a b:W),(W.op o a b).den ρ=o.den (a.den ρ) (b.den ρ))/\
 (∀{F:pS} {lo:Nat->Int} (j:Nat) (l:List W),(a0 j l).den (df F lo)=if (F j (l.map (W.den (df F lo)))).isSome=true then 1 else 0)/\
 (∀{F:pS} {lo:Nat->Int} (j:Nat) (l:List W) (i:Nat),(rr j l i).den (df F lo)=low ((F j (l.map (W.den (df F lo)))).getD []) i)/\
 (∀{x:Int} {xs:List Int},low (x::xs) 0=x)/\
 (∀{x:Int} {xs:List Int} {i:Nat},low (x::xs) (i+1)=low xs i)/\
 (∀{f:W->Int},List.map f []= [])/\
 (∀{f:W->Int} {a:W} {l:List W},List.map f (a::l)=f a::List.map f l)/\
 (∀d:D,dec (enc d)=d)/\
 (∀n:Int,(D.i n).n=n)/\
 (∀{α:Type} (a:α),(some a).isSome=true)/\
 (∀{α:Type} (a b:α),(some a).getD b=a)/\
 (∀{α:Type} {_:Decidable True} (a b:α),ite True a b=a)/\
 (∀{α:Type} {_:Decidable False} (a b:α),ite False a b=b)/\
 (∀{ρ:Nat->Int},zY ρ []=True)/\
 (∀{ρ:Nat->Int} (c:SB) (l:List SB),zY ρ (c::l)=(c.den ρ=true/\zY ρ l))/\
 (∀{ρ:Nat->Int},zW ρ []=True)/\
 (∀{ρ:Nat->Int} (c:SB) (l:List SB),zW ρ (c::l)=(¬c.den ρ=true/\zW ρ l))/\
 (∀x y:Int,gQ.den .len x y=((dec x).l.length:Int))/\
 (∀x y:Int,gQ.den .at x y=enc ((dec x).at y))/\
 (∀(x y:Int) (j:Nat),gQ.den (.cell j) x y=enc ((dec x).V j))/\
 (∀x y:Int,gQ.den .num x y=(dec x).n)/\
 (∀x y:Int,gQ.den .mk x y=enc (.i x))/\
 (∀x y:Int,gQ.den .cons x y=enc (.p (dec x) (dec y)))/\
 (∀x y:Int,gQ.den .snoc x y=enc (dL ((dec x).l++ [dec y])))/\
 (∀x y:Int,gQ.den .cat x y=enc (dL ((dec x).l++(dec y).l)))/\
 (∀x y:Int,gQ.den .take x y=enc (fu (dec x) ((dec x).l.take y.toNat)))/\
 (∀x y:Int,gQ.den .drop x y=enc (fu (dec x) ((dec x).l.drop y.toNat)))/\
 (∀(x:Int) (q v:D),gQ.den .set x (enc (.p q v))=enc (dL (dg (dec x).l q.n v)))/\
 (∀x y:Int,gQ.den .bit x y=enc (.i (if (dec x).n=0 then 0 else 1)))/\
 (∀x y:Int,gQ.den .norm x y=enc (dec x))/\
 (∀x y:Int,gQ.den .Ev x y=if (kU (dec x).l (dec y)).isSome then 1 else 0)/\
 (∀x y:Int,gQ.den .Ew x y=enc ((kU (dec x).l (dec y)).getD (.i 0)))/\
 (∀(x:Int) (k v:D),gQ.den .OE x (enc (.p k v))=enc (dL (vF (dec x).l k v)))/\
 (∀x y:Int,gQ.den .rep x y=enc (dL (List.replicate x.toNat (dec y))))/\
 (∀(x:Int) (q v:D),gQ.den .fill x (enc (.p q v))=enc (dL ((dec x).l.take q.n.toNat++List.replicate ((dec x).l.length-q.n.toNat) v)))/\
 (∀x y:Int,gQ.den .sub x y=enc (dL (((dec x).l.take ((dec y).V 1).n.toNat).drop ((dec y).V 0).n.toNat)))/\
 (∀x y:Int,gQ.den .idx x y=HD (dec x).l y)/\
 (∀x y:Int,gQ.den .cnt x y=ad7 (dec x).l y)/\
 (∀x y:Int,gQ.den .con x y=if BO (dec x).l (dec y).l then 1 else 0)/\
 (∀x y:Int,gQ.den .slt x y=if PM (dec x).l (dec y).l then 1 else 0)/\
 (∀x y:Int,gQ.den .SS x y=enc (dL (LB (dec x).l (dec y))))/\
 (∀p:Prop,(p/\True)=p)/\(∀p:Prop,(True/\p)=p)/\(¬False)=True:=
 ⟨eO,oz,lS,Co,tB,pw,fun _ _=>cE ae,fun _ _=>cE ae,fun _ _=>cE ae,fun _ _=>cE ae,fun _ _=>cE ae,fun _ _=>cE ae,fun _ _=>cE ae,fun _ _=>cE ae,fun _ _=>cE ae,fun _ _=>cE ae,fun _ _=>cE ae,fun _ _=>cE ae,fun _ _=>cE ae,fun _ _=>cE ae,fun _ _=>cE ae,fun _ _=>cE ae,fun _ _=>cE ae,fun _ _=>cE ae,fun _ _=>cE ae,fun _ _=>cE ae,fun _ _=>cE ae,fun _ _=>cE ae,fun _ _=>cE ae,fun _ _=>cE ae,fun _ _=>cE ae,fun _ _=>cE ae,eY,mC,ky,Hu,adY,Hw,ML,MK,xi,den_add,agM,MJ,rG,oS,cT _,cZ _ _,rfl,rfl,bG,zw,fun _=>rfl,fun _ _=>rfl,fun _ _=>ag trivial,fun _ _=>af id,rfl,fun _ _=>rfl,rfl,fun _ _=>rfl,fun _ _=>rfl,fun _ _=>rfl,fun _ _ _=>rfl,fun _ _=>rfl,fun _ _=>rfl,fun _ _=>rfl,fun _ _=>rfl,fun _ _=>rfl,fun _ _=>rfl,fun _ _=>rfl,fun _ _ _=>by show (match dec (enc _) with | .p q v=>_|_=>_)=_; rw [bG],fun _ _=>rfl,fun _ _=>rfl,fun _ _=>rfl,fun _ _=>rfl,fun _ _ _=>by show (match dec (enc _) with | .p q v=>_|_=>_)=_; rw [bG],fun _ _=>rfl,fun _ _ _=>by show (match dec (enc _) with | .p q v=>_|_=>_)=_; rw [bG],fun _ _=>rfl,fun _ _=>rfl,fun _ _=>rfl,fun _ _=>rfl,fun _ _=>rfl,fun _ _=>rfl,and_true,true_and,not_false_eq_true⟩
theorem zg:(∀(l:List D) (j:Nat),(dL l).V j=(l[j]?).getD (.i 0))/\(∀(a:D) (l:List D),(a::l)[0]?=some a)/\(∀(a:D) (l:List D) (i:Nat),(a::l)[i+1]?=l[i]?):=⟨dN,fun _ _=>rfl,fun _ _ _=>rfl⟩
end Go.As
end
section
namespace Go.As.Try
open Go hiding Stat Spec shape
open Go.As
set_option maxRecDepth 100000
section
variable {p:List Int->Prop} {j:Nat} {xs:List Int} {a b:Int}
def Ends (p:List Int->Prop) (R:RS):Prop:= ∃ys,fin L R=some ys/\p ys
def bK (j:Nat) (xs:List Int) (p:List Int->Prop):Prop:= ∃ys,L j xs=some ys/\p ys
theorem bK.of (h:Ends p (eA (df L (low xs)) (S.tree j))):bK j xs p:=by obtain⟨ys,U,Z⟩:=h;exact⟨ys,by rw [bB]; exact U,Z⟩
theorem Ends.ite {c:Prop} [Decidable c] {a b:RS} (U:c->Ends p a) (Z: ¬c->Ends p b):Ends p (if c then a else b):=by
 grind
theorem Ends.out {ys:List Int} (h:p ys):Ends p (.out ys):=⟨ys,rfl,h⟩
theorem Ends.jump (h:bK j xs p):Ends p (.jump j xs):=h
def vG (ys:List Int):Prop:= ∃c:Int,ys= [c]/\(c=0\/c=1)
theorem zD:vG [0]:=⟨0,rfl,.inl rfl⟩
theorem sV:vG [1]:=⟨1,rfl,.inr rfl⟩
def fe (x:D):D:=dL [.i (-1),.i (if (x.V 0).n=3\/(x.V 0).n=9 then (x.V 2).n else 0),.i 0,.i 0,.i 1,.i 1]
theorem HS (d0:D) (hlen:d0.l.length<=64): ∀(k i:Nat) (acc:List D),i+k=d0.l.length->acc.length=i->
 L 302 [enc (dL acc),enc d0,(d0.l.length:Int),(i:Int)]=some [enc (dL (acc++(d0.l.drop i).map fe))]
 |0,i,acc,U,Z=>by
  rw [bB,api];simp only [anI,eO,oz,tB,cE,cT,cZ,Nat.reduceLT,fin,List.map]
  grind
 |k+1,i,acc,U,Z=>by
  have hi:i<d0.l.length:=J
  have V:d0.l.drop i=d0.l[i]::d0.l.drop (i+1):=aG hi;have ih:=fun x=>HS d0 hlen k (i+1) (acc++ [x]) J (by simp [Z]);rw [bB,api,V];simp only [anI,eO,oz,lS,Co,tB,pw,cE,ky,eY,Hu,adY,Hw,MJ,ML,MK,mC,xi,den_add,cT,cZ,Nat.reduceLT,List.map,bG,bz,bF hi];have w:=bx (n:=i) J;have c1:(i:Int)<(d0.l.length:Int):=J
  have c2: ¬((i:Int)<0):=J
  have c3:(acc.length:Int)<1759218604440:=J
  simp only [c1,c2,c3,w,if_true,if_false,fin,gQ.den,bG,bz];by_cases h3:(d0.l[i].V 0).n=3
  ·simp only [h3,if_true,fin];have:=ih (fe d0.l[i]);simp only [fe,h3,true_or,if_true,dL] at this ⊢
   grind
  ·by_cases h9:(d0.l[i].V 0).n=9
   ·simp only [af h3,ag h9,fin];have:=ih (fe d0.l[i]);simp only [fe,ag (Or.inr h9:(d0.l[i].V 0).n=3\/(d0.l[i].V 0).n=9),dL] at this ⊢
    grind
   ·simp only [af h3,af h9,fin];have:=ih (fe d0.l[i]);simp only [fe,h3,h9,or_self,if_false,dL] at this ⊢
    grind
end
section
variable {d:D} {l:List D}
def Bs (d:D):Prop:=d=dL d.l/\∀(i:Nat) (h:i<d.l.length),0<=(d.l[i]).n/\(d.l[i]).n<256
theorem DR (d:D) (hb:Bs d) (hlen:d.l.length<=1000000): ∀(k i:Nat) (n:Int),i+k=d.l.length->∃a b,L 1102 [n,enc d,(d.l.length:Int),(i:Int)]=some [a,b]
 |0,i,n,U=>by rw [bB,adU];simp only [W!,eO,oz,tB,cE,cT,cZ,Nat.reduceLT,List.map,eY];rw [af J];exact⟨_,_,rfl⟩
 |k+1,i,n,U=>by
  have hi:i<d.l.length:=J
  have ih:=fun x=>DR d hb hlen k (i+1) x J;rw [bB,adU];have w:=bx (n:=i) J;have c1:(i:Int)<(d.l.length:Int):=J
  have c2: ¬((i:Int)<0):=J
  simp only [W!,eO,oz,lS,Co,tB,cE,cT,cZ,Nat.reduceLT,List.map,eY,ky,bG,c1,c2,if_true,if_false,xi,den_add,w];split
  ·exact⟨_,_,rfl⟩
  ·exact ih _
theorem SK (d:D) (hb:Bs d) (hlen:d.l.length<=1000000): ∃a b,L 1100 [enc d]=some [a,b]:=by
 rw [bB,alw];simp only [ajT,eO,lS,pw,cE,cT,cZ,Nat.reduceLT,List.map,eY,ky,bG];split
 ·show ∃a b,L 1101 []=some [a,b];rw [bB,alv];exact⟨_,_,rfl⟩
 ·exact DR d hb hlen d.l.length 0 _ J
theorem Kl (z:Int): ∀(l:List D) (i:Nat),sI z l (i:Int)= -1\/((i:Int)<=sI z l i/\sI z l i<(i:Int)+l.length)
 |[],i=> .inl rfl
 |d::l,i=>by
  have ih:=Kl z l (i+1);have hc:((i+1:Nat):Int)=(i:Int)+1:=J
  rw [hc] at ih;have Y:((d::l).length:Int)=(l.length:Int)+1:=ad
  cases d with
  |i n=>
   simp only [sI]
   grind
  |p a b=>
   simp only [sI]
   grind
theorem ad6 {z:Int} (h:d≠.i z) (h0: ¬HD (d::l) z<0):1<=HD (d::l) z/\HD (d::l) z<(l.length:Int)+1:=by
 have U:=Kl z l 1
 have key:HD (d::l) z=sI z l ((1:Nat):Int):=by
  unfold HD
  cases d with
  |i n=>
   simp only [sI]
   grind
  |p a b=>rfl
 grind
theorem at3:(b0.at 10).n=1:=by show (b0.at ((10:Nat):Int)).n=1;kernel_rfl
theorem xp (d:D) (hb:Bs d) (hlen:d.l.length<=1000000) (x1:Int): ∀(k i:Nat),d.l.length-i<=k->i<=d.l.length->∃p:Nat,p<=d.l.length/\L 12801 [enc d,x1,(i:Int)]=some [0,enc d,x1,(p:Int)]
 |k,i,U,Z=>by
  rw [bB,Ur];have c2: ¬((i:Int)<0):=J
  by_cases hi:i<d.l.length
  ·have c1:(i:Int)<(d.l.length:Int):=J
   have w:=bx (n:=i) J;obtain⟨b1,b2⟩:=hb.2 i hi;have b1: ¬(d.l[i]).n<0:=J
   obtain⟨k,rfl⟩ : ∃k',k=k'+1:=⟨k-1,J⟩;have C3:(d.l.take d.l.length).drop i=d.l[i]::d.l.drop (i+1):=by rw [axM,aG hi]
   simp only [K2,eO,oz,lS,Co,tB,pw,cE,cT,cZ,Nat.reduceLT,List.map,eY,mC,ky,bG,c1,c2,if_true,if_false,xi,den_add,w,Hu,Hw,bF hi,b1,b2];by_cases q1:(b0.at (d.l[i]).n).n=1
   ·simp only [q1,if_true];exact xp d hb hlen x1 k (i+1) J J
   ·by_cases q2:(b0.at (d.l[i]).n).n=2
    ·simp only [af q1,ag q2]
     have jK:d.l[i]≠.i 10:=by intro h;rw [h] at q1;exact q1 at3
     simp only [aL,if_false,MJ,gQ.den,ML,MK,mC,ky,cE,eY,cT,cZ,Nat.reduceLT,bG,D.V,ZT,pQ,zw,az,aA,ax,aW,bz,C3];split
     ·exact⟨d.l.length,au _,by simp [fin]⟩
     ·rename_i h0;obtain⟨g1,g2⟩:=ad6 jK h0;rw [bp] at g2;obtain⟨m,hm⟩ : ∃m:Nat,HD (d.l[i]::d.l.drop (i+1)) 10=(m:Int):=⟨(HD (d.l[i]::d.l.drop (i+1)) 10).toNat,J⟩;have w2:IntKind.i64.wrap ((i:Int)+(m:Int))=((i+m:Nat):Int):=by rw [fg J J]; omega
      simp only [hm,w2,fin];exact xp d hb hlen x1 k (i+m) J J
    ·simp only [af q1,af q2];exact⟨i,J,rfl⟩
  ·have c1: ¬(i:Int)<(d.l.length:Int):=J
   simp only [K2,eO,oz,tB,cE,cT,cZ,Nat.reduceLT,List.map,eY,ky,bG,c1,if_false];exact⟨i,J,rfl⟩
theorem UF (d:D) (hb:Bs d) (hlen:d.l.length<=1000000) (i:Nat) (hi:i<=d.l.length): ∃p:Nat,p<=d.l.length/\L 12800 [enc d,(i:Int)]=some [0,enc d,(i:Int),(p:Int)]:=by rw [bB,Us];simp only [RZ,lS,cE,cT,cZ,Nat.reduceLT,List.map];exact xp d hb hlen _ _ i (au _) hi
theorem Ke (d:D) (hb:Bs d) (hlen:d.l.length<=1000000) (x1 x2:Int): ∀(k i:Nat),d.l.length-i<=k->i<=d.l.length->∃p:Nat,i<=p/\p<=d.l.length/\L 12851 [enc d,x1,x2,(i:Int)]=some [0,enc d,x1,(p:Int)]
 |k,i,U,Z=>by
  rw [bB,ME];have c2: ¬((i:Int)<0):=J
  by_cases hi:i<d.l.length
  ·have c1:(i:Int)<(d.l.length:Int):=J
   have w:=bx (n:=i) J;obtain⟨b1,b2⟩:=hb.2 i hi;have b1: ¬(d.l[i]).n<0:=J
   obtain⟨k,rfl⟩ : ∃k',k=k'+1:=⟨k-1,J⟩
   have ih: ∃p:Nat,i<=p/\p<=d.l.length/\L 12851 [enc d,x1,x2,((i+1:Nat):Int)]=some [0,enc d,x1,(p:Int)]:=by
    obtain⟨p,q1,q2,q3⟩:=Ke d hb hlen x1 x2 k (i+1) J J
    grind
   simp only [FH,eO,oz,lS,Co,tB,pw,cE,cT,cZ,Nat.reduceLT,List.map,eY,mC,ky,bG,c1,c2,if_true,if_false,xi,den_add,w,Hu,Hw,bF hi,b1,b2];split
   ·exact ih
   ·split
    ·split
     ·exact ih
     ·exact j!
    ·exact j!
  ·have c1: ¬(i:Int)<(d.l.length:Int):=J
   simp only [FH,eO,oz,tB,cE,cT,cZ,Nat.reduceLT,List.map,eY,ky,bG,c1,if_false];exact j!
theorem af0 {a b:D} (h:enc (dL l)=enc (.p a (.p b (.i 0)))):l.length=2:=by have:=congrArg (fun d=>d.l.length) (ff h);simpa [D.l] using this
theorem abZ (d:D) (hb:Bs d) (hlen:d.l.length<=1000000) (i:Nat) (hi:i<d.l.length): ∃p:Nat,i<p/\p<=d.l.length/\L 12850 [enc d,(i:Int)]=some [0,enc d,(i:Int),(p:Int)]:=by
 have c2: ¬((i:Int)<0):=J
 have c1:(i:Int)<(d.l.length:Int):=J
 have w:=bx (n:=i) J;have w1:=bx (n:=i+1) J;have w2:IntKind.i64.wrap ((i:Int)+2)=((i+2:Nat):Int):=by rw [fg J J]; omega
 obtain⟨b1,b2⟩:=hb.2 i hi;have b1: ¬(d.l[i]).n<0:=J
 have c3: ¬(((i+2:Nat):Int)<(i:Int)):=J
 rw [bB,Uq];simp only [RY,eO,oz,lS,Co,tB,pw,cE,cT,cZ,Nat.reduceLT,List.map,eY,ky,bG,c1,c2,c3,if_true,if_false,xi,den_add,w,w1,w2,Hu,Hw,bF hi,b1,b2,aL,MJ,gQ.den,ML,MK,mC,D.V,ZT,pQ,zw,az,aA,ax,aW];split
 ·split
  ·rename_i h5;split
   ·rename_i h6;exact ahH
   ·split
    ·rename_i h6;exact ahH
    ·exact⟨i+1,J,J,rfl⟩
  ·rename_i h5;split
   ·exact⟨i+1+1,J,J,rfl⟩
   ·split
    ·exact⟨i+1+1,J,J,rfl⟩
    ·exact⟨i+1,J,J,rfl⟩
 ·obtain⟨p,q1,q2,q3⟩:=Ke d hb hlen (i:Int) ((b0.at (d.l[i]).n).n) _ (i+1) (au _) J;exact⟨p,J,q2,q3⟩
end
theorem qG {kids:D} (h:Wd (.sl 6) kids) {i:Nat} (hi:i<kids.l.length): ∃k s n ks,kids.l[i]=dL [.i k,s,.i n,ks]/\fD .u8 k/\Wd .str s/\fD .i64 n/\Wd (.sl 6) ks:=by
 obtain⟨r,U,Y,hc⟩:=h.elN (cs:=[.int .u8,.str,.int .i64,.sl 6]) rfl _ (aq hi)
 match r,Y with
 |[a,b,c,d],_=> obtain⟨k,rfl,hk⟩:=(hc 0 _ _ rfl rfl).i;obtain⟨n,rfl,hn⟩:=(hc 2 _ _ rfl rfl).i;exact⟨k,b,n,d,U,hk,hc 1 _ _ rfl rfl,hn,hc 3 _ _ rfl rfl⟩
section
variable {l:List Int}
def E1:D:=.p (.i 1) (.p (.i 0) (.p (.i 0) (.p (.i 1) (.i 0))))
theorem agX:L 1150 [1,enc (.i 0),0,enc (.i 1)]=some [1]:=by rw [bB,alu];simp only [ajS,zz,pQ,bd,Int.reduceLT,Int.reduceEq];rfl
theorem Y4 (a b:Int):L 5450 [enc (.i 1),a,b]=some [b]:=by rw [bB,akE];simp only [ajf,zz,pQ,bd,fin];rw [bB,akD];simp only [aje,zz];rfl
theorem ya:L 5250 [enc (dL [E1]),2,1]=some [2,enc (dL [E1])]:=by have U:=agX;have Z:=Y4 3 2;have w1:IntKind.i64.wrap (1+1)=2:=fg J J;have w2:IntKind.i64.wrap (2+1)=3:=fg J J;have w3:IntKind.i64.wrap (0+1)=1:=fg J J;have ha:(dL [E1]).at 0=E1:=rfl;have g0:E1.V 0= .i 1:=rfl;have g1:E1.V 1= .i 0:=rfl;have g2:E1.V 2= .i 0:=rfl;have g3:E1.V 3= .i 1:=rfl;rw [bB,akI];simp only [ajj,zz,bz,aT,bd,aH,fin];rw [bB,acA];simp only [E?,zz,bz,aT,bd,aH,ha,g0,g1,g2,g3,w1,w2,w3,U,Z,Int.reduceLT,Int.reduceEq,fin,bo,aL];rw [bB,acA];simp only [E?,zz,aL];rfl
theorem XZ (k m:Int):L 5500 [enc (.i 1),k,m]=some [k,m,1]:=by rw [bB,akC];simp only [ajd,zz,pQ,bd,fin];rw [bB,akB];simp only [ajc,zz];rfl
theorem XY (a k m:Int):L 5600 [enc (.i 1),a,k,m]=some [a,k,m,1]:=by rw [bB,akA];simp only [ajb,zz,pQ,bd,fin];rw [bB,akz];simp only [aja,zz];rfl
theorem KN (k m:Int):L 5150 [k,m]=some [k,m,1]:=by rw [bB,akM];simp only [ajl,zz,fin];rw [bB,akL];rfl
theorem KM (k m:Int):L 5200 [k,m]=some [1,k,m,1]:=by rw [bB,akK];simp only [ajk,zz,fin];rw [bB,akJ];rfl
theorem Fc (k m:Int):L 5100 [k,m]=some [m]:=by rw [bB,akO];simp only [ajm,zz,fin];rw [bB,akN];rfl
theorem pV (k m:Int):L 5300 [1,enc (dL [E1]),k,m]=some [enc (dL [E1]),k,m,1]:=by have Z:=XZ k m;have w3:IntKind.i64.wrap (0+1)=1:=fg J J;have ha:(dL [E1]).at 0=E1:=rfl;have g0:E1.V 0= .i 1:=rfl;have g1:E1.V 1= .i 0:=rfl;have g3:E1.V 3= .i 1:=rfl;rw [bB,akH];simp only [aji,zz,fin];rw [bB,acz];simp only [E!,zz,bz,aT,bd,aH,ha,g0,g1,g3,w3,Z,Int.reduceLT,Int.reduceEq,fin,bo,aL];rw [bB,acz];simp only [E!,zz,aL];rfl
theorem pU (k m:Int):L 5350 [1,enc (dL [E1]),k,m]=some [enc (dL [E1]),1,k,m,1]:=by have Z:=XY 1 k m;have w3:IntKind.i64.wrap (0+1)=1:=fg J J;have ha:(dL [E1]).at 0=E1:=rfl;have g0:E1.V 0= .i 1:=rfl;have g1:E1.V 1= .i 0:=rfl;have g3:E1.V 3= .i 1:=rfl;rw [bB,akG];simp only [ajh,zz,fin];rw [bB,acy];simp only [E_,zz,bz,aT,bd,aH,ha,g0,g1,g3,w3,Z,Int.reduceLT,Int.reduceEq,fin,bo,aL];rw [bB,acy];simp only [E_,zz,aL];rfl
def isR (ys:List Int):Prop:= ∃b l,ys=b::l/\(b=0\/b=1)
def jy (m:Nat):D:=dL (List.replicate m E1)
theorem tJ (m:Nat):(jy m).l.length=m:=by unfold jy; rw [bz,axs]
end
section
variable {p:Prop} {d:D} {i:Nat}
def OkI (d0:D) (nl nc:Nat) (dx op ob iO to:Int) (na:Nat):Prop:=
 (dx=1/\0<=ob/\ob<(d0.l.length:Int)/\(iO= -1\/0<=iO/\iO<(nl:Int))/\(op=16->0<=to/\to<=(nc:Int)))\/
 (dx=2/\0<=ob/\ob<(d0.l.length:Int))\/(dx=3/\0<=iO/\iO<(nl:Int)/\(na:Int)=1)\/(dx=4/\0<=to/\to<=(nc:Int)/\(na:Int)=1)\/
 (dx=5/\0<=to/\to<=(nc:Int))\/(dx=6/\0<=iO/\iO<(nl:Int))\/(dx=7/\0<=iO/\iO<(nl:Int)/\0<=to/\to<=(nc:Int))
def OkO (d0:D) (k n:Int):Prop:=1<=k/\k<=9/\(k=1\/k=2\/k=6\/k=7->n=0)/\(k=3\/k=8->1<=n/\n<=1048576)/\(k=5->1<=n/\n<=16)/\(k=4->0<=n/\n<(d0.l.length:Int)/\((d0.at n).V 0).n=1)
def AM (d0:D) (x:D):Prop:=OkO d0 (x.V 0).n (x.V 2).n
def zq (d0 d1:D):Prop:=d0.l.length<=64/\d1.l.length<=16/\∀x∈d0.l,AM d0 x
def aj8 (d0 x:D):Prop:= ∀y∈(x.V 2).l,OkI d0 (x.V 1).l.length (x.V 2).l.length (y.V 0).n (y.V 1).n (y.V 2).n (y.V 3).n (y.V 4).n (y.V 6).l.length
def asN (d0 d1:D) (ys:List Int):Prop:= ∃b:Int,ys= [b]/\(b=0\/b=120)/\(b=0->zq d0 d1/\∀x∈d1.l,aj8 d0 x)
theorem qy (h:Wd (.sl 4) d) (hi:i<d.l.length): ∃sc lc cd,d.l[i]=dL [sc,lc,cd]/\Wd .str sc/\Wd (.sl 2) lc/\Wd (.sl 5) cd:=by
 obtain⟨r,U,Y,hc⟩:=h.elN (cs:=[.str,.sl 2,.sl 5]) rfl _ (aq hi)
 match r,Y with
 |[a,b,c],_=>exact⟨a,b,c,U,hc 0 _ _ rfl rfl,hc 1 _ _ rfl rfl,hc 2 _ _ rfl rfl⟩
theorem Ta (h:Wd (.sl 5) d) (hi:i<d.l.length): ∃a b c e f g qv,d.l[i]=dL [.i a,.i b,.i c,.i e,.i f,.i g,qv]/\fD .u8 a/\fD .u8 b/\fD .i64 c/\fD .i64 e/\fD .i64 f/\fD .i64 g/\Wd (.sl 6) qv:=by
 obtain⟨r,U,Y,hc⟩:=h.elN (cs:=[.int .u8,.int .u8,.int .i64,.int .i64,.int .i64,.int .i64,.sl 6]) rfl _ (aq hi)
 match r,Y with
 |[a,b,c,e,f,g,qv],_=> obtain⟨a,rfl,ha⟩:=(hc 0 _ _ rfl rfl).i;obtain⟨b,rfl,hb⟩:=(hc 1 _ _ rfl rfl).i;obtain⟨c,rfl,LV⟩:=(hc 2 _ _ rfl rfl).i;obtain⟨e,rfl,he⟩:=(hc 3 _ _ rfl rfl).i;obtain⟨f,rfl,hf⟩:=(hc 4 _ _ rfl rfl).i;obtain⟨g,rfl,hg⟩:=(hc 5 _ _ rfl rfl).i;exact⟨a,b,c,e,f,g,qv,U,ha,hb,LV,he,hf,hg,hc 6 _ _ rfl rfl⟩
end
section
variable {p q:Prop} {a l b:List Int}
def cx (p:Prop) (ys:List Int):Prop:= ∃c:Int,ys= [c]/\(c=0\/c=1)/\(c=1↔p)
theorem dP (h: ¬p):cx p [0]:=⟨0,rfl,.inl rfl,fun h'=>absurd h' J,fun h'=>absurd h' h⟩
theorem eX (h:p):cx p [1]:=⟨1,rfl,.inr rfl,fun _=>h,fun _=>rfl⟩
theorem cx.eq (h:cx p a) (h':cx p b):a=b:=by
 obtain⟨c,rfl,c1,c2⟩:=h;obtain⟨e,rfl,e1,e2⟩:=h'
 grind
theorem cx.of (h:cx p a) (hpq:p↔q):cx q a:=by
 grind
theorem bK.iff {j:Nat} {xs:List Int} (h:bK j xs (cx p)) (hpq:p↔q):bK j xs (cx q):=by
 grind
theorem nR (a b:D):(enc a=enc b)=(a=b):=propext ⟨fun h=>ff h,fun h=>by rw [h]⟩
def bD (l:List Int):D:=dL (l.map .i)
def Nl (l:List Int):Prop:= ∀b∈l,0<=b/\b<256
theorem aey {d:D} (h:Wd .str d): ∃l,d=bD l/\Nl l:=by
 obtain⟨s,rfl⟩:=h.s;refine⟨s.data.toList.map fun b=>(b.toNat:Int),?_,fun b hb=>?_⟩
 ·unfold vL rH bD;rw [axd];rfl
 ·obtain⟨c,_,rfl⟩:=aQ.1 hb;have:=c.toNat_lt;omega
theorem P6 (l:List Int):(bD l).l=l.map .i:=by unfold bD; rw [bz]
theorem eD (l:List Int):(bD l).l.length=l.length:=by rw [P6,a8]
theorem y0 {i:Nat} (h:i<l.length):((bD l).at (i:Int)).n=l[i]:=by rw [bF (by rw [eD]; exact h)];simp only [P6,axR,D.n]
theorem alE (h:Nl l):Bs (bD l):=⟨by rw [P6]; rfl,fun i hi=>by
 simp only [P6,a8,axR,D.n] at hi ⊢
 exact h _ (aq hi)⟩
theorem sM (l:List Int) (a b:Nat):dL (((bD l).l.take b).drop a)=bD ((l.take b).drop a):=by rw [P6,bD,axY,axK]
theorem Nl.part (h:Nl l) (a b:Nat):Nl ((l.take b).drop a):=fun x hx=>h x (awT (awR hx))
def isLt (b:Int):Bool:=decide (97<=b/\b<=122\/65<=b/\b<=90\/b=95)
def Ip (b:Int):Bool:=decide (48<=b/\b<=57)
def yu (b:Int):Bool:=isLt b||Ip b
theorem M7 {p:Int->Bool} (h:(List.range 256).all (fun k=>p (k:Int))=true) {b:Int} (h0:0<=b) (U:b<256):p b=true:=by
 have:=aP.1 h b.toNat (aw2.2 J)
 grind
def avi:List D:=[.p (.i 97) (.p (.i 99) (.p (.i 113) (.p (.i 117) (.p (.i 105) (.p (.i 114) (.p (.i 101) (.i 0))))))),.p (.i 97) (.p (.i 100) (.p (.i 100) (.i 0))),.p (.i 97) (.p (.i 114) (.p (.i 114) (.p (.i 105) (.p (.i 118) (.p (.i 101) (.i 0)))))),.p (.i 98) (.p (.i 97) (.p (.i 114) (.p (.i 114) (.p (.i 105) (.p (.i 101) (.p (.i 114) (.i 0))))))),.p (.i 98) (.p (.i 114) (.p (.i 111) (.p (.i 97) (.p (.i 100) (.p (.i 99) (.p (.i 97) (.p (.i 115) (.p (.i 116) (.i 0))))))))),.p (.i 99) (.p (.i 111) (.p (.i 110) (.p (.i 100) (.i 0)))),.p (.i 100) (.p (.i 111) (.i 0)),.p (.i 100) (.p (.i 111) (.p (.i 110) (.p (.i 101) (.i 0)))),.p (.i 101) (.p (.i 108) (.p (.i 115) (.p (.i 101) (.i 0)))),.p (.i 105) (.p (.i 102) (.i 0)),.p (.i 108) (.p (.i 111) (.p (.i 99) (.p (.i 107) (.i 0)))),.p (.i 108) (.p (.i 111) (.p (.i 99) (.p (.i 107) (.p (.i 102) (.p (.i 111) (.p (.i 114) (.i 0))))))),.p (.i 108) (.p (.i 111) (.p (.i 111) (.p (.i 112) (.i 0)))),.p (.i 109) (.p (.i 117) (.p (.i 116) (.p (.i 101) (.p (.i 120) (.i 0))))),.p (.i 111) (.p (.i 110) (.p (.i 99) (.p (.i 101) (.i 0)))),.p (.i 112) (.p (.i 117) (.p (.i 116) (.i 0))),.p (.i 113) (.p (.i 117) (.p (.i 101) (.p (.i 117) (.p (.i 101) (.i 0))))),.p (.i 114) (.p (.i 101) (.p (.i 97) (.p (.i 100) (.i 0)))),.p (.i 114) (.p (.i 101) (.p (.i 108) (.p (.i 101) (.p (.i 97) (.p (.i 115) (.p (.i 101) (.i 0))))))),.p (.i 114) (.p (.i 108) (.p (.i 111) (.p (.i 99) (.p (.i 107) (.i 0))))),.p (.i 114) (.p (.i 117) (.p (.i 110) (.p (.i 108) (.p (.i 111) (.p (.i 99) (.p (.i 107) (.i 0))))))),.p (.i 114) (.p (.i 119) (.p (.i 108) (.p (.i 111) (.p (.i 99) (.p (.i 107) (.i 0)))))),.p (.i 115) (.p (.i 101) (.p (.i 109) (.i 0))),.p (.i 115) (.p (.i 101) (.p (.i 116) (.i 0))),.p (.i 115) (.p (.i 105) (.p (.i 103) (.p (.i 110) (.p (.i 97) (.p (.i 108) (.i 0)))))),.p (.i 116) (.p (.i 97) (.p (.i 107) (.p (.i 101) (.i 0)))),.p (.i 116) (.p (.i 104) (.p (.i 114) (.p (.i 101) (.p (.i 97) (.p (.i 100) (.i 0)))))),.p (.i 116) (.p (.i 114) (.p (.i 121) (.p (.i 97) (.p (.i 99) (.p (.i 113) (.p (.i 117) (.p (.i 105) (.p (.i 114) (.p (.i 101) (.i 0)))))))))),.p (.i 116) (.p (.i 114) (.p (.i 121) (.p (.i 108) (.p (.i 111) (.p (.i 99) (.p (.i 107) (.i 0))))))),.p (.i 117) (.p (.i 110) (.p (.i 108) (.p (.i 111) (.p (.i 99) (.p (.i 107) (.i 0)))))),.p (.i 118) (.p (.i 97) (.p (.i 114) (.i 0))),.p (.i 119) (.p (.i 97) (.p (.i 105) (.p (.i 116) (.i 0)))),.p (.i 119) (.p (.i 97) (.p (.i 105) (.p (.i 116) (.p (.i 102) (.p (.i 111) (.p (.i 114) (.i 0))))))),.p (.i 119) (.p (.i 97) (.p (.i 105) (.p (.i 116) (.p (.i 111) (.p (.i 110) (.i 0)))))),.p (.i 119) (.p (.i 108) (.p (.i 111) (.p (.i 99) (.p (.i 107) (.i 0))))),.p (.i 119) (.p (.i 114) (.p (.i 105) (.p (.i 116) (.p (.i 101) (.i 0))))),.p (.i 119) (.p (.i 117) (.p (.i 110) (.p (.i 108) (.p (.i 111) (.p (.i 99) (.p (.i 107) (.i 0)))))))]
def OP (z:Int):D:=(avi[z.toNat]?).getD (.i 0)
def isKey (d:D):Prop:= ∃k:Nat,k<37/\d=OP (k:Int)
theorem aa2 (d:D) (z:Int) (h0:0<=z) (U:z<37):(d=OP z->L 4801 [enc d,z]=some [1])/\(d≠OP z->L 4801 [enc d,z]=L 4801 [enc d,z+1]):=by
 have w:IntKind.i64.wrap (z+1)=z+1:=fg J J;rw [bB,acH];have:z=0\/z=1\/z=2\/z=3\/z=4\/z=5\/z=6\/z=7\/z=8\/z=9\/z=10\/z=11\/z=12\/z=13\/z=14\/z=15\/z=16\/z=17\/z=18\/z=19\/z=20\/z=21\/z=22\/z=23\/z=24\/z=25\/z=26\/z=27\/z=28\/z=29\/z=30\/z=31\/z=32\/z=33\/z=34\/z=35\/z=36:=J
 rcases this with rfl|rfl|rfl|rfl|rfl|rfl|rfl|rfl|rfl|rfl|rfl|rfl|rfl|rfl|rfl|rfl|rfl|rfl|rfl|rfl|rfl|rfl|rfl|rfl|rfl|rfl|rfl|rfl|rfl|rfl|rfl|rfl|rfl|rfl|rfl|rfl|rfl<;>
 ·simp only [G?,zz,nR,Int.reduceLT,Int.reduceEq,w];split
  ·rename_i h;exact⟨fun _=>rfl,fun h'=>absurd h h'⟩
  ·rename_i h;exact⟨fun h'=>absurd h' h,fun _=>rfl⟩
theorem OO (d:D): ∀(m n:Nat),n+m=37->bK 4801 [enc d,(n:Int)] (cx (∃k:Nat,n<=k/\k<37/\d=OP (k:Int)))
 |0,n,h=>by
  refine bK.of ?_;rw [acH];have c1: ¬(n:Int)<37:=J
  simp only [G?,zz,c1];exact .out (dP fun⟨k,a,b,_⟩=>by omega)
 |m+1,n,h=>by
  obtain⟨s1,s2⟩:=aa2 d (n:Int) J J;by_cases V:d=OP (n:Int)
  ·exact⟨_,s1 V,eX ⟨n,au _,J,V⟩⟩
  ·obtain⟨ys,U,Z⟩:=OO d m (n+1) J;refine⟨ys,(s2 V).trans U,Z.of ⟨fun⟨k,a,b,c⟩=> ⟨k,J,b,c⟩,fun⟨k,a,b,c⟩=>?_⟩⟩
   grind
theorem aof (d:D):bK 4800 [enc d] (cx (isKey d)):=by refine bK.of ?_;rw [akT];simp only [ajr,zz];exact .jump ((OO d 37 0 J).iff ⟨fun⟨k,_,b,c⟩=> ⟨k,b,c⟩,fun⟨k,b,c⟩=> ⟨k,J,b,c⟩⟩)
theorem HT (x:Int) (k:D) (hk:k.l.length<=1000): ∀(j i:Nat),i+j=k.l.length->bK 4951 [x,enc k,(i:Int)] (cx (x∈(k.l.drop i).map D.n))
 |0,i,h=>by
  have c1: ¬(i:Int)<(k.l.length:Int):=J
  refine bK.of ?_;rw [acD];simp only [F!,zz,c1];refine .out (dP ?_)
  grind
 |j+1,i,h=>by
  have hi:i<k.l.length:=J
  have c1:(i:Int)<(k.l.length:Int):=J
  have c2: ¬((i:Int)<0):=J
  have w:=bx (n:=i) J;have ih:=HT x k hk j (i+1) J;refine bK.of ?_;rw [acD,aG hi];simp only [F!,zz,c1,c2,bF hi,w];refine .ite (fun h=> .out (eX ?_)) fun h=> .jump (ih.iff ?_)
  all_goals grind
theorem xt (x:Int) (k:D) (hk:k.l.length<=1000):bK 4950 [x,enc k] (cx (x∈k.l.map D.n)):=by refine bK.of ?_;rw [akR];simp only [ajp,zz];exact .jump (HT x k hk k.l.length 0 J)
def GF (k:D) (p:Int->Bool):Bool:=(List.range 256).all fun z=>(k.l.map D.n).contains (z:Int) == p (z:Int)
theorem M6 {k:D} {p:Int->Bool} (h:GF k p=true) {x:Int} (h0:0<=x) (U:x<256):x∈k.l.map D.n↔p x=true:=by
 have:=M7 (p:=fun z=>(k.l.map D.n).contains z == p z) h h0 U
 grind
theorem Jy (l:List Int) (hb:Nl l) (k:D) (hk:k.l.length<=1000) (Y:l.length<=100000) (p:Int->Bool) (hp:GF k p=true): ∀(j i:Nat),i+j=l.length->bK 4901 [enc (bD l),enc k,(i:Int)] (cx (∀b∈l.drop i,p b=true))
 |0,i,h=>by
  have c1: ¬(i:Int)<(l.length:Int):=J
  refine bK.of ?_;rw [acE];simp only [F?,zz,eD,c1];refine .out (eX ?_)
  grind
 |j+1,i,h=>by
  have hi:i<l.length:=J
  have c1:(i:Int)<(l.length:Int):=J
  have c2: ¬((i:Int)<0):=J
  have w:=bx (n:=i) J;have ih:=Jy l hb k hk Y p hp j (i+1) J;obtain⟨b1,b2⟩:=hb _ (aq hi);obtain⟨ys,hA,c,rfl,hc,hx⟩:=xt l[i] k hk;rw [M6 hp b1 b2] at hx;refine bK.of ?_;rw [acE,aG hi];simp only [F?,zz,eD,c1,c2,y0 hi,w,hA];refine .ite (fun h=> .out (dP ?_)) fun h=> .jump (ih.iff ?_)
  all_goals grind
theorem VO (l:List Int) (hb:Nl l) (k:D) (hk:k.l.length<=1000) (Y:l.length<=100000) (p:Int->Bool) (hp:GF k p=true):bK 4900 [enc (bD l),enc k] (cx (∀b∈l,p b=true)):=by refine bK.of ?_;rw [akS];simp only [ajq,zz];exact .jump (Jy l hb k hk Y p hp l.length 0 J)
theorem asR:GF b2 isLt=true:=aa
theorem asQ:GF b3 yu=true:=aa
end
def JI (l:List Int):Prop:=l.length<=16384/\(∃h:0<l.length,isLt l[0]=true)/\(∀b∈l,yu b=true)/\¬isKey (bD l)
def dgD:D:=.p (.i 48) (.p (.i 49) (.p (.i 50) (.p (.i 51) (.p (.i 52) (.p (.i 53) (.p (.i 54) (.p (.i 55) (.p (.i 56) (.p (.i 57) (.i 0))))))))))
def sgD:D:=.p (.i 60) (.p (.i 43) (.p (.i 45) (.p (.i 42) (.p (.i 40) (.p (.i 41) (.p (.i 123) (.p (.i 125) (.p (.i 59) (.i 0)))))))))
theorem asP:GF dgD Ip=true:=aa
def aok (b:Int):Bool:=(sgD.l.map D.n).contains b
theorem asO:GF sgD aok=true:=aa
theorem aj5 {b:Int} (h:isLt b=true) (h0:0<=b) (U:b<256):Ip b=false/\aok b=false/\b≠61/\b≠45/\b≠35/\b≠10:=by have:=M7 (p:=fun k=>!(isLt k)||!(Ip k)&&!(aok k)) aa h0 U;rw [h] at this;simp only [axO,axy,an,axc] at this;refine⟨this.1,this.2,?_⟩;simp only [isLt,decide_eq_true_eq] at h;omega
theorem AY (l:List Int) (hb:Nl l) (Y:l.length<=100000): ∃k:Int,L 4750 [enc (bD l)]=some [k]/\0<=k/\(k=2->∃h:0<l.length,isLt l[0]=true)/\
 (∀h:0<l.length,isLt l[0]=true->(k=0↔¬∀b∈l,yu b=true)/\(k=2↔(∀b∈l,yu b=true)/\¬isKey (bD l))/\k≠1):=by
 rw [bB,akU];by_cases h0:l.length=0
 ·obtain rfl:l= []:=aw4.1 h0;have:bD []= .i 0:=rfl;simp only [H_,zz,nR,this];exact⟨0,rfl,J,fun h=>absurd h J,fun h=>absurd h ad⟩
 ·have QZ:0<l.length:=J
  have jK: ¬bD l= .i 0:=fun h=>by have:=congrArg (fun d=>d.l.length) h;simp only [eD,D.l,bd] at this;omega
  obtain⟨b1,b2⟩:=hb _ (aq QZ);obtain⟨ys,hD,c,rfl,hc,hx⟩:=VO l hb dgD (awS aa) Y Ip asP;obtain⟨ys,hL,e,rfl,he,hy⟩:=xt l[0] As.Try.b2 (awS aa);rw [M6 asR b1 b2] at hy;obtain⟨ys,hO,f,rfl,hf,hz⟩:=VO l hb b3 (awS aa) Y yu asQ;obtain⟨ys,hK,g,rfl,hg,hk⟩:=aof (bD l);obtain⟨ys,hS,u,rfl,hu,hs⟩:=xt l[0] sgD (awS aa);rw [M6 asO b1 b2] at hs;have fU:((bD l).at 0).n=l[0]:=y0 QZ;have cl:(0:Int)<(l.length:Int):=J
  unfold dgD at hD;unfold sgD at hS;simp only [H_,zz,nR,jK,hD,fU,hL,hO,hK,hS,eD,cl]
  have atI:isLt l[0]=true->(¬bD l= .p (.i 45) (.p (.i 62) (.i 0)))/\(¬bD l= .p (.i 61) (.p (.i 61) (.i 0)))/\c=0/\u=0:=fun q=>by
   obtain⟨q1,q2,q3,q4,_⟩:=aj5 q b1 b2;refine⟨fun h=>?_,fun h=>?_,?_,?_⟩
   ·rw [h] at fU; exact q4 fU.symm
   ·rw [h] at fU; exact q3 fU.symm
   all_goals grind
  split
  ·rename_i LU;split
   ·rename_i he0;have nl: ¬isLt l[0]=true:=fun h=>by have:=hy.2 h; omega
    repeat' first
     |exact⟨_,rfl,J,fun h=>absurd h J,fun _ h=>absurd h nl⟩
     |split
   ·rename_i Ts;have yl:isLt l[0]=true:=hy.1 J;obtain⟨n1,n2,_,n4⟩:=atI yl;split
    ·rename_i hf0;have nw: ¬∀b∈l,yu b=true:=fun h=>by have:=hz.2 h; omega
     repeat' first
      |exact⟨0,rfl,J,fun h=>absurd h J,fun _ _=> ⟨⟨fun _=>nw,fun _=>rfl⟩,⟨fun h=>absurd h J,fun h=>absurd h.1 nw⟩,J⟩⟩
      |split
    ·rename_i hf1;have yw:=hz.1 J;split
     ·rename_i hg0;have nk: ¬isKey (bD l):=fun h=>by have:=hk.2 h; omega
      exact⟨2,rfl,J,fun _=> ⟨QZ,yl⟩,fun _ _=> ⟨⟨fun h=>absurd h J,fun h=>absurd yw h⟩,⟨fun _=> ⟨yw,nk⟩,fun _=>rfl⟩,J⟩⟩
     ·rename_i hg1;have yk:=hk.1 J;exact⟨3,rfl,J,fun h=>absurd h J,fun _ _=> ⟨⟨fun h=>absurd h J,fun h=>absurd yw h⟩,⟨fun h=>absurd h J,fun h=>absurd yk h.2⟩,J⟩⟩
  ·rename_i LU;exact⟨1,rfl,J,fun h=>absurd h J,fun _ h=>absurd (atI h).2.2.1 LU⟩
theorem Gb (l:List Int) (hb:Nl l) (Y:l.length<=100000): ∀(j i:Nat),i+j=l.length->bK 4851 [enc (bD l),(i:Int)] vG/\bK 4852 [enc (bD l),(i:Int)] vG
 |0,i,h=>by
  have c1: ¬(i:Int)<(l.length:Int):=J
  constructor
  ·refine bK.of ?_;rw [W0];simp only [Vk,zz,eD,c1];exact .out sV
  ·refine bK.of ?_;rw [acF];simp only [G_,zz,eD,c1];exact .out sV
 |j+1,i,h=>by
  have hi:i<l.length:=J
  have c1:(i:Int)<(l.length:Int):=J
  have c2: ¬((i:Int)<0):=J
  have w:=bx (n:=i) J;obtain⟨i1,i2⟩:=Gb l hb Y j (i+1) J;obtain⟨ys,hA,c,rfl,hc,hx⟩:=xt l[i] (.p (.i 9) (.p (.i 10) (.p (.i 13) (.p (.i 32) (.i 0))))) (awS aa);constructor
  ·refine bK.of ?_;rw [W0];simp only [Vk,zz,eD,c1,c2,y0 hi,w,hA];exact aij
  ·refine bK.of ?_;rw [acF];simp only [G_,zz,eD,c1,c2,y0 hi,w,hA];exact aij
theorem aay (l:List Int) (hb:Nl l) (Y:l.length<=100000):bK 4850 [enc (bD l)] vG:=by refine bK.of ?_;rw [acG];simp only [G!,zz];exact .jump (Gb l hb Y l.length 0 J).1
theorem auc:(List.range 256).all (fun k=>!(isLt (k:Int))||!(((.p (.i 9) (.p (.i 10) (.p (.i 13) (.p (.i 32) (.i 0)))):D).l.map D.n).contains (k:Int)))=true:=aa
theorem aaz (b:Int) (h:isLt b=true) (h0:0<=b) (U:b<256):L 4850 [enc (bD [b])]=some [0]:=by
 obtain⟨_,_,_,_,n5,n6⟩:=aj5 h h0 U;obtain⟨ys,hA,c,rfl,hc,hx⟩:=xt b (.p (.i 9) (.p (.i 10) (.p (.i 13) (.p (.i 32) (.i 0))))) (awS aa)
 have LU:c=0:=by
  have:=M7 (p:=fun k=>!(isLt k)||!(((.p (.i 9) (.p (.i 10) (.p (.i 13) (.p (.i 32) (.i 0)))):D).l.map D.n).contains k)) auc h0 U
  grind
 subst LU;have fU:((bD [b]).at 0).n=b:=y0 (l:=[b]) (i:=0) ad;rw [bB,acG];simp only [G!,zz,fin];rw [bB,W0];simp only [Vk,zz,eD,fU,n5,n6,hA,aT,bd,aL,aH,bo,Int.reduceLT,fin]
def is2 (ys:List Int):Prop:= ∃a b:Int,ys= [a,b]
theorem Oy (l:List Int) (Y:l.length<=100000): ∀(j i:Nat) (n:Int),i+j=l.length->bK 22002 [enc (bD l),n,(i:Int)] is2
 |0,i,n,h=>by
  have c1: ¬(i:Int)<(l.length:Int):=J
  refine bK.of ?_;rw [Ul];simp only [RR,zz,eD,c1];exact .out ⟨_,_,rfl⟩
 |j+1,i,n,h=>by
  have c1:(i:Int)<(l.length:Int):=J
  have c2: ¬((i:Int)<0):=J
  have w:=bx (n:=i) J;refine bK.of ?_;rw [Ul];simp only [RR,zz,eD,c1,c2,w];exact .jump (Oy l Y j (i+1) _ J)
theorem VT: ∀(m:Nat) (l:List Int),l.length<=m->l.length<=100000->bK 22001 [enc (bD l)] is2
 |m,l,hm,Y=>by
  have e:=Oy l Y l.length 0 0 J;have e':bK 22002 [enc (bD l),0,0] is2:=e;refine bK.of ?_;rw [adi];simp only [O!,zz,eD,aL,zg,D.V,ZT,pQ,ax,zw,aW,sM];refine .ite (fun U=> .ite (fun _=>?_) fun _=>?_) fun _=> .jump e'
  ·obtain⟨m,rfl⟩ : ∃k,m=k+1:=⟨m-1,J⟩;exact .jump (VT m _ (by simp only [bp,aY,Int.toNat]; omega) (by simp only [bp,aY]; omega))
  ·repeat' first |exact .jump e'|exact .out ⟨_,_,rfl⟩|refine .ite (fun _=>?_) (fun _=>?_)
theorem Ox (l:List Int) (Y:l.length<=100000):bK 22000 [enc (bD l)] is2:=by refine bK.of ?_;rw [adj];simp only [O?,zz];exact .jump (VT l.length l (au _) Y)
theorem Pg (l:List Int) (hb:Nl l) (Y:l.length<=16384): ∀(j i:Nat),i+j=l.length->∃p:Nat,i<=p/\p<=l.length/\L 4701 [enc (bD l),0,(i:Int)]=L 4702 [enc (bD l),(p:Int),1,0]
 |0,i,h=>by
  have c1: ¬(i:Int)<(l.length:Int):=J
  refine⟨i,au _,J,?_⟩;rw [bB,W2];simp only [Vl,zz,eD,c1,fin]
 |j+1,i,h=>by
  have c1:(i:Int)<(l.length:Int):=J
  have c2: ¬(((i+1:Nat):Int)<0):=J
  have c3: ¬(l.length:Int)<((i+1:Nat):Int):=J
  have w:=bx (n:=i) J;obtain⟨p,p1,p2,p3⟩:=Pg l hb Y j (i+1) J;obtain⟨ys,hO,c,rfl,hc⟩:=aay ((l.take (i+1)).drop 0) (hb.part _ _) (by simp only [bp,aY]; omega);rw [bB,W2];simp only [Vl,zz,eD,c1,c2,c3,w,aL,D.V,ZT,pQ,az,aA,ax,zw,aW,sM,axS,hO];rcases hc with rfl|rfl
  ·exact⟨i,au _,J,rfl⟩
  ·exact⟨p,J,p2,p3⟩
theorem agm (l:List Int) (hb:Nl l) (h0:0<l.length) (Y:isLt l[0]=true):L 4701 [enc (bD l),0,0]=L 4702 [enc (bD l),0,1,0]:=by
 obtain⟨b1,b2⟩:=hb _ (aq h0);have hO:=aaz _ Y b1 b2;have c1:(0:Int)<(l.length:Int):=J
 have c3: ¬(l.length:Int)<1:=J
 have w:IntKind.i64.wrap (0+1)=1:=fg J J
 have hp:(l.take 1).drop 0= [l[0]]:=by
  cases l with
  |nil=>simp at h0
  |cons a t=>simp
 rw [bB,W2];simp only [Vl,zz,eD,c1,c3,w,aL,Int.reduceLT,D.V,ZT,pQ,az,aA,ax,zw,sM,axS,Int.toNat_one,hp,hO,fin]
theorem AU (l:List Int) (hb:Nl l) (Y:l.length<=16384) (p:Nat) (hp:p<=l.length): ∀(j i:Nat) (n:Int),i+j=p->∃n':Int,L 4702 [enc (bD l),(p:Int),n,(i:Int)]=if p=l.length then some [5,enc (.i 0),0,n',(p:Int),(p:Int),0,0] else L 4703 [enc (bD l),(p:Int),n',(p:Int),((p+1:Nat):Int)]
 |0,i,n,h=>by
  have c1: ¬(i:Int)<(p:Int):=J
  have w:=bx (n:=p) J;have c2:((p:Int)=(l.length:Int))=(p=l.length):=by rw [axE]
  refine⟨n,?_⟩;rw [bB,acI];simp only [H!,zz,eD,c1,w,c2];split<;>rfl
 |j+1,i,n,h=>by
  have hi:i<l.length:=J
  have c1:(i:Int)<(p:Int):=J
  have c2: ¬((i:Int)<0):=J
  have c3:(i:Int)<(l.length:Int):=J
  have w:=bx (n:=i) J;rw [bB,acI];simp only [H!,zz,eD,c1,c2,c3,w,y0 hi];split
  ·exact AU l hb Y p hp j (i+1) _ J
  ·exact AU l hb Y p hp j (i+1) _ J
def asL (l:List Int) (p:Nat) (ys:List Int):Prop:= ∃k s n LD a e er ZW:Int,ys= [k,s,n,LD,a,e,er,ZW]/\(er=0->a=p/\∃E:Nat,E<=l.length/\e=E/\L 4750 [enc (bD ((l.take E).drop p))]=some [k])
theorem KO (l:List Int) (hb:Nl l) (Y:l.length<=16384) (p:Nat) (LD:Int): ∀(j e to:Nat),to+j=l.length+1->p<=e->e<to->p<to->bK 4703 [enc (bD l),(p:Int),LD,(e:Int),(to:Int)] (asL l p)
 |j,e,to,h,U,Z,h3=>by
  have hE:e<=l.length:=J
  obtain⟨k,hK,k0,_⟩:=AY ((l.take e).drop p) (hb.part _ _) (by simp only [bp,aY]; omega);obtain⟨ys,hN,n1,n2,rfl⟩:=Ox ((l.take e).drop p) (by simp only [bp,aY]; omega);have c1: ¬(p:Int)<0:=J
  have c2: ¬(e:Int)<(p:Int):=J
  have c3: ¬(l.length:Int)<(e:Int):=J
  have c5: ¬(to:Int)<(p:Int):=J
  by_cases hj:j=0
  ·have c4:(l.length:Int)<(to:Int):=J
   refine bK.of ?_;rw [PI];simp only [NW,zz,eD,c1,c2,c3,c4,D.V,ZT,pQ,az,aA,ax,zw,aW,sM,hK,hN]
   repeat' first
    |exact .out ⟨_,_,_,_,_,_,_,_,rfl,fun h=>absurd h J⟩
    |exact .out ⟨_,_,_,_,_,_,_,_,rfl,fun _=> ⟨rfl,e,hE,rfl,hK⟩⟩
    |refine .ite (fun _=>?_) (fun _=>?_)
  ·obtain⟨j,rfl⟩ : ∃i,j=i+1:=⟨j-1,J⟩;have c4: ¬(l.length:Int)<(to:Int):=J
   have w:=bx (n:=to) J;obtain⟨k',hK',_⟩:=AY ((l.take to).drop p) (hb.part _ _) (by simp only [bp,aY]; omega);have i1:=KO l hb Y p LD j to (to+1) J J J J;have i2:=KO l hb Y p LD j e (to+1) J J J J;refine bK.of ?_;rw [PI];simp only [NW,zz,eD,c1,c2,c3,c4,c5,D.V,ZT,pQ,az,aA,ax,zw,aW,sM,hK,hN,hK',w]
   repeat' first
    |exact .jump i1
    |exact .jump i2
    |exact .out ⟨_,_,_,_,_,_,_,_,rfl,fun h=>absurd h J⟩
    |exact .out ⟨_,_,_,_,_,_,_,_,rfl,fun _=> ⟨rfl,e,hE,rfl,hK⟩⟩
    |refine .ite (fun _=>?_) (fun _=>?_)
theorem NR (l:List Int) (hb:Nl l) (hn:JI l) (LD:Int): ∀(j e:Nat),e+j=l.length->L 4703 [enc (bD l),0,LD,(e:Int),((e+1:Nat):Int)]=some [2,enc (bD l),0,LD,0,(l.length:Int),0,0]
 |0,e,h=>by
  obtain⟨Y,⟨h0,U⟩,Z,h3⟩:=hn;obtain⟨k,hK,k0,_,kk⟩:=AY l hb J;obtain⟨_,k2,_⟩:=kk h0 U;obtain rfl:=k2.2 ⟨Z,h3⟩;obtain rfl:e=l.length:=J
  have c2: ¬(l.length:Int)<0:=J
  have c4:(l.length:Int)<((l.length+1:Nat):Int):=J
  have hp:(l.take l.length).drop 0=l:=ad
  rw [bB,PI];simp only [NW,zz,eD,c2,c4,aL,D.V,ZT,pQ,az,aA,ax,zw,aW,sM,axS,hp,hK,Int.reduceEq,fin]
 |j+1,e,h=>by
  have ih:=NR l hb hn LD j (e+1) J;obtain⟨Y,⟨h0,U⟩,Z,h3⟩:=hn;have hlen:((l.take (e+1)).drop 0).length=e+1:=by simp only [bp,aY]; omega
  obtain⟨k,hK,k0,_,kk⟩:=AY ((l.take (e+1)).drop 0) (hb.part _ _) J;obtain⟨k1,_,_⟩:=kk J (by simpa using U)
  have kp:0<k:=by
   grind
  have c2: ¬((e+1:Nat):Int)<0:=J
  have c4: ¬(l.length:Int)<((e+1:Nat):Int):=J
  have w:=bx (n:=e+1) J;rw [bB,PI];simp only [NW,zz,eD,c2,c4,aL,D.V,ZT,pQ,az,aA,ax,zw,aW,sM,axS,hK,kp,w];split<;>exact ih
theorem aaN (l:List Int) (hb:Nl l):bK 4650 [enc (bD l)] (cx (JI l)):=by
 have sX: ∀{k s n LD a e er ZW:Int},L 4700 [enc (bD l),0]=some [k,s,n,LD,a,e,er,ZW]->bK 4650 [enc (bD l)] (cx (er=0/\k=2/\a=0/\e=(l.length:Int))):=fun h=>by
  refine bK.of ?_;rw [akV];simp only [ajs,zz,eD,h]
  repeat' first
   |exact .out (eX ⟨by assumption,by assumption,by assumption,by assumption⟩)
   |exact .out (dP fun h=>absurd h.1 (by assumption))
   |exact .out (dP fun h=>absurd h.2.1 (by assumption))
   |exact .out (dP fun h=>absurd h.2.2.1 (by assumption))
   |exact .out (dP fun h=>absurd h.2.2.2 (by assumption))
   |refine .ite (fun _=>?_) (fun _=>?_)
 by_cases Y:l.length<=16384
 ·have c1: ¬(16384:Int)<(l.length:Int):=J
  have c2: ¬(l.length:Int)<0:=J
  have h47:L 4700 [enc (bD l),0]=L 4701 [enc (bD l),0,0]:=by rw [bB,acJ];simp only [H?,zz,eD,c1,c2,aL,fin]
  by_cases hn:JI l
  ·obtain⟨h0,U⟩:=hn.2.1;have hf:=agm l hb h0 U;obtain⟨n',Is⟩:=AU l hb Y 0 J 0 0 1 rfl;rw [af J] at Is;have ht:=NR l hb hn n' l.length 0 J
   grind
  ·obtain⟨p,_,p2,p3⟩:=Pg l hb Y l.length 0 J;obtain⟨n',Is⟩:=AU l hb Y p p2 p 0 1 J;by_cases hp:p=l.length
   ·grind
   ·rw [af hp] at Is;obtain⟨ys,hT,k,s,n,LD,a,e,er,ZW,rfl,hk⟩:=KO l hb Y p n' (l.length-p) p (p+1) J J J J;refine (sX (((h47.trans p3).trans Is).trans hT)).iff ⟨fun⟨q1,q2,q3,q4⟩=>?_,fun h=>absurd h hn⟩;obtain⟨r1,E,r2,r3,r4⟩:=hk q1;obtain rfl:p=0:=J
    obtain rfl:E=l.length:=J
    rw [axM,awQ,q2] at r4;obtain⟨k',hK,_,kl,kk⟩:=AY l hb J;rw [r4] at hK;simp only [ah,List.cons.injEq,and_true] at hK;obtain⟨h0,U⟩:=kl hK.symm;obtain⟨_,k2,_⟩:=kk h0 U;obtain⟨w1,w2⟩:=k2.1 hK.symm;exact⟨Y,⟨h0,U⟩,w1,w2⟩
 ·have c1:(16384:Int)<(l.length:Int):=J
  refine (sX (k:=0) (s:=enc (.i 0)) (n:=0) (LD:=0) (a:=0) (e:=0) (er:=3) (ZW:=0) ?_).iff ⟨fun h=>absurd h.1 J,fun h=>absurd h.1 Y⟩;rw [bB,acJ];simp only [H?,zz,eD,c1,fin]
theorem agP:(List.range 256).all (fun k=>((b0.at (k:Int)).n == 4) == isLt (k:Int)&&((b0.at (k:Int)).n == 3) == Ip (k:Int))=true:=aa
theorem cls {b:Int} (h0:0<=b) (U:b<256):((b0.at b).n=4↔isLt b=true)/\((b0.at b).n=3↔Ip b=true):=by
 have:=M7 (p:=fun k=>((b0.at k).n == 4) == isLt k&&((b0.at k).n == 3) == Ip k) agP h0 U
 grind
theorem Of: ∀(x r:List D),(∀a∈x,a≠.i 32)->Di (x++ [.i 32]) r=true->x=r.takeWhile fun a=>a≠.i 32
 |[],r,_,h=>by
  cases r with
  |nil=>rfl
  |cons a r=> simp_all [Di]
 |a::x,[],_,h=>by simp [Di] at h
 |a::x,b::r,hx,h=>by
  simp only [aK,Di,an] at h;have ha:a=b:=by simpa using h.1
  subst ha;have jK:=hx a (awO ..);rw [List.takeWhile_cons,ag (by simpa using jK),<- Of x r (fun c hc=>hx c (aw3 _ hc)) h.2]
def xE:List D->List (List D)
 |[]=>[]
 |a::r=>if a= .i 32 then (r.takeWhile fun a=>a≠.i 32)::xE r else xE r
theorem PS (x:List D) (hx: ∀a∈x,a≠.i 32): ∀r:List D,BO r (.i 32::(x++ [.i 32]))=true->x∈xE r
 |[],h=>by simp [BO,Di] at h
 |a::r,h=>by
  simp only [BO,Di,axb,an] at h;rcases h with ⟨U,Z⟩|h
  ·grind [xE,Of]
  ·have:=PS x hx r h
   grind [xE]
theorem Ry:(xE b1.l).all (fun x=>x.isEmpty||(List.range 37).any fun k=>decide (dL x=OP (k:Int)))=true:=aa
theorem aa1:(List.range 37).all (fun k=>BO b1.l ((.i 32::(OP (k:Int)).l)++ [.i 32]))=true:=aa
theorem Xq (l:List Int) (h0:0<l.length) (hw: ∀b∈l,yu b=true):BO b1.l ((.i 32::(bD l).l)++ [.i 32])=true↔isKey (bD l):=by
 constructor
 ·intro h
  have hx: ∀a∈(bD l).l,a≠D.i 32:=by intro a ha;rw [P6] at ha;obtain⟨b,hb,rfl⟩:=aQ.1 ha;intro q;injection q with q;have:=hw b hb;rw [q] at this;revert this;decide
  have:=PS _ hx _ h;have:=aP.1 Ry _ this;rw [axb] at this;rcases this with h|h
  ·grind [eD]
  ·obtain⟨k,hk,h⟩:=ax7.1 h;exact⟨k,aw2.1 hk,by have:=of_decide_eq_true h; rw [P6] at this; exact this⟩
 ·rintro⟨k,hk,h⟩
  grind [aa1]
theorem Zm (l:List Int) (hb:Nl l) (Y:l.length<=16384) (h0:0<l.length) (U:isLt l[0]=true) (x:Int):L 12800 [enc (bD l),0]=some [0,enc (bD l),0,0]:=by
 obtain⟨b1,b2⟩:=hb _ (aq h0);have c1:(0:Int)<(l.length:Int):=J
 have hc:=(cls b1 b2).1.2 U;have b1: ¬l[0]<0:=J
 have fU:((bD l).at 0).n=l[0]:=y0 h0;rw [bB,Us];simp only [RZ,zz,fin];rw [bB,Ur];simp only [K2,zz,eD,c1,fU,b1,b2,hc,aL,Int.reduceEq,fin]
theorem zO (l:List Int) (hb:Nl l) (Y:l.length<=16384) (x1:Int): ∀(j i:Nat),i+j=l.length->∃p:Nat,i<=p/\p<=l.length/\(p=l.length↔∀b∈l.drop i,yu b=true)/\L 12851 [enc (bD l),x1,4,(i:Int)]=some [0,enc (bD l),x1,(p:Int)]
 |0,i,h=>by
  have c1: ¬(i:Int)<(l.length:Int):=J
  refine⟨i,au _,J,⟨fun _=>?_,fun _=>by omega⟩,?_⟩
  ·grind
  simp_all [bB,ME,FH,zz,eD,fin]
 |j+1,i,h=>by
  have hi:i<l.length:=J
  have c1:(i:Int)<(l.length:Int):=J
  have c2: ¬((i:Int)<0):=J
  have w:=bx (n:=i) J;obtain⟨b1,b2⟩:=hb _ (aq hi);obtain⟨q1,q2⟩:=cls b1 b2;have b1: ¬l[i]<0:=J
  obtain⟨p,p1,p2,p3,p4⟩:=zO l hb Y x1 j (i+1) J;have V:l.drop i=l[i]::l.drop (i+1):=aG hi;rw [bB,ME,V];simp only [FH,zz,eD,c1,c2,w,y0 hi,b1,b2]
  have atD:yu l[i]=true->(p=l.length↔∀b∈l[i]::l.drop (i+1),yu b=true):=fun g=>
   p3.trans ⟨fun q b hb=>(aF.1 hb).elim (fun e=>e▸g) (q b),fun q b hb=>q b (aw3 _ hb)⟩
  split
  ·rename_i h3;exact⟨p,J,p2,atD (by simp only [yu,q2.1 h3,Bool.or_true]),p4⟩
  ·rename_i h3;split
   ·rename_i h4;exact⟨p,J,p2,atD (by simp only [yu,q1.1 h4,ayx]),p4⟩
   ·rename_i h4;refine⟨i,au _,J,⟨fun q=>by omega,fun q=>?_⟩,rfl⟩;have:=q _ (awO ..);simp only [yu,axb] at this
    grind
theorem CO (l:List Int) (hb:Nl l):bK 1000 [enc (bD l)] (cx (JI l)):=by
 have sX: ∀{k s n LD a e er ZW:Int},L 1050 [enc (bD l),0]=some [k,s,n,LD,a,e,er,ZW]->bK 1000 [enc (bD l)] (cx (er=0/\k=2/\IntKind.i64.wrap (e-a)=(l.length:Int))):=fun h=>by
  refine bK.of ?_;rw [alx];simp only [ajU,zz,eD,h]
  repeat' first
   |exact .out (eX ⟨by assumption,by assumption,by assumption⟩)
   |exact .out (dP fun h=>absurd h.1 (by assumption))
   |exact .out (dP fun h=>absurd h.2.1 (by assumption))
   |exact .out (dP fun h=>absurd h.2.2 (by assumption))
   |refine .ite (fun _=>?_) (fun _=>?_)
 have bs:=alE hb;by_cases hg:(16384:Int)<(l.length:Int)
 ·refine (sX (k:=0) (s:=enc (.i 0)) (n:=0) (LD:=0) (a:=0) (e:=0) (er:=3) (ZW:=0) ?_).iff ⟨fun h=>absurd h.1 J,fun h=>absurd h.1 J⟩;rw [bB,W7];simp only [Vu,zz,eD,hg,fin]
 ·have Y:l.length<=16384:=J
  obtain⟨p,hp,hB⟩:=UF (bD l) bs (by rw [eD]; omega) 0 J;rw [eD] at hp;have hB':L 12800 [enc (bD l),0]=some [0,enc (bD l),0,(p:Int)]:=hB
  have hp0: ∀h0:0<l.length,isLt l[0]=true->p=0:=fun h0 U=>by
   have:=Zm l hb Y h0 U 0
   grind
  have c0: ¬((0:Int)<0):=J
  have c1: ¬((l.length:Int)<0):=J
  have c2: ¬((p:Int)<0):=J
  have c3: ¬((l.length:Int)<(p:Int)):=J
  by_cases he:(p:Int)=(l.length:Int)
  ·have c9: ¬((l.length:Int)<(l.length:Int)):=J
   refine (sX (k:=5) (s:=enc (.i 0)) (n:=0) (er:=0) (ZW:=0) (by
    rw [bB,W7];simp only [Vu,zz,eD,hg,c0,c1,hB',c2,c3,he,c9,fin]
    rfl)).iff ⟨fun h=>absurd h.2.1 J,fun h=>?_⟩
   obtain⟨h0,U⟩:=h.2.1
   grind
  ·obtain⟨e,U,Z,hE⟩:=abZ (bD l) bs (by rw [eD]; omega) p (by rw [eD]; omega);rw [eD] at Z;have c4: ¬((e:Int)<(p:Int)):=J
   have c5: ¬((l.length:Int)<(e:Int)):=J
   have hq:=hb.part p e;have hql:((l.take e).drop p).length=e-p:=by simp only [bp,aY]; omega
   have hq0:0<((l.take e).drop p).length:=J
   obtain⟨b1',b2'⟩:=hq _ (aq hq0);obtain⟨na,nb,hN⟩:=SK _ (alE hq) (by rw [eD]; omega);obtain⟨q1,q2⟩:=cls b1' b2';have b1': ¬((l.take e).drop p)[0]<0:=J
   have fU:((bD ((l.take e).drop p)).at 0).n=((l.take e).drop p)[0]:=y0 hq0;have c6:(0:Int)<(((l.take e).drop p).length:Int):=J
   have c7:(((l.take e).drop p).length:Int)<1000000000:=J
   have c8:((([D.i 32]++(bD ((l.take e).drop p)).l:List D).length:Nat):Int)<1000000000:=by simp only [aZ,aT,bd,eD]; omega
   have l32:(D.p (.i 32) (.i 0)).l= [.i 32]:=rfl
   have QZ:p=0->∃h0:0<l.length,((l.take e).drop p)[0]=l[0]:=fun hp=>by
    grind
   have key: ∀{k s n LD a e' er ZW:Int},L 1050 [enc (bD l),0]=some [k,s,n,LD,a,e',er,ZW]->(er=0/\k=2->isLt ((l.take e).drop p)[0]=true/\¬BO As.Try.b1.l ((.i 32::(bD ((l.take e).drop p)).l)++ [.i 32])=true/\a=(p:Int)/\e'=(e:Int))->
    (p=0->e=l.length->isLt ((l.take e).drop p)[0]=true->¬BO As.Try.b1.l ((.i 32::(bD ((l.take e).drop p)).l)++ [.i 32])=true->er=0/\k=2/\a=(p:Int)/\e'=(e:Int))->bK 1000 [enc (bD l)] (cx (JI l)):=fun {k s n LD a e' er ZW} hL k1 k2=>by
    refine (sX hL).iff ⟨fun⟨g1,g2,g3⟩=>?_,fun hn=>?_⟩
    ·obtain⟨f1,f2,rfl,rfl⟩:=k1 ⟨g1,g2⟩;rw [fg J J] at g3;obtain rfl:p=0:=J
     obtain rfl:e=l.length:=J
     obtain⟨h0,hh⟩:=QZ rfl;rw [hh] at f1;obtain⟨p',p1,p2,p3,p4⟩:=zO l hb Y 0 (l.length-1) 1 J
     have hE0:L 12850 [enc (bD l),0]=some [0,enc (bD l),0,(p':Int)]:=by exact aqB
     have hE1:L 12850 [enc (bD l),0]=some [0,enc (bD l),0,(l.length:Int)]:=hE;rw [hE0] at hE1;simp only [ah,List.cons.injEq,and_true,true_and] at hE1;have hw1:=p3.1 J
     have hw: ∀b∈l,yu b=true:=fun b hb=>by
      have:l=l[0]::l.drop 1:=by
       have:=aG h0
       grind
      rw [this] at hb;rcases aF.1 hb with rfl|hb
      ·simp only [yu,f1,ayx]
      grind
     have hll:(l.take l.length).drop 0=l:=ad
     rw [hll] at f2;exact⟨Y,⟨h0,f1⟩,hw,fun q=>f2 ((Xq l h0 hw).2 q)⟩
    ·obtain⟨_,⟨h0,f1⟩,hw,f2⟩:=hn;obtain rfl:p=0:=hp0 h0 f1;obtain⟨p',p1,p2,p3,p4⟩:=zO l hb Y 0 (l.length-1) 1 J
     have hE0:L 12850 [enc (bD l),0]=some [0,enc (bD l),0,(p':Int)]:=by exact aqB
     have hE1:L 12850 [enc (bD l),0]=some [0,enc (bD l),0,(e:Int)]:=hE;rw [hE0] at hE1;simp only [ah,List.cons.injEq,and_true,true_and] at hE1;have:p'=l.length:=p3.2 fun b hb=>hw b (awR hb);obtain rfl:e=l.length:=J
     obtain⟨_,hh⟩:=QZ rfl;have hll:(l.take l.length).drop 0=l:=ad
     obtain⟨g1,g2,rfl,rfl⟩:=k2 rfl rfl (by rw [hh]; exact f1) (by rw [hll]; exact fun q=>f2 ((Xq l h0 hw).1 q));exact⟨g1,g2,fg J J⟩
   have n61:isLt ((l.take e).drop p)[0]=true->¬bD ((l.take e).drop p)= .p (.i 61) (.i 0):=fun g h=>by
    rw [h] at fU
    have:(61:Int)=((l.take e).drop p)[0]:=fU
    rw [<- this] at g;revert g;decide
   have Ib:L 1050 [enc (bD l),0]=L 1050 [enc (bD l),0]:=rfl
   conv at Ib=>rhs; rw [bB,W7]
   simp only [Vu,zz,eD,hg,c0,c1,hB',hE,c2,c3,c4,c5,he,D.V,ZT,pQ,zw,az,aA,ax,aW,axS,sM,fU,b1',b2',c6,c7,c8,hN,q1,q2,nR,bz] at Ib
   have ldg:isLt ((l.take e).drop p)[0]=true->¬Ip ((l.take e).drop p)[0]=true:=fun g h=>by
    grind
   by_cases gd:Ip ((l.take e).drop p)[0]=true
   ·rw [ag gd] at Ib;split at Ib
    ·exact key Ib (fun h=>absurd h.1 J) (fun _ _ h=>absurd gd (ldg h))
    ·exact key Ib (fun h=>absurd h.2 J) (fun _ _ h=>absurd gd (ldg h))
   ·rw [af gd] at Ib;by_cases gl:isLt ((l.take e).drop p)[0]=true
    ·have g61:=n61 gl;rw [ag gl] at Ib;by_cases gc:BO As.Try.b1.l ([D.i 32]++(bD ((l.take e).drop p)).l++ [.i 32])=true
     ·rw [af (by rw [ag gc]; omega)] at Ib;rw [af g61] at Ib;exact key Ib (fun h=>absurd h.2 J) (fun _ _ _ h=>absurd gc h)
     ·rw [ag (by rw [af gc])] at Ib;rw [af g61] at Ib;exact key Ib (fun _=> ⟨gl,gc,rfl,rfl⟩) (fun _ _ _ _=> ⟨rfl,rfl,rfl,rfl⟩)
    ·rw [af gl] at Ib;split at Ib
     ·split at Ib
      ·exact ahw
      ·exact key Ib (fun h=>absurd h.2 J) (fun _ _ h=>absurd h gl)
     ·exact ahw
section
variable {s kids:D} {i v:Nat} {loc left:Int} {p:Prop}
def JH (s:D):Prop:=JI (s.l.map D.n)
theorem aue (l:List Int):(bD l).l.map D.n=l:=by rw [P6,axd];exact axV _
theorem SM (h:Wd .str s):bK 1000 [enc s] (cx (JH s)):=by
 grind [aey,JH,aue,CO]
theorem YB (h:Wd .str s):bK 4650 [enc s] (cx (JH s)):=by
 grind [aey,JH,aue,aaN]
theorem w! (h:Wd .str s): ∃b,(b=0\/b=1)/\(b=1↔JH s)/\L 12900 [enc s,0]=some [b,enc s,0]:=by
 obtain⟨ys,h,b,rfl,Iu,yQ⟩:=SM h;rw [bB,adD];simp only [S!,zz,h];rcases Iu with rfl|rfl
 ·exact⟨0,.inl rfl,yQ,rfl⟩
 ·exact⟨1,.inr rfl,yQ,rfl⟩
def Gi (loc k:Int) (s:D) (n:Int) (ks:D):Prop:=
 (k=1/\(ks.l.length:Int)=0/\s= .i 0/\0<=n)\/(k=2/\(ks.l.length:Int)=0/\0<=n/\n<loc/\JH s)\/
 (k=3/\n=0/\(((ks.l.length:Int)=1/\s= .p (.i 45) (.i 0))\/((ks.l.length:Int)=2/\(s= .p (.i 43) (.i 0)\/s= .p (.i 45) (.i 0)\/s= .p (.i 42) (.i 0)\/s= .p (.i 61) (.p (.i 61) (.i 0))\/s= .p (.i 60) (.i 0)))))
def G5:Nat->Int->D->Prop
 |0,_,_=>False
 |v+1,loc,e=>(∀k∈(e.V 3).l,G5 v loc k)/\Gi loc (e.V 0).n (e.V 1) (e.V 2).n (e.V 3)
def G3:Nat->D->Prop
 |0,_=>False
 |v+1,e=> ∀k∈(e.V 3).l,G3 v k
def parts:Nat->D->Nat
 |0,_=>0
 |v+1,e=>1+((e.V 3).l.map (parts v)).sum
theorem WS: ∀(v:Nat) (loc:Int) (e:D),G5 v loc e->G3 v e
 |0,_,_,h=>h
 |v+1,loc,e,h=>fun k hk=>WS v loc k (h.1 k hk)
theorem BA (h:Wd (.sl 6) kids) (hi:i<kids.l.length): ∃k s n ks,kids.l[i]=dL [.i k,s,.i n,ks]/\fD .u8 k/\Wd .str s/\fD .i64 n/\Wd (.sl 6) ks/\(kids.l[i].V 0).n=k/\kids.l[i].V 1=s/\(kids.l[i].V 2).n=n/\kids.l[i].V 3=ks:=by obtain⟨k,s,n,ks,he,U,Z,h3,h4⟩:=qG h hi;exact⟨k,s,n,ks,he,U,Z,h3,h4,by rw [he,dN]; rfl,by rw [he,dN]; rfl,by rw [he,dN]; rfl,by rw [he,dN]; rfl⟩
def isW (v:Nat) (loc left:Int) (e:D) (ys:List Int):Prop:= ∃lf c:Int,ys= [lf,loc,c]/\(c=0\/c=1)/\(c=1↔G5 v loc e/\(parts v e:Int)<=left)/\(c=1->lf=left-parts v e)
def aoj (v:Nat) (loc left:Int) (l:List D) (p:Prop) (ys:List Int):Prop:= ∃lf c:Int,ys= [lf,loc,c]/\(c=0\/c=1)/\(c=1↔(∀k∈l,G5 v loc k)/\((l.map (parts v)).sum:Int)<=left/\p)/\(c=1->lf=left-(l.map (parts v)).sum)
theorem af7 (h0:0<=left) (h: ¬p):aoj v loc left [] p [left,loc,0]:=⟨_,_,rfl,.inl rfl,⟨fun h=>absurd h J,fun h'=>absurd h'.2.2 h⟩,fun h=>absurd h J⟩
theorem aa8 (h0:0<=left) (h:p):aoj v loc left [] p [left,loc,1]:=⟨_,_,rfl,.inr rfl,⟨fun _=> ⟨ad,by simpa using h0,h⟩,fun _=>rfl⟩,fun _=>by simp⟩
theorem DG: ∀(v deep:Nat),deep+v=21->∀(k n left loc:Int) (s kids e:D),Wd .str s->Wd (.sl 6) kids->0<=left->left<=1000->(e.V 0).n=k->e.V 1=s->(e.V 2).n=n->e.V 3=kids->
 bK 5050 [k,enc s,n,enc kids,(deep:Int),left,loc] (isW v loc left e)
 |v,deep,hm,k,n,left,loc,s,kids,e,hs,hk,QZ,C1,g0,g1,g2,g3=>by
  have wl:IntKind.i64.wrap (left-1)=left-1:=fg J J;refine bK.of ?_;rw [akP];simp only [ajn,zz,wl]
  have p1:0<v->1<=parts v e:=fun h=>by
   obtain⟨v,rfl⟩ : ∃v',v=v'+1:=⟨v-1,J⟩
   grind [parts]
  have no0: ¬G5 0 loc e:=id;refine .ite (fun hh=> .out ⟨_,0,rfl,.inl rfl,⟨fun h=>absurd h J,fun h=>?_⟩,fun h=>absurd h J⟩) fun hh=> .ite (fun V=> .out ⟨_,0,rfl,.inl rfl,⟨fun h=>absurd h J,fun h=>?_⟩,fun h=>absurd h J⟩) fun V=> .jump ?_
  ·grind
  ·grind
  obtain⟨v,rfl⟩ : ∃v',v=v'+1:=⟨v-1,J⟩;have ih:=DG v (deep+1) J;have hlen:=hk.len;have w0:=bx (n:=deep) J
  have loop: ∀(j i:Nat) (l':Int),i+j=kids.l.length->0<=l'->l'<=1000->bK 5051 [(deep:Int),enc kids,(kids.l.length:Int),(i:Int),l',loc,k,enc s,n] (aoj v loc l' (kids.l.drop i) (Gi loc k s n kids)):=by
   intro j
   induction j with
   |zero=>
    intro i l' hi q0 q1;have c1: ¬(i:Int)<(kids.l.length:Int):=J
    obtain⟨b,hb,yQ,hR⟩:=w! hs;refine bK.of ?_;rw [acB,aN J];simp only [F_,zz,c1,hR,nR]
    repeat' first
     |(refine .out (af7 q0 ?_); unfold Gi; grind)
     |(refine .out (aa8 q0 ?_); unfold Gi; grind)
     |refine .ite (fun _=>?_) (fun _=>?_)
    grind
   |succ j vH=>
    intro i l' hi q0 q1;have cY:i<kids.l.length:=J
    have c1:(i:Int)<(kids.l.length:Int):=J
    have c2: ¬((i:Int)<0):=J
    have w:=bx (n:=i) J;obtain⟨k',s',n',AX,he,_,U,_,Z,f0,f1,f2,f3⟩:=BA hk cY;obtain⟨ys,hR,lf,c,rfl,hc,O8,hc2⟩:=ih k' n' l' loc s' AX kids.l[i] U Z q0 q1 f0 f1 f2 f3;have V:kids.l.drop i=kids.l[i]::kids.l.drop (i+1):=aG cY;refine bK.of ?_;rw [acB,V];simp only [F_,zz,c1,c2,bF cY,he,zg,w0,w,hR];rw [<- he];refine .ite (fun LU=> .out ⟨_,0,rfl,.inl rfl,⟨fun h=>absurd h J,fun h=>?_⟩,fun h=>absurd h J⟩) fun LU=> .jump ?_
    ·have e1:=h.1 _ (awO ..);have e2:=h.2.1;simp only [aC,ayy] at e2;have:=O8.2 ⟨e1,J⟩;omega
    ·have O7:c=1:=J
     obtain⟨e1,e2⟩:=O8.1 O7;have e3:=hc2 O7;obtain⟨ys,hQ,lf',c',rfl,d0,d1,d2⟩:=vH (i+1) lf J J J;refine⟨_,hQ,lf',c',rfl,d0,?_,fun h=>?_⟩
     ·simp only [aC,ayy];refine d1.trans ⟨fun⟨a,b,c⟩=> ⟨fun k hk=>(aF.1 hk).elim (fun e=>e▸e1) (a k),J,c⟩,fun⟨a,b,c⟩=> ⟨fun k hk=>a k (aw3 _ hk),J,c⟩⟩
     ·simp only [aC,ayy];have:=d2 h;omega
  obtain⟨ys,hQ,lf,c,rfl,d0,d1,d2⟩:=loop kids.l.length 0 (left-1) J J J;refine⟨_,hQ,lf,c,rfl,d0,?_,fun h=>?_⟩
  ·simp only [G5,parts,g0,g1,g2,g3];refine d1.trans ?_;rw [awQ];exact⟨fun⟨a,b,c⟩=> ⟨⟨a,c⟩,J⟩,fun⟨⟨a,c⟩,b⟩=> ⟨a,J,c⟩⟩
  ·have:=d2 h;simp only [parts,g3];rw [awQ] at this;omega
theorem TA (loc:Int) (hw:Wd (.sl 6) kids) (hi:i<kids.l.length): ∃k s n ks,kids.l[i]=dL [.i k,s,.i n,ks]/\bK 800 [k,enc s,n,enc ks,loc] (cx (G5 20 loc kids.l[i]/\parts 20 kids.l[i]<=1000)):=by
 obtain⟨k,s,n,ks,he,_,U,_,Z,f0,f1,f2,f3⟩:=BA hw hi;obtain⟨ys,hR,lf,c,rfl,hc,O8,hc2⟩:=DG 20 1 J k n 1000 loc s ks _ U Z J J f0 f1 f2 f3;have hR':L 5050 [k,enc s,n,enc ks,1,1000,loc]=some [lf,loc,c]:=hR;refine⟨k,s,n,ks,he,bK.of ?_⟩;rw [atQ];simp only [arI,zz,hR'];refine .ite (fun h=> .out (dP fun h'=>?_)) fun h=> .out (eX ?_)
 all_goals grind
def asM (v:Nat) (e:D) (ys:List Int):Prop:= ∃c:Int,ys= [c]/\0<=c/\c<=10000+1000*v/\(c<=1000↔G3 v e/\parts v e<=1000)/\(c<=1000->c=parts v e)
def aoo (v:Nat) (m:Int) (l:List D) (ys:List Int):Prop:= ∃c:Int,ys= [c]/\0<=c/\c<=11000+1000*v/\(c<=1000↔(∀k∈l,G3 v k)/\m+(l.map (parts v)).sum<=1000)/\(c<=1000->c=m+(l.map (parts v)).sum)
theorem PO: ∀(v:Nat),v<=20->∀(k n:Int) (s kids e:D),Wd (.sl 6) kids->e.V 3=kids->bK 4300 [k,enc s,n,enc kids,(v:Int)] (asM v e)
 |0,_,k,n,s,kids,e,hk,g3=>by refine bK.of ?_;rw [acN];simp only [I?,zz];refine .ite (fun _=> .out ⟨10000,rfl,J,J,⟨fun h=>absurd h J,fun h=>absurd h.1 id⟩,fun h=>absurd h J⟩) fun h=>absurd h J
 |v+1,hv,k,n,s,kids,e,hk,g3=>by
  have ih:=PO v J;have hlen:=hk.len;have wv:IntKind.i64.wrap (((v+1:Nat):Int)-1)=(v:Int):=by rw [fg J J]; omega
  have loop: ∀(j i:Nat) (m:Int),i+j=kids.l.length->0<=m->m<=11000+1000*v->bK 4301 [((v+1:Nat):Int),m,(i:Int),k,enc s,n,enc kids] (aoo v m (kids.l.drop i)):=by
   intro j
   induction j with
   |zero=>
    intro i m hi m0 m1;have c1: ¬(i:Int)<(kids.l.length:Int):=J
    refine bK.of ?_;rw [acM,aN J];simp only [I!,zz,c1];exact .out ⟨m,rfl,m0,m1,⟨fun h=> ⟨ad,by simpa using h⟩,fun h=>by simpa using h.2⟩,fun _=>by simp⟩
   |succ j vH=>
    intro i m hi m0 m1;have cY:i<kids.l.length:=J
    have c1:(i:Int)<(kids.l.length:Int):=J
    have c2: ¬((i:Int)<0):=J
    have w:=bx (n:=i) J;obtain⟨k',s',n',AX,he,_,U,_,Z,f0,f1,f2,f3⟩:=BA hk cY;obtain⟨ys,hR,c,rfl,LU,O8,hc2,hc3⟩:=ih k' n' s' AX kids.l[i] Z f3;have V:kids.l.drop i=kids.l[i]::kids.l.drop (i+1):=aG cY;refine bK.of ?_;rw [acM,V];simp only [I!,zz,c1,c2,bF cY,he,zg,wv,w,hR];rw [<- he];refine .ite (fun hm=> .out ⟨m,rfl,m0,m1,⟨fun h=>absurd h J,fun h=>?_⟩,fun h=>absurd h J⟩) fun hm=> .jump ?_
    ·grind
    ·have wm:IntKind.i64.wrap (m+c)=m+c:=fg J J;rw [wm];obtain⟨ys,hQ,c',rfl,d0,d1,d2,d3⟩:=vH (i+1) (m+c) J J J;refine⟨_,hQ,c',rfl,d0,d1,?_,fun h=>?_⟩
     all_goals grind
  refine bK.of ?_;rw [acN];have c1: ¬((v+1:Nat):Int)<1:=J
  simp only [I?,zz,c1];refine .jump ?_;obtain⟨ys,hQ,c',rfl,d0,d1,d2,d3⟩:=loop kids.l.length 0 1 J J J;rw [awQ] at d2 d3;refine⟨_,hQ,c',rfl,d0,J,?_,fun h=>?_⟩
  ·simp only [G3,parts,g3]
   grind
  ·have:=d3 h;simp only [parts,g3];omega
theorem WR: ∀(v:Nat),∀(k n loc:Int) (s kids e:D),Wd .str s->Wd (.sl 6) kids->G3 v e->(e.V 0).n=k->e.V 1=s->(e.V 2).n=n->e.V 3=kids->bK 4350 [k,enc s,n,enc kids,loc] (cx (G5 v loc e))
 |0,k,n,loc,s,kids,e,hs,hk,hf,g0,g1,g2,g3=>absurd hf id
 |v+1,k,n,loc,s,kids,e,hs,hk,hf,g0,g1,g2,g3=>by
  have ih:=WR v;have hlen:=hk.len;simp only [G3,g3] at hf
  have loop: ∀(j i:Nat),i+j=kids.l.length->bK 4351 [loc,(i:Int),k,enc s,n,enc kids] (cx ((∀x∈kids.l.drop i,G5 v loc x)/\Gi loc k s n kids)):=by
   intro j
   induction j with
   |zero=>
    intro i hi;have c1: ¬(i:Int)<(kids.l.length:Int):=J
    obtain⟨ys,hR,b,rfl,hb,yQ⟩:=YB hs;refine bK.of ?_;rw [acL,aN J];simp only [I',zz,c1,hR,nR]
    repeat' first
     |(refine .out (dP fun h=>absurd h.2 ?_); unfold Gi; grind)
     |(refine .out (eX ⟨ad,?_⟩); unfold Gi; grind)
     |refine .ite (fun _=>?_) (fun _=>?_)
   |succ j vH=>
    intro i hi;have cY:i<kids.l.length:=J
    have c1:(i:Int)<(kids.l.length:Int):=J
    have c2: ¬((i:Int)<0):=J
    have w:=bx (n:=i) J;obtain⟨k',s',n',AX,he,_,U,_,Z,f0,f1,f2,f3⟩:=BA hk cY;obtain⟨ys,hR,c,rfl,hc,O8⟩:=ih k' n' loc s' AX kids.l[i] U Z (hf _ (aq cY)) f0 f1 f2 f3;have V:kids.l.drop i=kids.l[i]::kids.l.drop (i+1):=aG cY;refine bK.of ?_;rw [acL,V];simp only [I',zz,c1,c2,bF cY,he,zg,w,hR];rw [<- he];refine .ite (fun h0=> .out (dP fun h=>?_)) fun h0=> .jump ((vH (i+1) J).iff ?_)
    all_goals grind
  refine bK.of ?_;rw [ak1];simp only [ajy,zz];refine .jump ((loop kids.l.length 0 J).iff ?_)
  grind [G5]
end
section
variable {P:Prop} {l:List Int}
def kOf (o:Int):Int:=if o<=4 then 1 else if o<=8 then 2 else if o<=11 then 3 else if o<=14 then 4 else if o=15 then 5 else if o=16 then 6 else if o<=19 then 7 else if o<=21 then 8 else 9
def HW (o:Int):Int:=if o=4\/o=17\/o=20\/o=23 then 1 else 0
def zE (o:Int):Int:=if o=3\/o=4\/o=11\/o=21\/o=22 then 1 else 0
theorem oZ (o:Int):1<=kOf o/\kOf o<=9:=by unfold kOf; grind
theorem j6 (o:Int):HW o=0\/HW o=1:=by unfold HW; grind
theorem jW (o:Int):zE o=0\/zE o=1:=by unfold zE; grind
theorem yJ (o:Int):L 1200 [o]=some [kOf o]:=by
 have:bK 1200 [o] (fun ys=>ys= [kOf o]):=by refine bK.of ?_;rw [als];simp only [ajR,zz];exact air
 exact rX
theorem sN (o:Int):L 1250 [o]=some [HW o]:=by
 have:bK 1250 [o] (fun ys=>ys= [HW o]):=by refine bK.of ?_;rw [alr];simp only [ajQ,zz];exact aiq
 exact rX
theorem sE (o:Int):L 1300 [o]=some [zE o]:=by
 have:bK 1300 [o] (fun ys=>ys= [zE o]):=by refine bK.of ?_;rw [alq];simp only [ajP,zz];exact aip
 exact rX
theorem Ob (o:Int):L 4450 [o]=some [if 1<=o/\o<=23 then kOf o else 0]:=by
 have:bK 4450 [o] (fun ys=>ys= [if 1<=o/\o<=23 then kOf o else 0]):=by refine bK.of ?_;rw [akZ];simp only [ajw,zz];exact air
 exact rX
theorem SA (o:Int):L 4550 [o]=some [HW o]:=by
 have:bK 4550 [o] (fun ys=>ys= [HW o]):=by refine bK.of ?_;rw [akX];simp only [aju,zz];exact aiq
 exact rX
theorem Sz (o:Int):L 4600 [o]=some [zE o]:=by
 have:bK 4600 [o] (fun ys=>ys= [zE o]):=by refine bK.of ?_;rw [akW];simp only [ajt,zz];exact aip
 exact rX
theorem kQ (n b:Int):bK 4500 [n,b] (cx (0<=n/\n<b)):=by refine bK.of ?_;rw [akY];simp only [ajv,zz];exact .ite (fun _=> .out (dP J)) fun _=> .ite (fun _=> .out (eX J)) fun _=> .out (dP J)
theorem HE (k:Int):bK 1350 [k] (cx (k=3\/k=5\/k=8\/k=9)):=by refine bK.of ?_;rw [alp];simp only [ajO,zz];exact al6
theorem YK:(List.range 37).all (fun k=>Nat.ble 2 (OP (k:Int)).l.length)=true:=aa
theorem aaL (b:Int) (h0:0<=b) (U:b<256) (h:isLt b=true):L 1000 [enc (.p (.i b) (.i 0))]=some [1]:=by
 obtain⟨ys,hL,c,rfl,hc,hx⟩:=CO [b] (fun x hx=>by obtain rfl:=ayo.1 hx; exact⟨h0,U⟩)
 have:c=1:=hx.2 ⟨ad,⟨ad,h⟩,fun x hx=>by obtain rfl:=ayo.1 hx; simp only [yu,h,ayx],fun⟨k,hk,q⟩=>by
  have:=aP.1 YK _ (aw2.2 hk);have:=awS this;rw [<- q,eD] at this
  simp at this⟩
 rw [this] at hL;exact hL
theorem asx:L 1000 [enc (.p (.i 97) (.i 0))]=some [1]:=aaL 97 J J ae
theorem asw:L 1000 [enc (.p (.i 98) (.i 0))]=some [1]:=aaL 98 J J ae
theorem CM:L 1000 [enc (.i 0)]=some [0]:=by
 obtain⟨ys,hL,c,rfl,hc,hx⟩:=CO [] (fun x hx=>by simp at hx)
 have: ¬c=1:=fun h=>by
  obtain⟨h0,_⟩:=(hx.1 h).2.1
  grind
 rw [show c=0 by omega] at hL;exact hL
theorem au8: ¬(D.p (.i 98) (.i 0)= .i 0):=by intro h; cases h
theorem VP (k n z:Int):bK 1400 [k,enc (.p (.i 97) (.i 0)),n,enc (.i 0),z] (cx (1<=k/\k<=9/\k≠4/\0<=n/\(0<n->k=3\/k=5\/k=8\/k=9))):=by obtain⟨ys,hC,c,rfl,hc,hx⟩:=HE k;refine bK.of ?_;rw [W6];simp only [Vt,zz,asx,CM,hC];exact al6
theorem Lu (k n z:Int):bK 1400 [k,enc (.p (.i 97) (.i 0)),n,enc (.p (.i 98) (.i 0)),z] (cx (k=4/\n=0)):=by obtain⟨ys,hC,c,rfl,hc,hx⟩:=HE k;refine bK.of ?_;rw [W6];simp only [Vt,zz,asx,asw,hC,nR,au8];exact al6
theorem JA:L 1400 [1,enc (.p (.i 98) (.i 0)),0,enc (.i 0),0]=some [1]:=by
 have:bK 1400 [1,enc (.p (.i 98) (.i 0)),0,enc (.i 0),0] (fun ys=>ys= [1]):=by
  refine bK.of ?_;rw [W6];simp only [Vt,zz,asw]
  repeat' first |exact .out rfl|refine .ite (fun _=>?_) (fun _=>?_)|(exfalso; omega)|(exfalso; rename_i h; exact h rfl)
 exact rX
theorem LI:((dL [E1]).l.length:Int)=1:=rfl
def YL (P:Prop) (ys:List Int):Prop:= ∃b l,ys=b::l/\(b=0\/b=1)/\(b=1↔P)
theorem aom (h: ¬P):YL P (0::l):=⟨0,l,rfl,.inl rfl,fun h'=>absurd h' J,fun h'=>absurd h' h⟩
theorem aol (h:P):YL P (1::l):=⟨1,l,rfl,.inr rfl,fun _=>h,fun _=>rfl⟩
def obP (k n:Int):Prop:=1<=k/\k<=9/\k≠4/\0<=n/\(0<n->k=3\/k=5\/k=8\/k=9)
theorem vX (k n op:Int):bK 12400 [k,n,0,0,op,0,0] (YL (obP k n/\1<=op/\op<=23/\HW op=0/\zE op=0)):=by obtain⟨ys,U,o,rfl,ho,hx⟩:=VP k n 0;have Z:=sN op;have h3:=sE op;have Ns:=jW op;have KA:=j6 op;refine bK.of ?_;rw [adL];simp only [T?,zz,U,Z,h3,CM,Fc];exact aiD
theorem vW (k n op:Int):bK 12500 [k,n,0,0,op,0,0] (YL (obP k n/\1<=op/\op<=23/\HW op=0/\zE op=1)):=by obtain⟨ys,U,o,rfl,ho,hx⟩:=VP k n 0;have Z:=sN op;have h3:=sE op;have Ns:=jW op;have KA:=j6 op;refine bK.of ?_;rw [adJ];simp only [T_,zz,U,Z,h3,CM,Fc];exact aiD
theorem q! (k op:Int):bK 12450 [0,0,k,0,0,0,op,0,0] (YL (k=4/\1<=op/\op<=23/\HW op=0/\zE op=0)):=by obtain⟨ys,U,o,rfl,ho,hx⟩:=Lu k 0 0;have Z:=sN op;have h3:=sE op;have Ns:=jW op;have KA:=j6 op;refine bK.of ?_;rw [adK];simp only [T!,zz,U,Z,h3,CM,Fc,JA];exact al9
theorem q_ (k op:Int):bK 12550 [0,0,k,0,0,0,op,0,0] (YL (k=4/\1<=op/\op<=23/\HW op=0/\zE op=1)):=by obtain⟨ys,U,o,rfl,ho,hx⟩:=Lu k 0 0;have Z:=sN op;have h3:=sE op;have Ns:=jW op;have KA:=j6 op;refine bK.of ?_;rw [adI];simp only [S?,zz,U,Z,h3,CM,Fc,JA];exact al9
def A5 (P:Prop) (m k:Nat) (ys:List Int):Prop:=(¬(P/\m=1)/\∃l,ys=0::l)\/(P/\m=1/\low ys 0=1/\low ys k=1/\low ys (k+1)=enc (dL [E1]))
theorem vV (m:Nat) (hm:1<=m) (k n op:Int):bK 12600 [k,n,0,0,op,0,enc (jy m),0] (A5 (obP k n/\1<=op/\op<=23/\HW op=1/\zE op=0) m 9):=by
 obtain⟨ys,U,o,rfl,ho,hx⟩:=VP k n 0;have Z:=sN op;have h3:=sE op;have Ns:=jW op;have KA:=j6 op;refine bK.of ?_;rw [adH];unfold A5 obP;by_cases h:m=1
 ·subst h;have h5:=ya;simp only [R6,zz,U,Z,h3,CM,jy,List.replicate,h5,LI];exact aeY
 ·have c1: ¬((m:Int)=HW op):=J
  simp only [R6,zz,U,Z,h3,CM,tJ,c1];exact aeU
theorem vU (m:Nat) (hm:1<=m) (k n op:Int):bK 12700 [k,n,0,0,op,0,enc (jy m),0] (A5 (obP k n/\1<=op/\op<=23/\HW op=1/\zE op=1) m 9):=by
 obtain⟨ys,U,o,rfl,ho,hx⟩:=VP k n 0;have Z:=sN op;have h3:=sE op;have Ns:=jW op;have KA:=j6 op;refine bK.of ?_;rw [adF];unfold A5 obP;by_cases h:m=1
 ·subst h;have h5:=ya;simp only [R4,zz,U,Z,h3,CM,jy,List.replicate,h5,LI];exact aeY
 ·have c1: ¬((m:Int)=HW op):=J
  simp only [R4,zz,U,Z,h3,CM,tJ,c1];exact aeU
theorem p? (m:Nat) (hm:1<=m) (k op:Int):bK 12650 [0,0,k,0,0,0,op,0,enc (jy m),0] (A5 (k=4/\1<=op/\op<=23/\HW op=1/\zE op=0) m 11):=by
 obtain⟨ys,U,o,rfl,ho,hx⟩:=Lu k 0 0;have Z:=sN op;have h3:=sE op;have Ns:=jW op;have KA:=j6 op;refine bK.of ?_;rw [adG];unfold A5;by_cases h:m=1
 ·subst h;have h5:=ya;simp only [R5,zz,U,Z,h3,CM,JA,jy,List.replicate,h5,LI];exact aeY
 ·have c1: ¬((m:Int)=HW op):=J
  simp only [R5,zz,U,Z,h3,CM,JA,tJ,c1];exact aeU
theorem p! (m:Nat) (hm:1<=m) (k op:Int):bK 12750 [0,0,k,0,0,0,op,0,enc (jy m),0] (A5 (k=4/\1<=op/\op<=23/\HW op=1/\zE op=1) m 11):=by
 obtain⟨ys,U,o,rfl,ho,hx⟩:=Lu k 0 0;have Z:=sN op;have h3:=sE op;have Ns:=jW op;have KA:=j6 op;refine bK.of ?_;rw [adE];unfold A5;by_cases h:m=1
 ·subst h;have h5:=ya;simp only [R3,zz,U,Z,h3,CM,JA,jy,List.replicate,h5,LI];exact aeY
 ·have c1: ¬((m:Int)=HW op):=J
  simp only [R3,zz,U,Z,h3,CM,JA,tJ,c1];exact aeU
def di (k op iO:Int) (m:Nat) (loc:Int):Prop:=1<=op/\op<=23/\k=kOf op/\(m:Int)=HW op/\((iO= -1/\zE op=0)\/(iO≠-1/\zE op=1/\loc≠0))
theorem lT:((D.i 0).l.length:Int)=0:=rfl
theorem jw (k:D):((vF (D.i 0).l k (.i 1)).length:Int)=1:=rfl
end
section
variable {k:Int}
theorem VQ:obP k 1↔k=3\/k=5\/k=8\/k=9:=by unfold obP; omega
theorem VS:obP k 0↔1<=k/\k<=9/\k≠4:=by unfold obP; omega
theorem anr (x0 x2 x3 x4 x5 x6 x7 x8:Int) (hn:x5= -1) (hk:x0=3):bK 951 [x0,0,x2,x3,x4,x5,x6,x7,x8] (cx (di x0 x3 x5 0 0)):=by subst hk;obtain⟨ys,a1,b1,l1,rfl,f1,g1⟩:=vX 3 1 x3;exact zm9
theorem ano (x0 x2 x3 x4 x5 x6 x7 x8:Int) (hn:x5= -1) (hk:x0=8):bK 951 [x0,0,x2,x3,x4,x5,x6,x7,x8] (cx (di x0 x3 x5 0 0)):=by subst hk;obtain⟨ys,a1,b1,l1,rfl,f1,g1⟩:=vX 8 1 x3;exact zm9
theorem anp (x0 x2 x3 x4 x5 x6 x7 x8:Int) (hn:x5= -1) (hk:x0=5):bK 951 [x0,0,x2,x3,x4,x5,x6,x7,x8] (cx (di x0 x3 x5 0 0)):=by subst hk;obtain⟨ys,a1,b1,l1,rfl,f1,g1⟩:=vX 5 1 x3;exact zm9
theorem anq (x0 x2 x3 x4 x5 x6 x7 x8:Int) (hn:x5= -1) (hk:x0=4):bK 951 [x0,0,x2,x3,x4,x5,x6,x7,x8] (cx (di x0 x3 x5 0 0)):=by subst hk;obtain⟨ys,a1,b1,l1,rfl,f1,g1⟩:=q! 4 x3;exact zm5
theorem ans (x0 x2 x3 x4 x5 x6 x7 x8:Int) (hn:x5= -1) (h3:x0≠3) (h8:x0≠8) (h5:x0≠5) (h4:x0≠4):bK 951 [x0,0,x2,x3,x4,x5,x6,x7,x8] (cx (di x0 x3 x5 0 0)):=by obtain⟨ys,a1,b1,l1,rfl,f1,g1⟩:=vX x0 0 x3;exact aqG
theorem anm (x0 x2 x3 x4 x5 x6 x7 x8:Int) (hn:x5≠-1) (hk:x0=3):bK 951 [x0,0,x2,x3,x4,x5,x6,x7,x8] (cx (di x0 x3 x5 0 0)):=by subst hk;obtain⟨ys,a1,b1,l1,rfl,f1,g1⟩:=vW 3 1 x3;exact zm9
theorem anj (x0 x2 x3 x4 x5 x6 x7 x8:Int) (hn:x5≠-1) (hk:x0=8):bK 951 [x0,0,x2,x3,x4,x5,x6,x7,x8] (cx (di x0 x3 x5 0 0)):=by subst hk;obtain⟨ys,a1,b1,l1,rfl,f1,g1⟩:=vW 8 1 x3;exact zm9
theorem ank (x0 x2 x3 x4 x5 x6 x7 x8:Int) (hn:x5≠-1) (hk:x0=5):bK 951 [x0,0,x2,x3,x4,x5,x6,x7,x8] (cx (di x0 x3 x5 0 0)):=by subst hk;obtain⟨ys,a1,b1,l1,rfl,f1,g1⟩:=vW 5 1 x3;exact zm9
theorem anl (x0 x2 x3 x4 x5 x6 x7 x8:Int) (hn:x5≠-1) (hk:x0=4):bK 951 [x0,0,x2,x3,x4,x5,x6,x7,x8] (cx (di x0 x3 x5 0 0)):=by subst hk;obtain⟨ys,a1,b1,l1,rfl,f1,g1⟩:=q_ 4 x3;exact zm5
theorem ann (x0 x2 x3 x4 x5 x6 x7 x8:Int) (hn:x5≠-1) (h3:x0≠3) (h8:x0≠8) (h5:x0≠5) (h4:x0≠4):bK 951 [x0,0,x2,x3,x4,x5,x6,x7,x8] (cx (di x0 x3 x5 0 0)):=by obtain⟨ys,a1,b1,l1,rfl,f1,g1⟩:=vW x0 0 x3;exact aqG
theorem auG (x0 x2 x3 x4 x5 x6 x7 x8:Int):bK 951 [x0,0,x2,x3,x4,x5,x6,x7,x8] (cx (di x0 x3 x5 0 0)):=by
 by_cases hn:x5= -1
 ·
  by_cases h3:x0=3
  ·exact anr x0 x2 x3 x4 x5 x6 x7 x8 hn h3
  by_cases h8:x0=8
  ·exact ano x0 x2 x3 x4 x5 x6 x7 x8 hn h8
  by_cases h5:x0=5
  ·exact anp x0 x2 x3 x4 x5 x6 x7 x8 hn h5
  by_cases h4:x0=4
  ·exact anq x0 x2 x3 x4 x5 x6 x7 x8 hn h4
  exact ans x0 x2 x3 x4 x5 x6 x7 x8 hn h3 h8 h5 h4
 grind [anm,anj,ank,anl,ann]
theorem anh (x0 x2 x3 x4 x5 x6 x7 x8:Int) (hn:x5= -1) (hk:x0=3):bK 952 [x0,0,x2,x3,x4,x5,x6,x7,x8] (cx (di x0 x3 x5 0 1)):=by subst hk;obtain⟨ys,a1,b1,l1,rfl,f1,g1⟩:=vX 3 1 x3;exact XT
theorem ane (x0 x2 x3 x4 x5 x6 x7 x8:Int) (hn:x5= -1) (hk:x0=8):bK 952 [x0,0,x2,x3,x4,x5,x6,x7,x8] (cx (di x0 x3 x5 0 1)):=by subst hk;obtain⟨ys,a1,b1,l1,rfl,f1,g1⟩:=vX 8 1 x3;exact XT
theorem anf (x0 x2 x3 x4 x5 x6 x7 x8:Int) (hn:x5= -1) (hk:x0=5):bK 952 [x0,0,x2,x3,x4,x5,x6,x7,x8] (cx (di x0 x3 x5 0 1)):=by subst hk;obtain⟨ys,a1,b1,l1,rfl,f1,g1⟩:=vX 5 1 x3;exact XT
theorem ang (x0 x2 x3 x4 x5 x6 x7 x8:Int) (hn:x5= -1) (hk:x0=4):bK 952 [x0,0,x2,x3,x4,x5,x6,x7,x8] (cx (di x0 x3 x5 0 1)):=by subst hk;obtain⟨ys,a1,b1,l1,rfl,f1,g1⟩:=q! 4 x3;exact zm6
theorem ani (x0 x2 x3 x4 x5 x6 x7 x8:Int) (hn:x5= -1) (h3:x0≠3) (h8:x0≠8) (h5:x0≠5) (h4:x0≠4):bK 952 [x0,0,x2,x3,x4,x5,x6,x7,x8] (cx (di x0 x3 x5 0 1)):=by obtain⟨ys,a1,b1,l1,rfl,f1,g1⟩:=vX x0 0 x3;exact aqF
theorem anb (x0 x2 x3 x4 x5 x6 x7 x8:Int) (hn:x5≠-1) (hk:x0=3):bK 952 [x0,0,x2,x3,x4,x5,x6,x7,x8] (cx (di x0 x3 x5 0 1)):=by subst hk;obtain⟨ys,a1,b1,l1,rfl,f1,g1⟩:=vW 3 1 x3;exact XT
theorem am8 (x0 x2 x3 x4 x5 x6 x7 x8:Int) (hn:x5≠-1) (hk:x0=8):bK 952 [x0,0,x2,x3,x4,x5,x6,x7,x8] (cx (di x0 x3 x5 0 1)):=by subst hk;obtain⟨ys,a1,b1,l1,rfl,f1,g1⟩:=vW 8 1 x3;exact XT
theorem am9 (x0 x2 x3 x4 x5 x6 x7 x8:Int) (hn:x5≠-1) (hk:x0=5):bK 952 [x0,0,x2,x3,x4,x5,x6,x7,x8] (cx (di x0 x3 x5 0 1)):=by subst hk;obtain⟨ys,a1,b1,l1,rfl,f1,g1⟩:=vW 5 1 x3;exact XT
theorem ana (x0 x2 x3 x4 x5 x6 x7 x8:Int) (hn:x5≠-1) (hk:x0=4):bK 952 [x0,0,x2,x3,x4,x5,x6,x7,x8] (cx (di x0 x3 x5 0 1)):=by subst hk;obtain⟨ys,a1,b1,l1,rfl,f1,g1⟩:=q_ 4 x3;exact zm6
theorem anc (x0 x2 x3 x4 x5 x6 x7 x8:Int) (hn:x5≠-1) (h3:x0≠3) (h8:x0≠8) (h5:x0≠5) (h4:x0≠4):bK 952 [x0,0,x2,x3,x4,x5,x6,x7,x8] (cx (di x0 x3 x5 0 1)):=by obtain⟨ys,a1,b1,l1,rfl,f1,g1⟩:=vW x0 0 x3;exact aqF
theorem auF (x0 x2 x3 x4 x5 x6 x7 x8:Int):bK 952 [x0,0,x2,x3,x4,x5,x6,x7,x8] (cx (di x0 x3 x5 0 1)):=by
 by_cases hn:x5= -1
 ·
  by_cases h3:x0=3
  ·exact anh x0 x2 x3 x4 x5 x6 x7 x8 hn h3
  by_cases h8:x0=8
  ·exact ane x0 x2 x3 x4 x5 x6 x7 x8 hn h8
  by_cases h5:x0=5
  ·exact anf x0 x2 x3 x4 x5 x6 x7 x8 hn h5
  by_cases h4:x0=4
  ·exact ang x0 x2 x3 x4 x5 x6 x7 x8 hn h4
  exact ani x0 x2 x3 x4 x5 x6 x7 x8 hn h3 h8 h5 h4
 grind [anb,am8,am9,ana,anc]
theorem am6 (m:Nat) (hm:1<=m) (x0 x3 x4 x5 x6 x7 x8 x9:Int) (hn:x6= -1) (hk:x0=3):bK 953 [x0,(m:Int),(m:Int),x3,x4,x5,x6,x7,x8,x9,enc (jy m)] (cx (di x0 x4 x6 m 0)):=by subst hk;obtain⟨ys,a1,g1⟩:=vV m hm 3 1 x4;exact zm0
theorem am3 (m:Nat) (hm:1<=m) (x0 x3 x4 x5 x6 x7 x8 x9:Int) (hn:x6= -1) (hk:x0=8):bK 953 [x0,(m:Int),(m:Int),x3,x4,x5,x6,x7,x8,x9,enc (jy m)] (cx (di x0 x4 x6 m 0)):=by subst hk;obtain⟨ys,a1,g1⟩:=vV m hm 8 1 x4;exact zm0
theorem am4 (m:Nat) (hm:1<=m) (x0 x3 x4 x5 x6 x7 x8 x9:Int) (hn:x6= -1) (hk:x0=5):bK 953 [x0,(m:Int),(m:Int),x3,x4,x5,x6,x7,x8,x9,enc (jy m)] (cx (di x0 x4 x6 m 0)):=by subst hk;obtain⟨ys,a1,g1⟩:=vV m hm 5 1 x4;exact zm0
theorem am5 (m:Nat) (hm:1<=m) (x0 x3 x4 x5 x6 x7 x8 x9:Int) (hn:x6= -1) (hk:x0=4):bK 953 [x0,(m:Int),(m:Int),x3,x4,x5,x6,x7,x8,x9,enc (jy m)] (cx (di x0 x4 x6 m 0)):=by subst hk;obtain⟨ys,a1,g1⟩:=p? m hm 4 x4;exact aqL
theorem am7 (m:Nat) (hm:1<=m) (x0 x3 x4 x5 x6 x7 x8 x9:Int) (hn:x6= -1) (h3:x0≠3) (h8:x0≠8) (h5:x0≠5) (h4:x0≠4):bK 953 [x0,(m:Int),(m:Int),x3,x4,x5,x6,x7,x8,x9,enc (jy m)] (cx (di x0 x4 x6 m 0)):=by obtain⟨ys,a1,g1⟩:=vV m hm x0 0 x4;exact aqP
theorem am1 (m:Nat) (hm:1<=m) (x0 x3 x4 x5 x6 x7 x8 x9:Int) (hn:x6≠-1) (hk:x0=3):bK 953 [x0,(m:Int),(m:Int),x3,x4,x5,x6,x7,x8,x9,enc (jy m)] (cx (di x0 x4 x6 m 0)):=by subst hk;obtain⟨ys,a1,g1⟩:=vU m hm 3 1 x4;exact zm0
theorem amY (m:Nat) (hm:1<=m) (x0 x3 x4 x5 x6 x7 x8 x9:Int) (hn:x6≠-1) (hk:x0=8):bK 953 [x0,(m:Int),(m:Int),x3,x4,x5,x6,x7,x8,x9,enc (jy m)] (cx (di x0 x4 x6 m 0)):=by subst hk;obtain⟨ys,a1,g1⟩:=vU m hm 8 1 x4;exact zm0
theorem amZ (m:Nat) (hm:1<=m) (x0 x3 x4 x5 x6 x7 x8 x9:Int) (hn:x6≠-1) (hk:x0=5):bK 953 [x0,(m:Int),(m:Int),x3,x4,x5,x6,x7,x8,x9,enc (jy m)] (cx (di x0 x4 x6 m 0)):=by subst hk;obtain⟨ys,a1,g1⟩:=vU m hm 5 1 x4;exact zm0
theorem am0 (m:Nat) (hm:1<=m) (x0 x3 x4 x5 x6 x7 x8 x9:Int) (hn:x6≠-1) (hk:x0=4):bK 953 [x0,(m:Int),(m:Int),x3,x4,x5,x6,x7,x8,x9,enc (jy m)] (cx (di x0 x4 x6 m 0)):=by subst hk;obtain⟨ys,a1,g1⟩:=p! m hm 4 x4;exact aqL
theorem am2 (m:Nat) (hm:1<=m) (x0 x3 x4 x5 x6 x7 x8 x9:Int) (hn:x6≠-1) (h3:x0≠3) (h8:x0≠8) (h5:x0≠5) (h4:x0≠4):bK 953 [x0,(m:Int),(m:Int),x3,x4,x5,x6,x7,x8,x9,enc (jy m)] (cx (di x0 x4 x6 m 0)):=by obtain⟨ys,a1,g1⟩:=vU m hm x0 0 x4;exact aqP
theorem art (m:Nat) (hm:1<=m) (x0 x3 x4 x5 x6 x7 x8 x9:Int):bK 953 [x0,(m:Int),(m:Int),x3,x4,x5,x6,x7,x8,x9,enc (jy m)] (cx (di x0 x4 x6 m 0)):=by
 by_cases hn:x6= -1
 ·
  by_cases h3:x0=3
  ·exact am6 m hm x0 x3 x4 x5 x6 x7 x8 x9 hn h3
  by_cases h8:x0=8
  ·exact am3 m hm x0 x3 x4 x5 x6 x7 x8 x9 hn h8
  by_cases h5:x0=5
  ·exact am4 m hm x0 x3 x4 x5 x6 x7 x8 x9 hn h5
  by_cases h4:x0=4
  ·exact am5 m hm x0 x3 x4 x5 x6 x7 x8 x9 hn h4
  exact am7 m hm x0 x3 x4 x5 x6 x7 x8 x9 hn h3 h8 h5 h4
 grind [am1,amY,amZ,am0,am2]
theorem aru (M:Nat) (hM:M<=2513169434915) (x0 x3 x4 x5 x6 x7 x8 x9:Int): ∀(j m:Nat),m+j=M->1<=m->bK 953 [x0,(M:Int),(m:Int),x3,x4,x5,x6,x7,x8,x9,enc (jy m)] (cx (di x0 x4 x6 M 0))
 |0,m,U,Z=>by
  grind [art]
 |j+1,m,U,Z=>by
  have ih:=aru M hM x0 x3 x4 x5 x6 x7 x8 x9 j (m+1) J J;have c1:(m:Int)<(M:Int):=J
  have c2:((m:Nat):Int)<2513169434915:=J
  have w:=bx (n:=m) J
  have hr:jy (m+1)=dL ((jy m).l++ [E1]):=by unfold jy;rw [bz,List.replicate_succ']
  rw [hr] at ih;refine bK.of ?_;rw [ab5];simp only [NU,zz,c1,c2,tJ,w];exact .jump ih
theorem amW (m:Nat) (hm:1<=m) (x0 x3 x4 x5 x6 x7 x8 x9:Int) (hn:x6= -1) (hk:x0=3):bK 954 [x0,(m:Int),(m:Int),x3,x4,x5,x6,x7,x8,x9,enc (jy m)] (cx (di x0 x4 x6 m 1)):=by subst hk;obtain⟨ys,a1,g1⟩:=vV m hm 3 1 x4;exact zm1
theorem amT (m:Nat) (hm:1<=m) (x0 x3 x4 x5 x6 x7 x8 x9:Int) (hn:x6= -1) (hk:x0=8):bK 954 [x0,(m:Int),(m:Int),x3,x4,x5,x6,x7,x8,x9,enc (jy m)] (cx (di x0 x4 x6 m 1)):=by subst hk;obtain⟨ys,a1,g1⟩:=vV m hm 8 1 x4;exact zm1
theorem amU (m:Nat) (hm:1<=m) (x0 x3 x4 x5 x6 x7 x8 x9:Int) (hn:x6= -1) (hk:x0=5):bK 954 [x0,(m:Int),(m:Int),x3,x4,x5,x6,x7,x8,x9,enc (jy m)] (cx (di x0 x4 x6 m 1)):=by subst hk;obtain⟨ys,a1,g1⟩:=vV m hm 5 1 x4;exact zm1
theorem amV (m:Nat) (hm:1<=m) (x0 x3 x4 x5 x6 x7 x8 x9:Int) (hn:x6= -1) (hk:x0=4):bK 954 [x0,(m:Int),(m:Int),x3,x4,x5,x6,x7,x8,x9,enc (jy m)] (cx (di x0 x4 x6 m 1)):=by subst hk;obtain⟨ys,a1,g1⟩:=p? m hm 4 x4;exact aqK
theorem amX (m:Nat) (hm:1<=m) (x0 x3 x4 x5 x6 x7 x8 x9:Int) (hn:x6= -1) (h3:x0≠3) (h8:x0≠8) (h5:x0≠5) (h4:x0≠4):bK 954 [x0,(m:Int),(m:Int),x3,x4,x5,x6,x7,x8,x9,enc (jy m)] (cx (di x0 x4 x6 m 1)):=by obtain⟨ys,a1,g1⟩:=vV m hm x0 0 x4;exact aqN
theorem amR (m:Nat) (hm:1<=m) (x0 x3 x4 x5 x6 x7 x8 x9:Int) (hn:x6≠-1) (hk:x0=3):bK 954 [x0,(m:Int),(m:Int),x3,x4,x5,x6,x7,x8,x9,enc (jy m)] (cx (di x0 x4 x6 m 1)):=by subst hk;obtain⟨ys,a1,g1⟩:=vU m hm 3 1 x4;exact zm1
theorem amO (m:Nat) (hm:1<=m) (x0 x3 x4 x5 x6 x7 x8 x9:Int) (hn:x6≠-1) (hk:x0=8):bK 954 [x0,(m:Int),(m:Int),x3,x4,x5,x6,x7,x8,x9,enc (jy m)] (cx (di x0 x4 x6 m 1)):=by subst hk;obtain⟨ys,a1,g1⟩:=vU m hm 8 1 x4;exact zm1
theorem amP (m:Nat) (hm:1<=m) (x0 x3 x4 x5 x6 x7 x8 x9:Int) (hn:x6≠-1) (hk:x0=5):bK 954 [x0,(m:Int),(m:Int),x3,x4,x5,x6,x7,x8,x9,enc (jy m)] (cx (di x0 x4 x6 m 1)):=by subst hk;obtain⟨ys,a1,g1⟩:=vU m hm 5 1 x4;exact zm1
theorem amQ (m:Nat) (hm:1<=m) (x0 x3 x4 x5 x6 x7 x8 x9:Int) (hn:x6≠-1) (hk:x0=4):bK 954 [x0,(m:Int),(m:Int),x3,x4,x5,x6,x7,x8,x9,enc (jy m)] (cx (di x0 x4 x6 m 1)):=by subst hk;obtain⟨ys,a1,g1⟩:=p! m hm 4 x4;exact aqK
theorem amS (m:Nat) (hm:1<=m) (x0 x3 x4 x5 x6 x7 x8 x9:Int) (hn:x6≠-1) (h3:x0≠3) (h8:x0≠8) (h5:x0≠5) (h4:x0≠4):bK 954 [x0,(m:Int),(m:Int),x3,x4,x5,x6,x7,x8,x9,enc (jy m)] (cx (di x0 x4 x6 m 1)):=by obtain⟨ys,a1,g1⟩:=vU m hm x0 0 x4;exact aqN
theorem arp (m:Nat) (hm:1<=m) (x0 x3 x4 x5 x6 x7 x8 x9:Int):bK 954 [x0,(m:Int),(m:Int),x3,x4,x5,x6,x7,x8,x9,enc (jy m)] (cx (di x0 x4 x6 m 1)):=by
 by_cases hn:x6= -1
 ·
  by_cases h3:x0=3
  ·exact amW m hm x0 x3 x4 x5 x6 x7 x8 x9 hn h3
  by_cases h8:x0=8
  ·exact amT m hm x0 x3 x4 x5 x6 x7 x8 x9 hn h8
  by_cases h5:x0=5
  ·exact amU m hm x0 x3 x4 x5 x6 x7 x8 x9 hn h5
  by_cases h4:x0=4
  ·exact amV m hm x0 x3 x4 x5 x6 x7 x8 x9 hn h4
  exact amX m hm x0 x3 x4 x5 x6 x7 x8 x9 hn h3 h8 h5 h4
 grind [amR,amO,amP,amQ,amS]
theorem arq (M:Nat) (hM:M<=2513169434915) (x0 x3 x4 x5 x6 x7 x8 x9:Int): ∀(j m:Nat),m+j=M->1<=m->bK 954 [x0,(M:Int),(m:Int),x3,x4,x5,x6,x7,x8,x9,enc (jy m)] (cx (di x0 x4 x6 M 1))
 |0,m,U,Z=>by
  grind [arp]
 |j+1,m,U,Z=>by
  have ih:=arq M hM x0 x3 x4 x5 x6 x7 x8 x9 j (m+1) J J;have c1:(m:Int)<(M:Int):=J
  have c2:((m:Nat):Int)<2513169434915:=J
  have w:=bx (n:=m) J
  have hr:jy (m+1)=dL ((jy m).l++ [E1]):=by unfold jy;rw [bz,List.replicate_succ']
  rw [hr] at ih;refine bK.of ?_;rw [ab4];simp only [NT,zz,c1,c2,tJ,w];exact .jump ih
theorem W8 (x0 x1 x2 x3 x4 x5 x6 x8:Int) (d:D) (V:d.l.length<=2513169434915):bK 950 [x0,x1,x2,x3,x4,x5,x6,enc d,x8] (cx (di x0 x2 x4 d.l.length x8)):=by
 have hr:enc (jy 1)=enc (dL ([]++ [E1])):=rfl
 have key: ∀(t t2:Nat) (b:Int),(t=951/\t2=953/\b=0)\/(t=952/\t2=954/\b=1)->bK t [x0,(d.l.length:Int),x1,x2,x3,x4,x5,x6,enc d] (cx (di x0 x2 x4 d.l.length b)):=by
  intro t t2 b ht;by_cases h0:d.l.length=0
  ·grind [auG,enc,auF]
  ·have c1:(0:Int)<(d.l.length:Int):=J
   rcases ht with ⟨rfl,rfl,rfl⟩|⟨rfl,rfl,rfl⟩
   ·have:=aru d.l.length V x0 x1 x2 x3 x4 x5 x6 (enc d) (d.l.length-1) 1 J J;rw [hr] at this;refine bK.of ?_;rw [agx];simp only [afj,zz,c1,pQ];exact .jump this
   ·have:=arq d.l.length V x0 x1 x2 x3 x4 x5 x6 (enc d) (d.l.length-1) 1 J J;rw [hr] at this;refine bK.of ?_;rw [agw];simp only [afi,zz,c1,pQ];exact .jump this
 refine bK.of ?_;rw [atN];simp only [arB,zz];refine .ite (fun h=> .jump (by subst h; exact key 951 953 0 (.inl ⟨rfl,rfl,rfl⟩))) fun h=> .jump ((key 952 954 1 (.inr ⟨rfl,rfl,rfl⟩)).iff ?_)
 grind [di]
end
def L4 (nl:Nat) (e:D):Prop:=G5 20 (nl:Int) e/\parts 20 e<=1000
theorem Pk (kids loc:D) (sc code:Int) (hk:Wd (.sl 6) kids): ∀(j i:Nat),i+j=kids.l.length->bK 5401 [enc kids,(kids.l.length:Int),(i:Int),sc,enc loc,code] (fun ys=> ∃c:Int,ys= [sc,enc loc,code,c]/\(c<0↔∀e∈kids.l.drop i,L4 loc.l.length e))
 |0,i,hi=>by
  have c1: ¬(i:Int)<(kids.l.length:Int):=J
  refine bK.of ?_;rw [acx,aN J];simp only [D?,zz,c1];exact .out ⟨_,rfl,⟨fun _=>by simp,fun _=>by omega⟩⟩
 |j+1,i,hi=>by
  have hlen:=hk.len;have cY:i<kids.l.length:=J
  have c1:(i:Int)<(kids.l.length:Int):=J
  have c2: ¬((i:Int)<0):=J
  have w:=bx (n:=i) J;have V:kids.l.drop i=kids.l[i]::kids.l.drop (i+1):=aG cY;obtain⟨k',s',n',AX,he,ys,hR,b,rfl,hb,yQ⟩:=TA (loc.l.length:Int) hk cY;refine bK.of ?_;rw [acx,V];simp only [D?,zz,c1,c2,bF cY,he,zg,w,hR];rw [<- he];refine .ite (fun h0=> .out ⟨_,rfl,⟨fun h=>by omega,fun h=>?_⟩⟩) fun h0=> .jump ?_
  ·have:=yQ.2 (h _ (awO ..));omega
  ·obtain⟨ys,hQ,c,rfl,hc⟩:=Pk kids loc sc code hk j (i+1) J;have U:=yQ.1 J;exact⟨_,hQ,c,rfl,hc.trans ⟨fun q b hb=>(aF.1 hb).elim (fun e=>e▸U) (q b),fun q b hb=>q b (aw3 _ hb)⟩⟩
theorem ao1 (kids loc:D) (sc code:Int) (hk:Wd (.sl 6) kids):bK 5000 [enc kids,sc,enc loc,code] (fun ys=> ∃c:Int,ys= [sc,enc loc,code,c]/\(c=0↔∀e∈kids.l,L4 loc.l.length e)):=by
 have h0:bK 5400 [enc kids,sc,enc loc,code] (fun ys=> ∃c:Int,ys= [sc,enc loc,code,c]/\(c<0↔∀e∈kids.l,L4 loc.l.length e)):=by refine bK.of ?_;rw [akF];simp only [ajg,zz];exact .jump (Pk kids loc sc code hk kids.l.length 0 J)
 obtain⟨ys,hR,i,rfl,hi⟩:=h0;refine bK.of ?_;rw [akQ];simp only [ajo,zz,hR];exact .ite (fun h=> .out ⟨_,rfl,⟨fun _=>hi.1 h,fun _=>rfl⟩⟩) fun h=> .out ⟨_,rfl,⟨fun h'=>by omega,fun h'=>absurd (hi.2 h') h⟩⟩
def si (d0:D) (nl nc:Nat) (dx op ob iO to:Int) (na:Nat):Prop:=
 (dx=1/\0<=ob/\ob<(d0.l.length:Int)/\1<=op/\op<=23/\((d0.at ob).V 0).n=kOf op/\(na:Int)=HW op/\((iO= -1/\zE op=0)\/(zE op=1/\0<=iO/\iO<(nl:Int)))/\(op=16->0<=to/\to<=(nc:Int)))\/
 (dx=2/\0<=ob/\ob<(d0.l.length:Int)/\((d0.at ob).V 0).n=6)\/(dx=3/\0<=iO/\iO<(nl:Int)/\(na:Int)=1)\/(dx=4/\0<=to/\to<=(nc:Int)/\(na:Int)=1)\/
 (dx=5/\0<=to/\to<=(nc:Int))\/(dx=6/\0<=iO/\iO<(nl:Int))\/(dx=7/\0<=iO/\iO<(nl:Int)/\0<=to/\to<=(nc:Int))
def opP (d0:D) (op ob:Int) (na:Nat):Prop:=1<=op/\op<=23/\((d0.at ob).V 0).n=kOf op/\(na:Int)=HW op
theorem Ws (d0:D) (nl nc:Nat) (op ob iO to:Int) (na:Nat):(0<=ob/\ob<(d0.l.length:Int)/\opP d0 op ob na/\((iO= -1/\zE op=0)\/(zE op=1/\0<=iO/\iO<(nl:Int)))/\(op=16->0<=to/\to<=(nc:Int)))↔si d0 nl nc 1 op ob iO to na:=by
 grind [si,opP]
theorem Wq (d0:D) (nl nc:Nat) (op ob iO to:Int) (na:Nat):(0<=ob/\ob<(d0.l.length:Int)/\((d0.at ob).V 0).n=6)↔si d0 nl nc 2 op ob iO to na:=by
 grind [si]
theorem Wo (d0:D) (nl nc:Nat) (op ob iO to:Int) (na:Nat):(0<=iO/\iO<(nl:Int)/\(na:Int)=1)↔si d0 nl nc 3 op ob iO to na:=by
 grind [si]
theorem Wn (d0:D) (nl nc:Nat) (op ob iO to:Int) (na:Nat):(0<=to/\to<=(nc:Int)/\(na:Int)=1)↔si d0 nl nc 4 op ob iO to na:=by
 grind [si]
theorem Wm (d0:D) (nl nc:Nat) (op ob iO to:Int) (na:Nat):(0<=to/\to<=(nc:Int))↔si d0 nl nc 5 op ob iO to na:=by
 grind [si]
theorem Wl (d0:D) (nl nc:Nat) (op ob iO to:Int) (na:Nat):(0<=iO/\iO<(nl:Int))↔si d0 nl nc 6 op ob iO to na:=by
 grind [si]
theorem Wk (d0:D) (nl nc:Nat) (op ob iO to:Int) (na:Nat):(0<=iO/\iO<(nl:Int)/\0<=to/\to<=(nc:Int))↔si d0 nl nc 7 op ob iO to na:=by
 grind [si]
set_option maxHeartbeats 1000000 in
theorem avf (d0 d1 d3 d4 d:D) (x2 x6 x7 x8 x9 qo:Int) (V:d.l.length<=2513169434915):bK 750 [enc d0,enc d1,x2,enc d3,enc d4,1,x6,x7,x8,x9,qo,enc d] (cx (0<=x7/\x7<(d0.l.length:Int)/\opP d0 x6 x7 d.l.length/\((x8= -1/\zE x6=0)\/(zE x6=1/\0<=x8/\x8<(d3.l.length:Int)))/\(x6=16->0<=x9/\x9<=(d4.l.length:Int)))):=by
 obtain⟨ys,h0,b0,rfl,p0,f0⟩:=W8 ((d0.at x7).V 0).n 1 x6 x7 x8 x9 qo 0 d V;obtain⟨ys,U,b1,rfl,p1,f1⟩:=W8 ((d0.at x7).V 0).n 1 x6 x7 x8 x9 qo 1 d V;by_cases hQ:opP d0 x6 x7 d.l.length
 ·have f0:b0=1↔(x8= -1/\zE x6=0):=f0.trans ⟨fun h=>h.2.2.2.2.elim id fun h=>absurd rfl h.2.2,fun h=> ⟨hQ.1,hQ.2.1,hQ.2.2.1,hQ.2.2.2,.inl h⟩⟩;have f1:b1=1↔(x8= -1/\zE x6=0)\/(x8≠-1/\zE x6=1):=f1.trans ⟨fun h=>h.2.2.2.2.imp id fun h=> ⟨h.1,h.2.1⟩,fun h=> ⟨hQ.1,hQ.2.1,hQ.2.2.1,hQ.2.2.2,h.imp id fun h=> ⟨h.1,h.2,J⟩⟩⟩;refine bK.iff (p:=0<=x7/\x7<(d0.l.length:Int)/\((x8= -1/\zE x6=0)\/(zE x6=1/\0<=x8/\x8<(d3.l.length:Int)))/\(x6=16->0<=x9/\x9<=(d4.l.length:Int))) ?_ ⟨fun⟨a,b,c⟩=> ⟨a,b,hQ,c⟩,fun⟨a,b,_,c⟩=> ⟨a,b,c⟩⟩;refine bK.of ?_;rw [acw];simp only [D!,zz,Int.reduceEq,h0,U];exact zm7
 ·have f0:b0=0:=by
   have: ¬b0=1:=fun h=>hQ ⟨(f0.1 h).1,(f0.1 h).2.1,(f0.1 h).2.2.1,(f0.1 h).2.2.2.1⟩;omega
  have f1:b1=0:=by have: ¬b1=1:=fun h=>hQ ⟨(f1.1 h).1,(f1.1 h).2.1,(f1.1 h).2.2.1,(f1.1 h).2.2.2.1⟩;omega
  refine bK.iff (p:=False) ?_ ⟨fun h=>h.elim,fun h=>hQ h.2.2.1⟩;refine bK.of ?_;rw [acw];simp only [D!,zz,Int.reduceEq,h0,U,f0,f1];exact zm7
set_option maxHeartbeats 1000000 in
theorem ave (d0 d1 d3 d4 d:D) (x2 x6 x7 x8 x9 qo:Int):bK 750 [enc d0,enc d1,x2,enc d3,enc d4,2,x6,x7,x8,x9,qo,enc d] (cx (0<=x7/\x7<(d0.l.length:Int)/\((d0.at x7).V 0).n=6)):=by exact XS
set_option maxHeartbeats 1000000 in
theorem avd (d0 d1 d3 d4 d:D) (x2 x6 x7 x8 x9 qo:Int):bK 750 [enc d0,enc d1,x2,enc d3,enc d4,3,x6,x7,x8,x9,qo,enc d] (cx (0<=x8/\x8<(d3.l.length:Int)/\(d.l.length:Int)=1)):=by exact XS
set_option maxHeartbeats 1000000 in
theorem avc (d0 d1 d3 d4 d:D) (x2 x6 x7 x8 x9 qo:Int):bK 750 [enc d0,enc d1,x2,enc d3,enc d4,4,x6,x7,x8,x9,qo,enc d] (cx (0<=x9/\x9<=(d4.l.length:Int)/\(d.l.length:Int)=1)):=by exact XS
set_option maxHeartbeats 1000000 in
theorem avb (d0 d1 d3 d4 d:D) (x2 x6 x7 x8 x9 qo:Int):bK 750 [enc d0,enc d1,x2,enc d3,enc d4,5,x6,x7,x8,x9,qo,enc d] (cx (0<=x9/\x9<=(d4.l.length:Int))):=by exact XS
set_option maxHeartbeats 1000000 in
theorem ava (d0 d1 d3 d4 d:D) (x2 x6 x7 x8 x9 qo:Int):bK 750 [enc d0,enc d1,x2,enc d3,enc d4,6,x6,x7,x8,x9,qo,enc d] (cx (0<=x8/\x8<(d3.l.length:Int))):=by exact XS
set_option maxHeartbeats 1000000 in
theorem au9 (d0 d1 d3 d4 d:D) (x2 x6 x7 x8 x9 qo:Int):bK 750 [enc d0,enc d1,x2,enc d3,enc d4,7,x6,x7,x8,x9,qo,enc d] (cx (0<=x8/\x8<(d3.l.length:Int)/\0<=x9/\x9<=(d4.l.length:Int))):=by exact XS
set_option maxHeartbeats 1000000 in
theorem avg (d0 d1 d3 d4 d:D) (x2 x6 x7 x8 x9 qo:Int) (x5:Int) (U:x5≠1) (Z:x5≠2) (h3:x5≠3) (h4:x5≠4) (h5:x5≠5) (h6:x5≠6) (h7:x5≠7):bK 750 [enc d0,enc d1,x2,enc d3,enc d4,x5,x6,x7,x8,x9,qo,enc d] (cx (False)):=by refine bK.of ?_;rw [acw];simp only [D!,zz,Int.reduceEq,U,Z,h3,h4,h5,h6,h7];exact zm7
set_option maxHeartbeats 1000000 in
theorem avp (d0 d1 d3 d4 d:D) (x2 x6 x7 x8 x9 qo:Int) (Y:d4.l.length<=140737488351232):bK 4250 [enc d0,enc d1,x2,enc d3,enc d4,1,x6,x7,x8,x9,qo,enc d] (cx (0<=x7/\x7<(d0.l.length:Int)/\opP d0 x6 x7 d.l.length/\((x8= -1/\zE x6=0)\/(zE x6=1/\0<=x8/\x8<(d3.l.length:Int)))/\(x6=16->0<=x9/\x9<=(d4.l.length:Int)))):=by
 have w:=bx (n:=d4.l.length) J;obtain⟨ys,g0,b0,rfl,c0,f0⟩:=kQ x8 (d3.l.length:Int);obtain⟨ys,g1,b1,rfl,c1,f1⟩:=kQ x9 ((d4.l.length+1:Nat):Int);obtain⟨ys,g2,b2,rfl,c2,f2⟩:=kQ x7 (d0.l.length:Int);have g3:=Ob x6;have g4:=SA x6;have g5:=Sz x6;have Ns:=jW x6;by_cases pb:1<=x6/\x6<=23
 ·rw [ag pb] at g3;refine bK.of ?_;rw [Kg];simp only [IN,zz,Int.reduceEq,w,g0,g1,g2,g3,g4,g5];unfold opP;exact zm7
 ·rw [af pb] at g3;refine bK.iff (p:=False) ?_ ⟨fun h=>h.elim,fun h=>pb ⟨h.2.2.1.1,h.2.2.1.2.1⟩⟩;refine bK.of ?_;rw [Kg];simp only [IN,zz,Int.reduceEq,w,g0,g1,g2,g3,g4,g5];exact zm7
set_option maxHeartbeats 1000000 in
theorem avo (d0 d1 d3 d4 d:D) (x2 x6 x7 x8 x9 qo:Int) (Y:d4.l.length<=140737488351232):bK 4250 [enc d0,enc d1,x2,enc d3,enc d4,2,x6,x7,x8,x9,qo,enc d] (cx (0<=x7/\x7<(d0.l.length:Int)/\((d0.at x7).V 0).n=6)):=by have w:=bx (n:=d4.l.length) J;obtain⟨ys,g0,b0,rfl,c0,f0⟩:=kQ x8 (d3.l.length:Int);obtain⟨ys,g1,b1,rfl,c1,f1⟩:=kQ x9 ((d4.l.length+1:Nat):Int);obtain⟨ys,g2,b2,rfl,c2,f2⟩:=kQ x7 (d0.l.length:Int);refine bK.of ?_;rw [Kg];simp only [IN,zz,Int.reduceEq,w,g0,g1,g2];exact zm7
set_option maxHeartbeats 1000000 in
theorem avn (d0 d1 d3 d4 d:D) (x2 x6 x7 x8 x9 qo:Int) (Y:d4.l.length<=140737488351232):bK 4250 [enc d0,enc d1,x2,enc d3,enc d4,3,x6,x7,x8,x9,qo,enc d] (cx (0<=x8/\x8<(d3.l.length:Int)/\(d.l.length:Int)=1)):=by exact m_
set_option maxHeartbeats 1000000 in
theorem avm (d0 d1 d3 d4 d:D) (x2 x6 x7 x8 x9 qo:Int) (Y:d4.l.length<=140737488351232):bK 4250 [enc d0,enc d1,x2,enc d3,enc d4,4,x6,x7,x8,x9,qo,enc d] (cx (0<=x9/\x9<=(d4.l.length:Int)/\(d.l.length:Int)=1)):=by exact m_
set_option maxHeartbeats 1000000 in
theorem avl (d0 d1 d3 d4 d:D) (x2 x6 x7 x8 x9 qo:Int) (Y:d4.l.length<=140737488351232):bK 4250 [enc d0,enc d1,x2,enc d3,enc d4,5,x6,x7,x8,x9,qo,enc d] (cx (0<=x9/\x9<=(d4.l.length:Int))):=by exact m_
set_option maxHeartbeats 1000000 in
theorem avk (d0 d1 d3 d4 d:D) (x2 x6 x7 x8 x9 qo:Int) (Y:d4.l.length<=140737488351232):bK 4250 [enc d0,enc d1,x2,enc d3,enc d4,6,x6,x7,x8,x9,qo,enc d] (cx (0<=x8/\x8<(d3.l.length:Int))):=by exact m_
set_option maxHeartbeats 1000000 in
theorem avj (d0 d1 d3 d4 d:D) (x2 x6 x7 x8 x9 qo:Int) (Y:d4.l.length<=140737488351232):bK 4250 [enc d0,enc d1,x2,enc d3,enc d4,7,x6,x7,x8,x9,qo,enc d] (cx (0<=x8/\x8<(d3.l.length:Int)/\0<=x9/\x9<=(d4.l.length:Int))):=by exact m_
set_option maxHeartbeats 1000000 in
theorem avq (d0 d1 d3 d4 d:D) (x2 x6 x7 x8 x9 qo:Int) (Y:d4.l.length<=140737488351232) (x5:Int) (U:x5≠1) (Z:x5≠2) (h3:x5≠3) (h4:x5≠4) (h5:x5≠5) (h6:x5≠6) (h7:x5≠7):bK 4250 [enc d0,enc d1,x2,enc d3,enc d4,x5,x6,x7,x8,x9,qo,enc d] (cx (False)):=by have w:=bx (n:=d4.l.length) J;obtain⟨ys,g0,b0,rfl,c0,f0⟩:=kQ x8 (d3.l.length:Int);obtain⟨ys,g1,b1,rfl,c1,f1⟩:=kQ x9 ((d4.l.length+1:Nat):Int);obtain⟨ys,g2,b2,rfl,c2,f2⟩:=kQ x7 (d0.l.length:Int);refine bK.of ?_;rw [Kg];simp only [IN,zz,Int.reduceEq,w,g0,g1,g2,U,Z,h3,h4,h5,h6,h7];exact zm7
theorem an9 (d0 d1 d3 d4 d:D) (x2 x5 x6 x7 x8 x9 qo:Int) (V:d.l.length<=2513169434915):bK 750 [enc d0,enc d1,x2,enc d3,enc d4,x5,x6,x7,x8,x9,qo,enc d] (cx (si d0 d3.l.length d4.l.length x5 x6 x7 x8 x9 d.l.length)):=by
 by_cases U:x5=1
 ·grind [avf,Ws]
 by_cases Z:x5=2
 ·grind [ave,Wq]
 by_cases h3:x5=3
 ·grind [avd,Wo]
 by_cases h4:x5=4
 ·grind [avc,Wn]
 by_cases h5:x5=5
 ·grind [avb,Wm]
 grind [ava,Wl,au9,Wk,avg,si]
theorem aor (d0 d1 d3 d4 d:D) (x2 x5 x6 x7 x8 x9 qo:Int) (Y:d4.l.length<=140737488351232):bK 4250 [enc d0,enc d1,x2,enc d3,enc d4,x5,x6,x7,x8,x9,qo,enc d] (cx (si d0 d3.l.length d4.l.length x5 x6 x7 x8 x9 d.l.length)):=by
 by_cases U:x5=1
 ·grind [avp,Ws]
 by_cases Z:x5=2
 ·grind [avo,Wq]
 by_cases h3:x5=3
 ·grind [avn,Wo]
 by_cases h4:x5=4
 ·grind [avm,Wn]
 by_cases h5:x5=5
 ·grind [avl,Wm]
 grind [avk,Wl,avj,Wk,avq,si]
theorem anY (d0:D) (x1 x2 x3 x4 x5 x6:Int):bK 700 [enc d0,x1,x2,x3,x4,x5,x6] (cx (OkO d0 x2 x4)):=by refine bK.of ?_;rw [atS];simp only [arJ,zz];exact aiG
theorem afU (d0:D) (x1 x2 x3 x4 x5 x6:Int):bK 4200 [enc d0,x1,x2,x3,x4,x5,x6] (cx (OkO d0 x2 x4)):=by refine bK.of ?_;rw [ak2];simp only [ajz,zz];exact aiG
section
variable {P Q:Prop} {j:Nat} {xs:List Int}
def yP (d0:D) (nl nc:Nat) (y:D):Prop:=si d0 nl nc (y.V 0).n (y.V 1).n (y.V 2).n (y.V 3).n (y.V 4).n (y.V 6).l.length/\∀e∈(y.V 6).l,L4 nl e
def zc (d0 t:D):Prop:=(t.V 1).l.length<=120/\(t.V 2).l.length<=4000/\∀y∈(t.V 2).l,yP d0 (t.V 1).l.length (t.V 2).l.length y
def Iz (d0 d1:D):Prop:=d0.l.length<=64/\d1.l.length<=16/\(∀x∈d0.l,AM d0 x)/\∀t∈d1.l,zc d0 t
def QW (P:Prop) (ys:List Int):Prop:= ∃b:Int,ys= [b]/\(b=0\/b=120)/\(b=0↔P)
theorem wO (h: ¬P):QW P [120]:=⟨120,rfl,.inr rfl,fun h'=>absurd h' J,fun h'=>absurd h' h⟩
theorem Wi (h:P):QW P [0]:=⟨0,rfl,.inl rfl,fun _=>h,fun _=>rfl⟩
theorem QW.of {ys:List Int} (h:QW P ys) (e:P↔Q):QW Q ys:=by
 grind
theorem bK.c (h:bK j xs (QW P)) (e:P↔Q):bK j xs (QW Q):=by
 grind
theorem bK.no (h:bK j xs (·= [120])) (e: ¬P):bK j xs (QW P):=by obtain⟨ys,a,rfl⟩:=h;exact⟨_,a,wO e⟩
theorem all_cons {a:D} {l:List D} {p:D->Prop} (h:p a):(∀b∈l,p b)↔∀b∈a::l,p b:=
 ⟨fun q b hb=>(aF.1 hb).elim (fun e=>e▸h) (q b),fun q b hb=>q b (aw3 _ hb)⟩
theorem abg {cd:D} (h:Wd (.sl 5) cd) {i:Nat} (hi:i<cd.l.length): ∃a b c e f g qv,cd.l[i]=dL [.i a,.i b,.i c,.i e,.i f,.i g,qv]/\Wd (.sl 6) qv/\(∀d0 nl nc,yP d0 nl nc cd.l[i]↔si d0 nl nc a b c e f qv.l.length/\∀x∈qv.l,L4 nl x):=by obtain⟨a,b,c,e,f,g,qv,sj,_,_,_,_,_,_,has⟩:=Ta h hi;refine⟨a,b,c,e,f,g,qv,sj,has,fun d0 nl nc=>?_⟩;unfold yP;rw [sj];simp only [dN];rfl
section
variable {d0 d1:D} (h0:Wd (.sl 3) d0) (U:Wd (.sl 4) d1)
include U
theorem aeo: ∀(j i:Nat),i+j=d1.l.length->bK 453 [enc d1,(d1.l.length:Int),(i:Int),enc d0] (·= [120])
 |0,i,hi=>by
  have c1: ¬(i:Int)<(d1.l.length:Int):=J
  refine bK.of ?_;rw [ape];simp only [anF,zz,c1];exact .out rfl
 |j+1,i,hi=>by
  have Y:=U.len;have c1:(i:Int)<(d1.l.length:Int):=J
  have c2: ¬((i:Int)<0):=J
  have w:=bx (n:=i) J;refine bK.of ?_;rw [ape];simp only [anF,zz,c1,c2];refine .jump (bK.of ?_);rw [apc];simp only [anD,zz,w];exact .ite (fun _=> .jump (aeo j (i+1) J)) fun _=> .jump (aeo j (i+1) J)
theorem agS (i:Nat) (hi:i<d1.l.length) (j:Nat) (hj:i+1+j=d1.l.length) (x0 x5 x6 x7:Int):bK 455 [x0,enc d1,(d1.l.length:Int),(i:Int),enc d0,x5,x6,x7] (·= [120]):=by have Y:=U.len;have w:=bx (n:=i) J;refine bK.of ?_;rw [apc];simp only [anD,zz,w];exact .ite (fun _=> .jump (aeo U j (i+1) J)) fun _=> .jump (aeo U j (i+1) J)
theorem aua: ∀(j i:Nat),i+j=d1.l.length->bK 454 [enc d1,(d1.l.length:Int),(i:Int),enc d0] (QW (∀t∈d1.l.drop i,zc d0 t))
 |0,i,hi=>by
  have c1: ¬(i:Int)<(d1.l.length:Int):=J
  refine bK.of ?_;rw [apd,aN J];simp only [anE,zz,c1];exact .out (Wi ad)
 |j+1,i,hi=>by
  have Y:=U.len;have cY:i<d1.l.length:=J
  have c1:(i:Int)<(d1.l.length:Int):=J
  have c2: ¬((i:Int)<0):=J
  have w:=bx (n:=i) J;obtain⟨sc,lc,cd,he,hn,WE,Rc⟩:=qy U cY;have vK:=Rc.len;have e1:(d1.l[i]).V 1=lc:=by rw [he,dN]; rfl
  have e2:(d1.l[i]).V 2=cd:=by rw [he,dN]; rfl
  have C3:d1.l.drop i=d1.l[i]::d1.l.drop (i+1):=aG cY;have ih:=aua j (i+1) J;have sX: ¬zc d0 d1.l[i]->¬∀t∈d1.l.drop i,zc d0 t:=fun h q=>h (q _ (by rw [C3]; exact awO ..))
  have loop: ∀(m k:Nat),k+m=cd.l.length->bK 456 [(k:Int),enc d1,(d1.l.length:Int),(i:Int),enc d0,enc sc,enc lc,enc cd] (QW ((∀y∈cd.l.drop k,yP d0 lc.l.length cd.l.length y)/\∀t∈d1.l.drop (i+1),zc d0 t)):=by
   intro m
   induction m with
   |zero=>
    intro k hk;have c3: ¬(k:Int)<(cd.l.length:Int):=J
    refine bK.of ?_;rw [apb,aN J];simp only [anC,zz,c3,w];exact ahg
   |succ m ihm=>
    intro k hk;have Bb:k<cd.l.length:=J
    have c3:(k:Int)<(cd.l.length:Int):=J
    have c4: ¬((k:Int)<0):=J
    have w2:=bx (n:=k) J;have hdk:cd.l.drop k=cd.l[k]::cd.l.drop (k+1):=aG Bb;obtain⟨a,b,c,e,f,g,qv,sj,has,hy⟩:=abg Rc Bb;have jn:=has.room
    have hal:qv.l.length<=2513169434915:=by
     grind [l4]
    obtain⟨ys,hM,q,rfl,avz,hqI⟩:=an9 d0 d1 lc cd qv (enc sc) a b c e f g hal;obtain⟨ys,hX,r,rfl,hr⟩:=ao1 qv lc (enc sc) (enc cd) has;have abx: ¬yP d0 lc.l.length cd.l.length cd.l[k]->¬((∀y∈cd.l.drop k,yP d0 lc.l.length cd.l.length y)/\∀t∈d1.l.drop (i+1),zc d0 t):=fun h q=>h (q.1 _ (by rw [hdk]; exact awO ..));refine bK.of ?_;rw [apb];simp only [anC,zz,c3,c4,bF Bb,sj,zg,hM,hX,w2];refine .ite (fun hq=> .jump ((agS U i cY j J _ _ _ _).no (abx fun h=>?_))) fun hq0=> .ite (fun gY=> .jump ((ihm (k+1) J).c ?_)) fun gY=> .jump ((agS U i cY j J _ _ _ _).no (abx fun h=>?_))
    all_goals grind
  refine bK.of ?_;rw [apd];simp only [anE,zz,c1,c2,bF cY,he,zg];refine .ite (fun q=> .jump ((agS U i cY j J _ _ _ _).no (sX fun h=>?_))) fun q1=> .ite (fun q=> .jump ((agS U i cY j J _ _ _ _).no (sX fun h=>?_))) fun q2=> .jump ((loop cd.l.length 0 J).c ?_)
  ·have:=h.1
   grind
  ·have:=h.2.1
   grind
  ·rw [C3];refine⟨fun⟨x,y⟩=>(all_cons ?_).1 y,fun x=> ⟨?_,fun b hb=>x b (aw3 _ hb)⟩⟩
   all_goals grind [zc]
theorem ajW (i k:Nat) (lc cd:D) (sc:Int) (hi:i<16) (Bb:k<cd.l.length) (vK:cd.l.length<=4000) (qv:D) (has:Wd (.sl 6) qv) (he6:(cd.l[k]).V 6=qv): ∀(j n:Nat),n+j=qv.l.length->∃b:Int,(b=1↔∀e∈qv.l.drop n,L4 lc.l.length e)/\L 4054 [(i:Int),(k:Int),(n:Int),enc d0,enc d1,sc,enc lc,enc cd]=if b=1 then L 4053 [(i:Int),((k+1:Nat):Int),enc d0,enc d1,sc,enc lc,enc cd] else some [120]
 |0,n,hn=>by
  have c1: ¬(k:Int)<0:=J
  have c2:(k:Int)<(cd.l.length:Int):=J
  have c3: ¬(n:Int)<(qv.l.length:Int):=J
  have w:=bx (n:=k) J;refine⟨1,⟨fun _=>by rw [aN J]; simp,fun _=>rfl⟩,?_⟩;rw [bB,acP];simp only [NX,zz,c1,c2,bF Bb,he6,c3,w,fin]
 |j+1,n,hn=>by
  have hlen:=has.len;have cY:n<qv.l.length:=J
  have c1: ¬(k:Int)<0:=J
  have c2:(k:Int)<(cd.l.length:Int):=J
  have c3:(n:Int)<(qv.l.length:Int):=J
  have c4: ¬(n:Int)<0:=J
  have w:=bx (n:=n) J;have V:qv.l.drop n=qv.l[n]::qv.l.drop (n+1):=aG cY;obtain⟨b,hb,ih⟩:=ajW i k lc cd sc hi Bb vK qv has he6 j (n+1) J;obtain⟨k',s',n',AX,he,_,g1,_,g2,f0,f1,f2,f3⟩:=BA has cY;obtain⟨ys,hR,c,rfl,LU,O8,hc2,hc3⟩:=PO 20 J k' n' s' AX qv.l[n] g2 f3;have hR':L 4300 [k',enc s',n',enc AX,20]=some [c]:=hR;have sX: ¬L4 lc.l.length qv.l[n]->((0:Int)=1↔∀e∈qv.l.drop n,L4 lc.l.length e):=fun h=> ⟨fun h=>absurd h J,fun q=>absurd (q _ (by rw [V]; exact awO ..)) h⟩;rw [bB,acP];by_cases aoI:1000<c
  ·refine⟨0,sX fun h=>?_,?_⟩
   ·have:=hc2.2 ⟨WS _ _ _ h.1,h.2⟩;omega
   ·simp only [NX,zz,c1,c2,bF Bb,he6,c3,c4,bF cY,he,zg,hR',aoI,fin];rfl
  ·obtain⟨x1,x2⟩:=hc2.1 J;obtain⟨ys,hE,e,rfl,he0,Ts⟩:=WR 20 k' n' (lc.l.length:Int) s' AX qv.l[n] g1 g2 x1 f0 f1 f2 f3;by_cases hz:e=0
   ·refine⟨0,sX fun h=>?_,?_⟩
    ·have:=Ts.2 h.1;omega
    ·subst hz;simp only [NX,zz,c1,c2,bF Bb,he6,c3,c4,bF cY,he,zg,hR',aoI,hE,fin];rfl
   ·refine⟨b,?_,?_⟩
    ·simp_all [all_cons,L4]
    ·simp only [NX,zz,c1,c2,bF Bb,he6,c3,c4,bF cY,he,zg,hR',aoI,hE,hz,w,fin];exact ih
theorem ajX (Wy:d1.l.length<=16): ∀(j i:Nat),i+j=d1.l.length->bK 4052 [(i:Int),enc d0,enc d1] (QW (∀t∈d1.l.drop i,zc d0 t))
 |0,i,hi=>by
  have c1: ¬(i:Int)<(d1.l.length:Int):=J
  refine bK.of ?_;rw [acR,aN J];simp only [J?,zz,c1];exact .out (Wi ad)
 |j+1,i,hi=>by
  have cY:i<d1.l.length:=J
  have c1:(i:Int)<(d1.l.length:Int):=J
  have c2: ¬((i:Int)<0):=J
  have w:=bx (n:=i) J;obtain⟨sc,lc,cd,he,hn,WE,Rc⟩:=qy U cY;have e1:(d1.l[i]).V 1=lc:=by rw [he,dN]; rfl
  have e2:(d1.l[i]).V 2=cd:=by rw [he,dN]; rfl
  have C3:d1.l.drop i=d1.l[i]::d1.l.drop (i+1):=aG cY;have ih:=ajX Wy j (i+1) J;have sX: ¬zc d0 d1.l[i]->¬∀t∈d1.l.drop i,zc d0 t:=fun h q=>h (q _ (by rw [C3]; exact awO ..));refine bK.of ?_;rw [acR];simp only [J?,zz,c1,c2,bF cY,he,zg];refine .ite (fun q=> .out (wO (sX fun h=>?_))) fun q1=> .ite (fun q=> .out (wO (sX fun h=>?_))) fun q2=> .jump ?_
  ·have:=h.1
   grind
  ·have:=h.2.1
   grind
  have vK:cd.l.length<=4000:=J
  have loop: ∀(m k:Nat),k+m=cd.l.length->bK 4053 [(i:Int),(k:Int),enc d0,enc d1,enc sc,enc lc,enc cd] (QW ((∀y∈cd.l.drop k,yP d0 lc.l.length cd.l.length y)/\∀t∈d1.l.drop (i+1),zc d0 t)):=by
   intro m
   induction m with
   |zero=>
    intro k hk;have c3: ¬(k:Int)<(cd.l.length:Int):=J
    refine bK.of ?_;rw [acQ,aN J];simp only [J!,zz,c3,w];exact ahg
   |succ m ihm=>
    intro k hk;have Bb:k<cd.l.length:=J
    have c3:(k:Int)<(cd.l.length:Int):=J
    have c4: ¬((k:Int)<0):=J
    have hdk:cd.l.drop k=cd.l[k]::cd.l.drop (k+1):=aG Bb;obtain⟨a,b,c,e,f,g,qv,sj,has,hy⟩:=abg Rc Bb;obtain⟨ys,hM,q,rfl,avz,hqI⟩:=aor d0 d1 lc cd qv (enc sc) a b c e f g J;have he6:(cd.l[k]).V 6=qv:=by rw [sj,dN]; rfl
    obtain⟨r,hr,hX⟩:=ajW (d0:=d0) U i k lc cd (enc sc) J Bb vK qv has he6 qv.l.length 0 J;rw [awQ] at hr;have abx: ¬yP d0 lc.l.length cd.l.length cd.l[k]->¬((∀y∈cd.l.drop k,yP d0 lc.l.length cd.l.length y)/\∀t∈d1.l.drop (i+1),zc d0 t):=fun h q=>h (q.1 _ (by rw [hdk]; exact awO ..));refine bK.of ?_;rw [acQ];simp only [J!,zz,c3,c4,bF Bb,sj,zg,hM];refine .ite (fun hq=> .out (wO (abx fun h=>?_))) fun hq0=> .jump ?_
    ·grind
    ·by_cases hr1:r=1
     ·rw [ag hr1] at hX;obtain⟨ys,hL,hP⟩:=ihm (k+1) J;refine⟨ys,hX.trans hL,hP.of ?_⟩
      grind
     ·rw [af hr1] at hX;exact⟨_,hX,wO (abx fun h=>hr1 (hr.2 ((hy d0 _ _).1 h).2))⟩
  refine (loop cd.l.length 0 J).c ?_;rw [C3];refine⟨fun⟨x,y⟩=>(all_cons ?_).1 y,fun x=> ⟨?_,fun b hb=>x b (aw3 _ hb)⟩⟩
  ·unfold zc
   grind
  ·have:=(x _ (awO ..)).2.2
   grind
include h0
theorem agT: ∀(j i:Nat),i+j=d0.l.length->bK 451 [enc d0,(d0.l.length:Int),(i:Int),enc d1] (·= [120])
 |0,i,hi=>by
  have c1: ¬(i:Int)<(d0.l.length:Int):=J
  refine bK.of ?_;rw [apg];simp only [anH,zz,c1];exact .jump (aeo U d1.l.length 0 J)
 |j+1,i,hi=>by
  have Y:=h0.len;have c1:(i:Int)<(d0.l.length:Int):=J
  have c2: ¬((i:Int)<0):=J
  have w:=bx (n:=i) J;refine bK.of ?_;rw [apg];simp only [anH,zz,c1,c2,w];exact .jump (agT j (i+1) J)
theorem aub (hs:d0.l.length<=64): ∀(j i:Nat),i+j=d0.l.length->bK 452 [enc d0,(d0.l.length:Int),(i:Int),enc d1] (QW ((∀x∈d0.l.drop i,AM d0 x)/\∀t∈d1.l,zc d0 t))
 |0,i,hi=>by
  have c1: ¬(i:Int)<(d0.l.length:Int):=J
  refine bK.of ?_;rw [apf,aN J];simp only [anG,zz,c1];exact .jump ((aua U d1.l.length 0 J).c ad)
 |j+1,i,hi=>by
  have cY:i<d0.l.length:=J
  have c1:(i:Int)<(d0.l.length:Int):=J
  have c2: ¬((i:Int)<0):=J
  have w:=bx (n:=i) J;have C3:d0.l.drop i=d0.l[i]::d0.l.drop (i+1):=aG cY;obtain⟨ys,hO,b,rfl,mT,vv⟩:=anY d0 (enc d1) ((d0.l[i]).V 0).n (enc ((d0.l[i]).V 1)) ((d0.l[i]).V 2).n (enc ((d0.l[i]).V 3)) ((d0.l[i]).V 4).n;refine bK.of ?_;rw [apf,C3];simp only [anG,zz,c1,c2,w,bF cY,hO];refine .ite (fun hb=> .jump ((agT h0 U j (i+1) J).no fun h=>?_)) fun hb=> .jump ((aub hs j (i+1) J).c ?_)
  ·have:=vv.2 (h.1 _ (awO ..));omega
  ·exact ahp
theorem PX:bK 450 [enc d0,enc d1] (QW (Iz d0 d1)):=by
 refine bK.of ?_;rw [atZ];simp only [arQ,zz];refine .ite (fun _=> .jump ((agT h0 U d0.l.length 0 J).no fun h=>?_)) fun ha=> .ite (fun _=> .jump ((agT h0 U d0.l.length 0 J).no fun h=>?_)) fun hb=> .jump ((aub h0 U J d0.l.length 0 J).c ?_)
 ·have:=h.1;omega
 ·have:=h.2.1;omega
 ·exact ah9
theorem ajY (hs:d0.l.length<=64) (Wy:d1.l.length<=16): ∀(j i:Nat),i+j=d0.l.length->bK 4051 [(i:Int),enc d0,enc d1] (QW ((∀x∈d0.l.drop i,AM d0 x)/\∀t∈d1.l,zc d0 t))
 |0,i,hi=>by
  have c1: ¬(i:Int)<(d0.l.length:Int):=J
  refine bK.of ?_;rw [acS,aN J];simp only [K_,zz,c1];exact .jump ((ajX U Wy d1.l.length 0 J).c ad)
 |j+1,i,hi=>by
  have cY:i<d0.l.length:=J
  have c1:(i:Int)<(d0.l.length:Int):=J
  have c2: ¬((i:Int)<0):=J
  have w:=bx (n:=i) J;have C3:d0.l.drop i=d0.l[i]::d0.l.drop (i+1):=aG cY;obtain⟨ys,hO,b,rfl,mT,vv⟩:=afU d0 (enc d1) ((d0.l[i]).V 0).n (enc ((d0.l[i]).V 1)) ((d0.l[i]).V 2).n (enc ((d0.l[i]).V 3)) ((d0.l[i]).V 4).n;refine bK.of ?_;rw [acS,C3];simp only [K_,zz,c1,c2,w,bF cY,hO];refine .ite (fun hb=> .out (wO fun h=>?_)) fun hb=> .jump ((ajY hs Wy j (i+1) J).c ?_)
  ·have:=vv.2 (h.1 _ (awO ..));omega
  ·exact ahp
theorem Yj:bK 4050 [enc d0,enc d1] (QW (Iz d0 d1)):=by
 refine bK.of ?_;rw [ak5];simp only [ajB,zz];refine .ite (fun _=> .out (wO fun h=>?_)) fun ha=> .ite (fun _=> .out (wO fun h=>?_)) fun hb=> .jump ((ajY h0 U J J d0.l.length 0 J).c ?_)
 ·have:=h.1;omega
 ·have:=h.2.1;omega
 ·exact ah9
theorem zS: ∃b:Int,(b=0\/b=120)/\(b=0↔Iz d0 d1)/\L 450 [enc d0,enc d1]=some [b]/\L 4050 [enc d0,enc d1]=some [b]:=by
 obtain⟨ys,hA,b,rfl,hb,Iu⟩:=PX h0 U;obtain⟨ys,hB,c,rfl,hc,O8⟩:=Yj h0 U
 grind
end
end
theorem Dj {d0 d1:D} (h0:Wd (.sl 3) d0) (U:Wd (.sl 4) d1):bK 450 [enc d0,enc d1] (asN d0 d1):=by
 obtain⟨ys,h,b,rfl,hb,Iu⟩:=PX h0 U;refine⟨_,h,b,rfl,hb,fun hz=>?_⟩;obtain⟨q1,q2,q3,q4⟩:=Iu.1 hz;refine⟨⟨q1,q2,q3⟩,fun x hx y hy=>?_⟩;have:=((q4 x hx).2.2 y hy).1;unfold si at this;unfold OkI;rcases this with ⟨h,a,b,_,_,_,_,e,f⟩|⟨h,a,b,_⟩|h|h|h|h|h
 all_goals grind
def one (ys:List Int):Prop:= ∃k:Int,ys= [k]
theorem arx {o:Int} (h:fD .u8 o):IntKind.i64.wrap o=o:=fg (by have:=h.1; omega) (by have:=h.2; omega)
theorem aaO (a b c d e:Int):bK 650 [a,b,c,d,e] (fun ys=> ∃k l:Int,ys= [k,l]/\(l=0\/l=1)):=by
 refine bK.of ?_;rw [ao8];simp only [anA,zz]
 repeat' first |exact .out ⟨_,_,rfl,.inl rfl⟩|exact .out ⟨_,_,rfl,.inr rfl⟩|refine .ite (fun _=>?_) (fun _=>?_)
theorem I2 (r:D) (Y:r.l.length<=140737488351232) (x0 x4 x5 x6 x7 x8 x9 qo x11 x12:Int) (v:D): ∀(j i:Nat) (x14:Int),i+j=r.l.length->
 bK 501 [x0,enc r,(r.l.length:Int),(i:Int),x4,x5,x6,x7,x8,x9,qo,x11,x12,enc v,x14] vG
 |0,i,x14,hi=>by
  have c1: ¬(i:Int)<(r.l.length:Int):=J
  refine bK.of ?_;rw [acC];simp only [X1,zz,c1];exact auB
 |j+1,i,x14,hi=>by
  have c1:(i:Int)<(r.l.length:Int):=J
  have c2: ¬((i:Int)<0):=J
  have w:=bx (n:=i) J;have ih:=fun x=>I2 r Y x0 x4 x5 x6 x7 x8 x9 qo x11 x12 v j (i+1) x J;refine bK.of ?_;rw [acC];simp only [X1,zz,c1,c2,w]
  repeat' first |exact .out zD|exact .out sV|exact .jump (ih _)|refine .ite (fun _=>?_) (fun _=>?_)
theorem Sg (x0 x1 x2 x3 x4 x5 x6 x7 x8 x11:Int) (r v:D) (Y:r.l.length<=140737488351232):bK 500 [x0,x1,x2,x3,x4,x5,x6,x7,x8,enc r,enc v,x11] vG:=by
 obtain⟨ys,hM,a,b,rfl,hb⟩:=aaO x0 x1 x2 x3 x4;have ih:=I2 r Y x11 x0 x1 x2 x3 x4 x5 x6 x7 x8 v r.l.length 0 (enc (.i 0)) J;refine bK.of ?_;rw [apa];simp only [afm,zz,hM]
 repeat' first |exact .out zD|exact .out sV|exact .jump ih|refine .ite (fun _=>?_) (fun _=>?_)
section
variable {d:D}
theorem fb (V:d=dL d.l) {i:Nat} (hi:i<d.l.length):dL (dg d.l (i:Int) d.l[i])=d:=by rw [qU,ayL,<- V]
theorem Lh (a b c d e f x:D):dg [a,b,c,d,e,f] 4 x= [a,b,c,d,x,f]:=rfl
theorem Lg (a b c d e f x:D):dg [a,b,c,d,e,f] 5 x= [a,b,c,d,e,x]:=rfl
theorem gJ: ¬(enc (.i 2)=enc (.i 1)):=fun h=>by have:=ff h; simp at this
theorem gK:(((D.i 1).l.length:Nat):Int)=0:=rfl
theorem fY:(((D.i 2).l.length:Nat):Int)=0:=rfl
theorem nj: ¬((0:Int)<0):=J
theorem bV {r:D} (h:Wd (.sl 0) r):r= .i 1\/r= .i 2\/((0:Int)<(r.l.length:Int)/\(r.l.length:Int)<17592186044416):=by
 rcases h.sh with U|U|⟨U,Z⟩
 ·grind
 ·grind
 ·have hr:=h.room;have h3:l4 0=8:=rfl;rw [h3] at hr;have:=axk.2 Z
  grind
structure Th (d:D):Prop where
 wd:Wd (.sl 7) d
 sh:d=dL d.l
 lD:d.l.length<=1759218604390
theorem yF (h:Wd (.sl 7) d) (hn:0<d.l.length):Th d:=by
 refine⟨h,?_,?_⟩
 ·rcases h.sh with rfl|rfl|⟨U,_⟩
  all_goals grind [D.l]
 ·have hr:=h.room
  grind [l4]
theorem Ko (d:D) (h:Th d): ∀(j i:Nat),i+j=d.l.length->L 551 [enc d,(d.l.length:Int),(i:Int)]=some [enc d]
 |0,i,hi=>by simp_all [bB,ao9,anB,zz,fin]
 |j+1,i,hi=>by
  have Y:=h.lD;have cY:i<d.l.length:=J
  have c1:(i:Int)<(d.l.length:Int):=J
  have c2: ¬((i:Int)<0):=J
  have w:=bx (n:=i) J;have ih:=Ko d h j (i+1) J;obtain⟨o,c,dn,g,r,v,he,_,_,_,_,hr,hv⟩:=h.wd.j7 _ (aq cY);have hs:=fb h.sh cY;rw [he] at hs;rw [bB,ao9];rcases bV hr with rfl|rfl|⟨r1,r2⟩ <;>rcases bV hv with rfl|rfl|⟨v1,v2⟩
  all_goals
   simp only [anB,zz,c1,c2,w,bF cY,he,dN,bz,az,aA,Lh,Lg,hs,gK,fY,nj,gJ]
   try simp only [r1,r2,zz]
   try simp only [v1,v2,zz]
   try simp only [fin]
   exact ih
theorem aec (d:D) (h:Wd (.sl 7) d):L 550 [enc d]=some [enc d]:=by
 rw [bB,atY];rcases h.sh with rfl|rfl|⟨U,Z⟩
 ·simp only [afl,zz,gK,nj,fin];rw [bB,atX];rfl
 ·simp only [afl,zz,fY,nj,gJ,fin];rw [bB,atW];rfl
 ·have hp:=axk.2 Z;have ht:=yF h hp;have Y:=ht.lD;have c1:(0:Int)<(d.l.length:Int):=J
  have c2:(d.l.length:Int)<1759218604441:=J
  simp only [afl,zz,c1,c2,fin];exact Ko d ht d.l.length 0 J
theorem Ks (d:D) (h:Th d) (gi:Nat) (x4 x5 x6 x7 x8 x9:Int): ∀(j i:Nat),gi<i->i+j=d.l.length->L 9004 [(gi:Int),enc d,(d.l.length:Int),(i:Int),x4,x5,x6,x7,x8,x9]=some [3,(gi:Int),enc d,x4,x5,x6,x7,x8,x9]
 |0,i,hg,hi=>by simp_all [bB,acu,D',zz,fin]
 |j+1,i,hg,hi=>by
  have Y:=h.lD;have cY:i<d.l.length:=J
  have c1:(i:Int)<(d.l.length:Int):=J
  have c2: ¬((i:Int)<0):=J
  have c0: ¬((i:Int)=(gi:Int)):=J
  have w:=bx (n:=i) J;have ih:=Ks d h gi x4 x5 x6 x7 x8 x9 j (i+1) J J;obtain⟨o,c,dn,g,r,v,he,_,_,_,_,hr,hv⟩:=h.wd.j7 _ (aq cY);have hs:=fb h.sh cY;rw [he] at hs;rw [bB,acu];rcases bV hr with rfl|rfl|⟨r1,r2⟩ <;>rcases bV hv with rfl|rfl|⟨v1,v2⟩
  all_goals
   simp only [D',zz,c0,c1,c2,w,bF cY,he,dN,bz,az,aA,Lh,Lg,hs,gK,fY,nj,gJ]
   try simp only [r1,r2,zz]
   try simp only [v1,v2,zz]
   try simp only [fin]
   exact ih
theorem Kr (d:D) (h:Th d) (gi:Nat) (x4 x5 x6 x7 x8 x9:Int): ∀(j i:Nat),gi<i->i+j=d.l.length->L 9005 [(gi:Int),enc d,(d.l.length:Int),(i:Int),x4,x5,x6,x7,x8,x9]=some [4,(gi:Int),enc d,x4,x5,x6,x7,x8,x9]
 |0,i,hg,hi=>by simp_all [bB,acs,D_,zz,fin]
 |j+1,i,hg,hi=>by
  have Y:=h.lD;have cY:i<d.l.length:=J
  have c1:(i:Int)<(d.l.length:Int):=J
  have c2: ¬((i:Int)<0):=J
  have c0: ¬((i:Int)=(gi:Int)):=J
  have w:=bx (n:=i) J;have ih:=Kr d h gi x4 x5 x6 x7 x8 x9 j (i+1) J J;obtain⟨o,c,dn,g,r,v,he,_,_,_,_,hr,hv⟩:=h.wd.j7 _ (aq cY);have hs:=fb h.sh cY;rw [he] at hs;rw [bB,acs];rcases bV hr with rfl|rfl|⟨r1,r2⟩ <;>rcases bV hv with rfl|rfl|⟨v1,v2⟩
  all_goals
   simp only [D_,zz,c0,c1,c2,w,bF cY,he,dN,bz,az,aA,Lh,Lg,hs,gK,fY,nj,gJ]
   try simp only [r1,r2,zz]
   try simp only [v1,v2,zz]
   try simp only [fin]
   exact ih
theorem Kq (d:D) (h:Th d) (gi:Nat) (x4 x5 x6 x7 x8 x9:Int): ∀(j i:Nat),gi<i->i+j=d.l.length->L 9006 [(gi:Int),enc d,(d.l.length:Int),(i:Int),x4,x5,x6,x7,x8,x9]=some [5,(gi:Int),enc d,x4,x5,x6,x7,x8,x9]
 |0,i,hg,hi=>by simp_all [bB,acr,C?,zz,fin]
 |j+1,i,hg,hi=>by
  have Y:=h.lD;have cY:i<d.l.length:=J
  have c1:(i:Int)<(d.l.length:Int):=J
  have c2: ¬((i:Int)<0):=J
  have c0: ¬((i:Int)=(gi:Int)):=J
  have w:=bx (n:=i) J;have ih:=Kq d h gi x4 x5 x6 x7 x8 x9 j (i+1) J J;obtain⟨o,c,dn,g,r,v,he,_,_,_,_,hr,hv⟩:=h.wd.j7 _ (aq cY);have hs:=fb h.sh cY;rw [he] at hs;rw [bB,acr];rcases bV hr with rfl|rfl|⟨r1,r2⟩ <;>rcases bV hv with rfl|rfl|⟨v1,v2⟩
  all_goals
   simp only [C?,zz,c0,c1,c2,w,bF cY,he,dN,bz,az,aA,Lh,Lg,hs,gK,fY,nj,gJ]
   try simp only [r1,r2,zz]
   try simp only [v1,v2,zz]
   try simp only [fin]
   exact ih
theorem Kp (d:D) (h:Th d) (gi:Nat) (x4 x5 x6 x7 x8 x9:Int): ∀(j i:Nat),gi<i->i+j=d.l.length->L 9007 [(gi:Int),enc d,(d.l.length:Int),(i:Int),x4,x5,x6,x7,x8,x9]=some [6,(gi:Int),enc d,x4,x5,x6,x7,x8,x9]
 |0,i,hg,hi=>by simp_all [bB,acq,C!,zz,fin]
 |j+1,i,hg,hi=>by
  have Y:=h.lD;have cY:i<d.l.length:=J
  have c1:(i:Int)<(d.l.length:Int):=J
  have c2: ¬((i:Int)<0):=J
  have c0: ¬((i:Int)=(gi:Int)):=J
  have w:=bx (n:=i) J;have ih:=Kp d h gi x4 x5 x6 x7 x8 x9 j (i+1) J J;obtain⟨o,c,dn,g,r,v,he,_,_,_,_,hr,hv⟩:=h.wd.j7 _ (aq cY);have hs:=fb h.sh cY;rw [he] at hs;rw [bB,acq];rcases bV hr with rfl|rfl|⟨r1,r2⟩ <;>rcases bV hv with rfl|rfl|⟨v1,v2⟩
  all_goals
   simp only [C!,zz,c0,c1,c2,w,bF cY,he,dN,bz,az,aA,Lh,Lg,hs,gK,fY,nj,gJ]
   try simp only [r1,r2,zz]
   try simp only [v1,v2,zz]
   try simp only [fin]
   exact ih
def mA (r v:D):Int:=if 0<r.l.length then (if 0<v.l.length then 3 else 4) else (if 0<v.l.length then 5 else 6)
theorem alB (d:D) (h:Th d) (gi:Nat) (Be:gi<d.l.length) (o c dn g:Int) (r v:D) (Ai:d.l[gi]=dL [.i o,.i c,.i dn,.i g,r,v]): ∀(j i:Nat),i<=gi->i+j=gi->
 L 9001 [(gi:Int),enc d,(d.l.length:Int),(i:Int)]=some [mA r v,(gi:Int),enc d,o,c,dn,g,enc r,enc v]
 |0,i,hg,hi=>by
  obtain rfl:i=gi:=J
  have Y:=h.lD;have c1:(i:Int)<(d.l.length:Int):=J
  have c2: ¬((i:Int)<0):=J
  have w:=bx (n:=i) J;obtain⟨o',c',EE,g',r',v',he,_,_,_,_,hr,hv⟩:=h.wd.j7 _ (aq Be);rw [Ai] at he;have he:=HC he;simp only [List.cons.injEq,D.i.injEq,and_true] at he;obtain⟨rfl,rfl,rfl,rfl,rfl,rfl⟩:=he;have b4:=fun a b=>Ks d h i o c dn g a b (d.l.length-(i+1)) (i+1) J J;have b5:=fun a b=>Kr d h i o c dn g a b (d.l.length-(i+1)) (i+1) J J;have b6:=fun a b=>Kq d h i o c dn g a b (d.l.length-(i+1)) (i+1) J J;have b7:=fun a b=>Kp d h i o c dn g a b (d.l.length-(i+1)) (i+1) J J;rw [bB,WZ];rcases bV hr with rfl|rfl|⟨r1,r2⟩
  ·rcases bV hv with rfl|rfl|⟨v1,v2⟩
   ·simp only [vp,zz,c1,c2,w,bF Be,Ai,dN,bz,az,aA,gK,nj,fin,b7]
    grind [mA,D.l]
   ·simp only [vp,zz,c1,c2,w,bF Be,Ai,dN,bz,az,aA,gK,nj,fY,gJ,fin,b7]
    grind [mA,D.l]
   ·simp only [vp,zz,c1,c2,w,bF Be,Ai,dN,bz,az,aA,gK,nj,v1,v2,fin,b6]
    grind [mA,D.l]
  ·rcases bV hv with rfl|rfl|⟨v1,v2⟩
   ·simp only [vp,zz,c1,c2,w,bF Be,Ai,dN,bz,az,aA,fY,nj,gJ,gK,fin,b7]
    grind [mA,D.l]
   ·simp only [vp,zz,c1,c2,w,bF Be,Ai,dN,bz,az,aA,fY,nj,gJ,fin,b7]
    grind [mA,D.l]
   ·simp only [vp,zz,c1,c2,w,bF Be,Ai,dN,bz,az,aA,fY,nj,gJ,v1,v2,fin,b6]
    grind [mA,D.l]
  ·rcases bV hv with rfl|rfl|⟨v1,v2⟩
   ·simp only [vp,zz,c1,c2,w,bF Be,Ai,dN,bz,az,aA,r1,r2,gK,nj,fin,b5]
    grind [mA,D.l]
   ·simp only [vp,zz,c1,c2,w,bF Be,Ai,dN,bz,az,aA,r1,r2,fY,nj,gJ,fin,b5]
    grind [mA,D.l]
   ·simp only [vp,zz,c1,c2,w,bF Be,Ai,dN,bz,az,aA,r1,r2,v1,v2,fin,b4]
    grind [mA]
 |j+1,i,hg,hi=>by
  have Y:=h.lD;have cY:i<d.l.length:=J
  have c1:(i:Int)<(d.l.length:Int):=J
  have c2: ¬((i:Int)<0):=J
  have c0: ¬((i:Int)=(gi:Int)):=J
  have w:=bx (n:=i) J;have ih:=alB d h gi Be o c dn g r v Ai j (i+1) J J;clear Ai;obtain⟨o2,c2',dn2,g2,r2',v2',he,_,_,_,_,hr,hv⟩:=h.wd.j7 _ (aq cY);exact aqE
theorem alA (d:D) (h:Th d) (gi:Nat) (Be:gi<d.l.length) (o c dn g:Int) (r v:D) (Ai:d.l[gi]=dL [.i o,.i c,.i dn,.i g,r,v]) :
 L 9000 [(gi:Int),enc d]=some [mA r v,(gi:Int),enc d,o,c,dn,g,enc r,enc v]:=by
 have Y:=h.lD;have c1:(0:Int)<(d.l.length:Int):=J
 have c2:(d.l.length:Int)<1759218604441:=J
 rw [bB,acv];simp only [NV,zz,c1,c2,fin];exact alB d h gi Be o c dn g r v Ai gi 0 J J
theorem HG (d:D) (h:Th d) (x:Int) (hx:x<0\/(d.l.length:Int)<=x): ∀(j i:Nat),i+j=d.l.length->L 9001 [x,enc d,(d.l.length:Int),(i:Int)]=some [0,x,enc d]
 |0,i,hi=>by simp_all [bB,WZ,vp,zz,fin]
 |j+1,i,hi=>by
  have Y:=h.lD;have cY:i<d.l.length:=J
  have c1:(i:Int)<(d.l.length:Int):=J
  have c2: ¬((i:Int)<0):=J
  have c0: ¬((i:Int)=x):=J
  have w:=bx (n:=i) J;have ih:=HG d h x hx j (i+1) J;obtain⟨o,c,dn,g,r,v,he,_,_,_,_,hr,hv⟩:=h.wd.j7 _ (aq cY);exact aqE
theorem at2 (d:D) (h:Wd (.sl 7) d) (x:Int) (hx:x<0\/(d.l.length:Int)<=x):bK 9000 [x,enc d] (fun ys=>ys= [0,x,enc d]\/(ys= [1,x]/\d= .i 1)\/(ys= [2,x]/\d= .i 2)):=by
 refine bK.of ?_;rw [acv];rcases h.sh with rfl|rfl|⟨U,Z⟩
 ·simp only [NV,zz,gK,nj];refine .jump (bK.of ?_);rw [aky];simp only [ai9,zz];exact .ite (fun _=> .out (.inr (.inl rfl))) fun _=> .out (.inr (.inl rfl))
 ·simp only [NV,zz,fY,nj,gJ];refine .jump (bK.of ?_);rw [akx];simp only [ai8,zz];exact .ite (fun _=> .out (.inr (.inr rfl))) fun _=> .out (.inr (.inr rfl))
 ·have hp:=axk.2 Z;have ht:=yF h hp;have Y:=ht.lD;have c1:(0:Int)<(d.l.length:Int):=J
  have c2:(d.l.length:Int)<1759218604441:=J
  simp only [NV,zz,c1,c2];exact .jump ⟨_,HG d ht x hx d.l.length 0 J,.inl rfl⟩
end
def afu (d x:D) (m:Nat):List Int:=[(d.V 0).n,enc (d.V 1),(d.V 2).n,enc (d.V 3),(d.V 4).n,(x.V 0).n,(x.V 1).n,(if (x.V 2).n=0 then 0 else 1),(x.V 3).n,enc (x.V 4),enc (x.V 5),(m:Int)]
def Snd (d x:D) (m:Nat):Prop:=L 500 (afu d x m)=some [1]
theorem aft (d x:D) (m:Nat) (h:(x.V 4).l.length<=140737488351232): ∃c,L 500 (afu d x m)=some [c]/\(c=0\/c=1):=by obtain⟨ys,U,c,rfl,hc⟩:=Sg (d.V 0).n (enc (d.V 1)) (d.V 2).n (enc (d.V 3)) (d.V 4).n (x.V 0).n (x.V 1).n (if (x.V 2).n=0 then 0 else 1) (x.V 3).n (m:Int) (x.V 4) (x.V 5) h;exact⟨c,U,hc⟩
theorem bM:((1:Int)=0)=False:=ad
def zk (s:D):Prop:= ∀x∈s.l,(x.V 4).l.length<=140737488351232
section
variable {d0 d1 s:D} (hr:zk s) (hle:s.l.length=d0.l.length) (hlen:d0.l.length<=140737488351232)
include hr hle hlen
theorem FW: ∀(j i:Nat),i+j=s.l.length->∃b:Int,L 351 [enc s,(s.l.length:Int),(i:Int),enc d0,enc d1]=some [b]/\(b=0\/b=1)/\
 (b=1↔∀(k:Nat) (hk:k<s.l.length),i<=k->Snd (d0.l[k]'(hle▸hk)) s.l[k] d1.l.length)
 |0,i,hi=>by
  have c1: ¬(i:Int)<(s.l.length:Int):=J
  refine⟨1,?_,.inr rfl,fun _ k hk h=>absurd hk J,fun _=>rfl⟩;rw [bB,agy];simp only [afn,zz,c1,fin]
 |j+1,i,hi=>by
  have cY:i<s.l.length:=J
  have hid:i<d0.l.length:=J
  have c1:(i:Int)<(s.l.length:Int):=J
  have c2: ¬((i:Int)<0):=J
  have c3:(i:Int)<(d0.l.length:Int):=J
  have w:=bx (n:=i) J;obtain⟨c,hS,hc⟩:=aft d0.l[i] s.l[i] d1.l.length (hr _ (aq cY));obtain⟨b,Iu,yQ,ih⟩:=FW j (i+1) J;have hS':=hS;unfold afu at hS;by_cases LU:c=0
  ·subst LU;refine⟨0,?_,.inl rfl,fun h=>absurd h J,fun h=>?_⟩
   ·rw [bB,agy];by_cases hn:((s.l[i]).V 2).n=0
    ·rw [ag hn] at hS;exact ahm
    ·rw [af hn] at hS;exact ahm
   ·have:=h i cY (au i);unfold Snd at this
    grind
  ·have O8:c=1:=J
   subst O8;refine⟨b,?_,yQ,fun h k hk hik=>?_,fun h=>ih.2 fun k hk hik=>h k hk J⟩
   ·rw [bB,agy];by_cases hn:((s.l[i]).V 2).n=0
    ·rw [ag hn] at hS;exact ahU
    ·rw [af hn] at hS;exact ahU
   ·by_cases hke:k=i
    ·subst hke;exact hS'
    grind
end
theorem kP {d0 d1 s:D} (h0:Wd (.sl 3) d0) (U:Wd (.sl 4) d1) (hr:zk s): ∃b:Int,L 350 [enc d0,enc d1,enc s]=some [b]/\(b=0\/b=1)/\
 (b=1↔L 450 [enc d0,enc d1]=some [0]/\∃hle:s.l.length=d0.l.length,∀(k:Nat) (hk:k<s.l.length),Snd (d0.l[k]'(hle▸hk)) s.l[k] d1.l.length):=by
 obtain⟨ys,hC,c,rfl,hc,rW⟩:=Dj h0 U;by_cases LU:c=0
 ·subst LU;by_cases Y:s.l.length=d0.l.length
  ·have hlen:=h0.len;obtain⟨b,Iu,yQ,hb3⟩:=FW (d1:=d1) hr Y hlen s.l.length 0 J;refine⟨b,?_,yQ,fun h=> ⟨hC,Y,fun k hk=>hb3.1 h k hk J⟩,fun⟨_,_,h⟩=>hb3.2 fun k hk _=>h k hk⟩;have Ia:(s.l.length:Int)=(d0.l.length:Int):=J
   rw [bB,agz,afo,eO,ag,eO,ag,eO,ag,lS]
   ·simp only [List.map,eY,ky,mC,cE,Nat.reduceLT,cT,cZ,bG,fin]
    grind
   ·exact i?
   ·exact aqm
   ·exact i?
  ·refine⟨0,?_,.inl rfl,fun h=>absurd h J,fun⟨_,h,_⟩=>absurd h Y⟩;have Ia: ¬(s.l.length:Int)=(d0.l.length:Int):=J
   rw [bB,agz,afo,eO,ag,eO,ag,eO,af]
   ·exact U4
   ·exact i?
   ·exact aqm
   ·exact i?
 ·refine⟨0,?_,.inl rfl,fun h=>absurd h J,fun⟨h,_⟩=>?_⟩
  ·rw [bB,agz,afo,eO,ag,eO,af]
   ·exact U4
   ·simp only [pw,tB,eY,oS,rG,ky,List.map,mC,cE,Nat.reduceLT,cT,cZ,bG];rw [hC];simp only [cT,cZ,axT,ax,if_true]
    grind
   ·exact i?
  grind
section
variable {p:Prop}
def OkT (d0:D) (nl nc:Nat) (a:Int) (ll:Nat) (w o g t:Int):Prop:=
 0<=a/\a<=(nc:Int)/\(ll:Int)=(nl:Int)/\0<=t/\t<=4611686018427387904/\
  (w=0/\o=0/\g=0\/w=24/\0<=o/\o<(d0.l.length:Int)/\((d0.at o).V 0).n=4\/w=25/\0<=o/\o<(d0.l.length:Int)/\((d0.at o).V 0).n=5)
def Ey (p:Prop) (ys:List Int):Prop:= ∃b:Int,ys= [b]/\(b=0/\¬p\/b=1/\p)
theorem kA (h: ¬p):Ey p [0]:=⟨0,rfl,.inl ⟨rfl,h⟩⟩
theorem A6 (h:p):Ey p [1]:=⟨1,rfl,.inr ⟨rfl,h⟩⟩
theorem afe (d0 d3 d4 d6:D) (x1 x2 x5 x7 x8 x9 qo:Int):bK 1600 [enc d0,x1,x2,enc d3,enc d4,x5,enc d6,x7,x8,x9,qo] (Ey (OkT d0 d3.l.length d4.l.length x5 d6.l.length x7 x8 x9 qo)):=by
 unfold OkT;refine bK.of ?_;rw [alm];simp only [ajL,zz]
 repeat' first
  |exact .out (kA J)
  |exact .out (A6 J)
  |refine .ite (fun _=>?_) (fun _=>?_)
def f? (d0 x k:D):Prop:=OkT d0 (x.V 1).l.length (x.V 2).l.length (k.V 0).n (k.V 1).l.length (k.V 2).n (k.V 3).n (k.V 4).n (k.V 5).n
section
variable {d0 d1 k:D} (hle:k.l.length=d1.l.length) (hlen:d1.l.length<=140737488351232)
include hle hlen
theorem DT: ∀(j i:Nat),i+j=k.l.length->bK 1501 [enc k,(k.l.length:Int),(i:Int),enc d0,enc d1] (Ey (∀(n:Nat) (hn:n<k.l.length),i<=n->f? d0 (d1.l[n]'(hle▸hn)) k.l[n]))
 |0,i,hi=>by
  have c1: ¬(i:Int)<(k.l.length:Int):=J
  refine bK.of ?_;rw [adu];simp only [R?,zz,c1];exact .out (A6 fun n hn h=>by omega)
 |j+1,i,hi=>by
  have cY:i<k.l.length:=J
  have hid:i<d1.l.length:=J
  have c1:(i:Int)<(k.l.length:Int):=J
  have c2: ¬((i:Int)<0):=J
  have c3:(i:Int)<(d1.l.length:Int):=J
  have w:=bx (n:=i) J;obtain⟨ys,hT,b,rfl,hb⟩:=afe d0 ((d1.l[i]).V 1) ((d1.l[i]).V 2) ((k.l[i]).V 1) (enc d1) (enc ((d1.l[i]).V 0)) ((k.l[i]).V 0).n ((k.l[i]).V 2).n ((k.l[i]).V 3).n ((k.l[i]).V 4).n ((k.l[i]).V 5).n;obtain⟨ys,ih,b',rfl,tT⟩:=DT j (i+1) J;refine bK.of ?_;rw [adu];simp only [R?,zz,c1,c2,c3,bF cY,bF hid,w,hT];refine .ite (fun h0=> .out (kA fun h=>?_)) (fun h0=> .jump ⟨_,ih,b',rfl,?_⟩)
  ·rcases hb with ⟨_,hb⟩|⟨hb,_⟩
   ·exact hb (h i cY (au _))
   ·omega
  ·rcases hb with ⟨hb,_⟩|⟨_,hb⟩
   ·grind
   ·rcases tT with ⟨q,tT⟩|⟨q,tT⟩
    ·grind
    ·refine .inr ⟨q,fun n hn hni=>?_⟩;by_cases he:n=i
     ·subst he; exact hb
     grind
end
def MR (d0 d1 s k:D):Prop:=L 350 [enc d0,enc d1,enc s]=some [1]/\∃hle:k.l.length=d1.l.length,∀(n:Nat) (hn:n<k.l.length),f? d0 (d1.l[n]'(hle▸hn)) k.l[n]
theorem JJ {d0 d1 s k:D} (h0:Wd (.sl 3) d0) (U:Wd (.sl 4) d1) (hr:zk s) (hlen:d1.l.length<=140737488351232):bK 1500 [enc d0,enc d1,enc s,enc k] (Ey (MR d0 d1 s k)):=by
 obtain⟨b,hb,Iu,_⟩:=kP h0 U hr;refine bK.of ?_;rw [alo];simp only [ajN,zz,hb];refine .ite (fun h=> .out (kA fun q=>?_)) (fun h=> .ite (fun Y=>?_) (fun Y=> .out (kA fun q=>?_)))
 ·have:=q.1
  grind
 ·have hle:k.l.length=d1.l.length:=J
  obtain⟨ys,hL,b',rfl,tT⟩:=DT (d0:=d0) hle hlen k.l.length 0 J;refine .jump ⟨_,hL,b',rfl,?_⟩;have vJ:b=1:=J
  subst vJ;rcases tT with ⟨q,tT⟩|⟨q,tT⟩
  ·exact .inl ⟨q,fun h=>tT fun n hn _=>h.2.2 n hn⟩
  ·exact .inr ⟨q,hb,hle,fun n hn=>tT n hn (aw1 _)⟩
 ·have:=q.2.1;omega
theorem FX {d0 d1 s k:D} (h0:Wd (.sl 3) d0) (U:Wd (.sl 4) d1) (hr:zk s) (hlen:d1.l.length<=140737488351232) (t:Int):bK 1550 [enc d0,enc d1,enc s,enc k,t] (Ey (0<=t/\t<(d1.l.length:Int)/\MR d0 d1 s k)):=by
 obtain⟨ys,hM,b,rfl,hb⟩:=JJ h0 U hr hlen (k:=k);refine bK.of ?_;rw [aln];simp only [ajM,zz,hM];refine .ite (fun h=> .out (kA fun q=>by omega)) (fun h=> .ite (fun Z=> .ite (fun h3=> .out (kA fun q=>?_)) (fun h3=> .out (A6 ?_))) (fun Z=> .out (kA fun q=>by omega)))
 all_goals grind
end
section
variable {t:Int} {l:List D}
def j3 (t:Int):List D->Nat->Int
 |[],_=> -1
 |x::l,i=>if x.n=t then (i:Int) else j3 t l (i+1)
def place (r:D) (t:Int):Int:=j3 t r.l 0
def wo (t:Int) (l:List D):List D:=l.filter fun x=>decide (x.n≠t)
theorem yU (t:Int): ∀(l:List D) (i:Nat),(j3 t l i= -1/\∀x∈l,x.n≠t)\/∃(k:Nat) (h:k<l.length),j3 t l i=((i+k:Nat):Int)/\(l[k]).n=t/\∀x∈l.take k,x.n≠t
 |[],_=> .inl ⟨rfl,fun x h=>absurd h ad⟩
 |x::l,i=>by
  unfold j3;by_cases hx:x.n=t
  ·grind
  ·rw [af hx];rcases yU t l (i+1) with ⟨U,Z⟩|⟨k,hk,U,Z,h3⟩
   ·grind
   ·refine .inr ⟨k+1,by simp; omega,by rw [U]; congr 1; omega,by simpa using Z,fun y hy=>?_⟩
    grind
theorem kS (r:D) (t:Int):(place r t= -1/\∀x∈r.l,x.n≠t)\/∃(k:Nat) (h:k<r.l.length),place r t=(k:Int)/\(r.l[k]).n=t/\∀x∈r.l.take k,x.n≠t:=by have:=yU t r.l 0;simp only [aH] at this;exact this
theorem gS (r:D) (t:Int): -1<=place r t/\place r t<(r.l.length:Int):=by
 grind [kS]
theorem xG (h: ∀x∈l,x.n≠t):wo t l=l:=List.filter_eq_self.2 fun x hx=>by simpa using h x hx
theorem uY {r:D} {i:Nat} (h:i<r.l.length):j3 t (r.l.drop i) i=if (r.at (i:Int)).n=t then (i:Int) else j3 t (r.l.drop (i+1)) (i+1):=by rw [aG h,bF h];rfl
theorem abj (r:D) (t:Int) (Y:r.l.length<=140737488351232): ∀(j i:Nat),i+j=r.l.length->L 851 [enc r,t,(r.l.length:Int),(i:Int)]=some [j3 t (r.l.drop i) i]
 |0,i,hi=>by simp_all [bB,ao7,afk,zz,fin,j3]
 |j+1,i,hi=>by
  have c1:(i:Int)<(r.l.length:Int):=J
  have c2: ¬((i:Int)<0):=J
  have w:=bx (n:=i) J;have ih:=abj r t Y j (i+1) J;rw [uY J,bB,ao7];by_cases he:(r.at (i:Int)).n=t
  ·simp only [afk,zz,c1,c2,he,fin]
  ·have Ai: ¬t=(r.at (i:Int)).n:=fun h=>he h.symm;simp only [afk,zz,c1,c2,af he,af Ai,w,fin,ih]
theorem gU (r:D) (t:Int) (Y:r.l.length<=140737488351232):L 850 [enc r,t]=some [place r t]:=by have h:=abj r t Y r.l.length 0 J;rw [bB,atP];simp only [arH,zz,fin];exact h
theorem gV (r:D) (t:Int) (Y:r.l.length<=140737488351232):L 900 [enc r,t]=some [if place r t<0 then 0 else 1]:=by rw [bB,atO];simp only [arG,zz,gU r t Y];split<;>rfl
theorem A4 (r:D) (t:Int) (Y:r.l.length<=140737488351232) (y2 y3 y4 y5 y6 y7 y8 y9 lR mF nr:Int): ∀(j i:Nat),i+j=r.l.length->
 L 12051 [enc r,t,y2,y3,y4,y5,y6,y7,y8,y9,lR,mF,nr,(r.l.length:Int),(i:Int)]=some [0,enc r,t,y2,y3,y4,y5,y6,y7,y8,y9,lR,mF,nr,j3 t (r.l.drop i) i]
 |0,i,hi=>by simp_all [bB,Uv,K5,zz,fin,j3]
 |j+1,i,hi=>by
  have c1:(i:Int)<(r.l.length:Int):=J
  have c2: ¬((i:Int)<0):=J
  have w:=bx (n:=i) J;have ih:=A4 r t Y y2 y3 y4 y5 y6 y7 y8 y9 lR mF nr j (i+1) J;rw [uY J,bB,Uv];by_cases he:(r.at (i:Int)).n=t
  ·simp only [K5,zz,c1,c2,he,fin]
  ·simp only [K5,zz,c1,c2,af he,w,fin,ih]
theorem af6 (r:D) (t:Int) (Y:r.l.length<=140737488351232) (y2 y3 y4 y5 y6 y7 y8 y9 lR mF nr:Int):L 12050 [enc r,t,y2,y3,y4,y5,y6,y7,y8,y9,lR,mF,nr]=some [0,enc r,t,y2,y3,y4,y5,y6,y7,y8,y9,lR,mF,nr,place r t]:=by have h:=A4 r t Y y2 y3 y4 y5 y6 y7 y8 y9 lR mF nr r.l.length 0 J;rw [bB,adT];simp only [W_,zz,fin];exact h
theorem A3 (r:D) (t:Int) (Y:r.l.length<=140737488351232) (y2 y3 y4 y5 y6 y7 y8 y9 lR mF nr:Int): ∀(j i:Nat),i+j=r.l.length->
 L 12151 [enc r,t,y2,y3,y4,y5,y6,y7,y8,y9,lR,mF,nr,(r.l.length:Int),(i:Int)]=some [0,enc r,t,y2,y3,y4,y5,y6,y7,y8,y9,lR,mF,nr,j3 t (r.l.drop i) i]
 |0,i,hi=>by simp_all [bB,Ut,K3,zz,fin,j3]
 |j+1,i,hi=>by
  have c1:(i:Int)<(r.l.length:Int):=J
  have c2: ¬((i:Int)<0):=J
  have w:=bx (n:=i) J;have ih:=A3 r t Y y2 y3 y4 y5 y6 y7 y8 y9 lR mF nr j (i+1) J;rw [uY J,bB,Ut];by_cases he:(r.at (i:Int)).n=t
  ·simp only [K3,zz,c1,c2,he,fin]
  ·simp only [K3,zz,c1,c2,af he,w,fin,ih]
theorem af5 (r:D) (t:Int) (Y:r.l.length<=140737488351232) (y2 y3 y4 y5 y6 y7 y8 y9 lR mF nr:Int):L 12150 [enc r,t,y2,y3,y4,y5,y6,y7,y8,y9,lR,mF,nr]=some [0,enc r,t,y2,y3,y4,y5,y6,y7,y8,y9,lR,mF,nr,place r t]:=by have h:=A3 r t Y y2 y3 y4 y5 y6 y7 y8 y9 lR mF nr r.l.length 0 J;rw [bB,adS];simp only [V?,zz,fin];exact h
theorem xF {j:Nat} (h:j<l.length):wo t (l.take (j+1))=if (l[j]).n=t then wo t (l.take j) else wo t (l.take j)++ [l[j]]:=by
 unfold wo;rw [ayb h,List.filter_append]
 grind
theorem KG (t:Int) (l:List D):(wo t l).length<=l.length:=List.length_filter_le _ _
theorem vb (r0:D) (t:Int) (l0:List D) (Y:l0.length<=140737488351232) (hn: ∀x∈l0,x= .i x.n) (y2 y3 y4 y5 y6 y7 y8 y9 lR mF nr:Int): ∀(m i j:Nat) (r:D),r.l.length=l0.length->i<j->j+m=l0.length->r.l.drop j=l0.drop j->r.l.take i=wo t (l0.take j)->
 ∃(n:Nat) (r':D),n<l0.length/\r'.l.length=l0.length/\r'.l.take n=wo t l0/\L 12001 [enc r0,t,y2,y3,y4,y5,y6,y7,y8,y9,lR,mF,nr,enc r,(i:Int),(j:Int)]=some [1,enc r0,t,y2,y3,y4,y5,y6,y7,y8,y9,lR,mF,nr,(n:Int),enc r',(l0.length:Int)]
 |0,i,j,r,hr,U,Z,h3,h4=>by
  have c1: ¬(j:Int)<(l0.length:Int):=J
  have c2: ¬((i:Int)<0):=J
  have c3: ¬((l0.length:Int)<(i:Int)):=J
  have c4: ¬((l0.length:Int)-(i:Int)<0):=J
  have c5:(i:Int)+((l0.length:Int)-(i:Int))=(l0.length:Int):=J
  refine⟨i,dL (r.l.take i++List.replicate (r.l.length-i) (.i 0)),J,by rw [bz]; simp only [aZ,aY,axs]; omega,?_,?_⟩
  ·grind [bz]
  ·rw [bB,MG];simp only [K6,zz,c1,c2,c3,c4,c5,aW,fin,hr]
 |m+1,i,j,r,hr,U,Z,h3,h4=>by
  have c1:(j:Int)<(l0.length:Int):=J
  have c2: ¬((j:Int)<0):=J
  have w:=bx (n:=j) J;have hj:j<r.l.length:=J
  have hj0:j<l0.length:=J
  have hx:r.at (j:Int)=l0[j]:=by exact ahX
  have h3':r.l.drop (j+1)=l0.drop (j+1):=by exact al5
  by_cases he:(r.at (j:Int)).n=t
  ·obtain⟨n,r',q1,q2,q3,ih⟩:=vb r0 t l0 Y hn y2 y3 y4 y5 y6 y7 y8 y9 lR mF nr m i (j+1) r hr J J h3' (by rw [xF hj0,<- hx,ag he,h4]);refine⟨n,r',q1,q2,q3,?_⟩;rw [bB,MG];simp only [K6,zz,c1,c2,he,w,hr,fin,ih]
  ·have c3: ¬((i:Int)<0):=J
   have c4:(i:Int)<(l0.length:Int):=J
   have w2:=bx (n:=i) J;have hs:dg r.l (i:Int) (.i (r.at (j:Int)).n)=r.l.set i l0[j]:=by rw [qU,hx,<- hn _ (aq hj0)]
   obtain⟨n,r',q1,q2,q3,ih⟩:=vb r0 t l0 Y hn y2 y3 y4 y5 y6 y7 y8 y9 lR mF nr m (i+1) (j+1) (dL (dg r.l (i:Int) (.i (r.at (j:Int)).n))) (by rw [bz,dM,hr]) J J
    (by rw [bz,hs,ayn J,h3'])
    (by rw [bz,hs,ayb (by rw [axx]; omega),aym (au _),ayM,h4,xF hj0,<- hx,af he])
   refine⟨n,r',q1,q2,q3,?_⟩;rw [bB,MG];simp only [K6,zz,c1,c2,c3,c4,af he,w,w2,hr,fin,ih]
theorem agL (r:D) (t:Int) (Y:r.l.length<=140737488351232) (hn: ∀x∈r.l,x= .i x.n):(wo t r.l=r.l/\∀y2 y3 y4 y5 y6 y7 y8 y9 lR mF nr:Int,L 12000 [enc r,t,y2,y3,y4,y5,y6,y7,y8,y9,lR,mF,nr]=some [0,enc r,t,y2,y3,y4,y5,y6,y7,y8,y9,lR,mF,nr])\/
 ∀y2 y3 y4 y5 y6 y7 y8 y9 lR mF nr:Int,∃(n:Nat) (r':D),n<r.l.length/\r'.l.length=r.l.length/\r'.l.take n=wo t r.l/\L 12000 [enc r,t,y2,y3,y4,y5,y6,y7,y8,y9,lR,mF,nr]=some [1,enc r,t,y2,y3,y4,y5,y6,y7,y8,y9,lR,mF,nr,(n:Int),enc r',(r.l.length:Int)]:=by
 have h:=af6 r t Y;rcases kS r t with ⟨hp,sX⟩|⟨i,hi,hp,fU,sX⟩
 ·refine .inl ⟨xG sX,fun y2 y3 y4 y5 y6 y7 y8 y9 lR mF nr=>?_⟩;have h':=h y2 y3 y4 y5 y6 y7 y8 y9 lR mF nr;clear h;rw [hp] at h';rw [bB,Uw,R8,eO,ag,eO,ag,eO,ag]
  ·exact ahP
  ·simp only [Qm3,pw,eY,oS,rG,List.map,cE,Nat.reduceLT,cT,cZ];exact amf
  ·exact XR
  ·exact aeV
 ·refine .inr fun y2 y3 y4 y5 y6 y7 y8 y9 lR mF nr=>?_;have h':=h y2 y3 y4 y5 y6 y7 y8 y9 lR mF nr;clear h;rw [hp] at h';have w:=bx (n:=i) J;have h0:r.l.take i=wo t (r.l.take (i+1)):=by rw [xF hi,ag fU,xG sX]
  obtain⟨n,r',q1,q2,q3,ih⟩:=vb r t r.l Y hn y2 y3 y4 y5 y6 y7 y8 y9 lR mF nr (r.l.length-(i+1)) i (i+1) r rfl J J rfl h0;refine⟨n,r',q1,q2,q3,?_⟩;rw [bB,Uw,R8,eO,ag,eO,ag,eO,af]
  ·simp only [lS,List.map,Qm3,eY,oS,xi,den_add,cE,cT,cZ,Nat.reduceLT];exact ahq
  ·simp only [Qm3,pw,eY,oS,rG,List.map,cE,Nat.reduceLT,cT,cZ];exact ah0
  ·exact XR
  ·exact XR
theorem va (r0:D) (t:Int) (l0:List D) (Y:l0.length<=140737488351232) (hn: ∀x∈l0,x= .i x.n) (y2 y3 y4 y5 y6 y7 y8 y9 lR mF nr:Int): ∀(m i j:Nat) (r:D),r.l.length=l0.length->i<j->j+m=l0.length->r.l.drop j=l0.drop j->r.l.take i=wo t (l0.take j)->
 ∃(n:Nat) (r':D),n<l0.length/\r'.l.length=l0.length/\r'.l.take n=wo t l0/\L 12101 [enc r0,t,y2,y3,y4,y5,y6,y7,y8,y9,lR,mF,nr,enc r,(i:Int),(j:Int)]=some [1,enc r0,t,y2,y3,y4,y5,y6,y7,y8,y9,lR,mF,nr,(n:Int),enc r',(l0.length:Int)]
 |0,i,j,r,hr,U,Z,h3,h4=>by
  have c1: ¬(j:Int)<(l0.length:Int):=J
  have c2: ¬((i:Int)<0):=J
  have c3: ¬((l0.length:Int)<(i:Int)):=J
  have c4: ¬((l0.length:Int)-(i:Int)<0):=J
  have c5:(i:Int)+((l0.length:Int)-(i:Int))=(l0.length:Int):=J
  refine⟨i,dL (r.l.take i++List.replicate (r.l.length-i) (.i 0)),J,by rw [bz]; simp only [aZ,aY,axs]; omega,?_,?_⟩
  ·grind [bz]
  ·rw [bB,MF];simp only [K4,zz,c1,c2,c3,c4,c5,aW,fin,hr]
 |m+1,i,j,r,hr,U,Z,h3,h4=>by
  have c1:(j:Int)<(l0.length:Int):=J
  have c2: ¬((j:Int)<0):=J
  have w:=bx (n:=j) J;have hj:j<r.l.length:=J
  have hj0:j<l0.length:=J
  have hx:r.at (j:Int)=l0[j]:=by exact ahX
  have h3':r.l.drop (j+1)=l0.drop (j+1):=by exact al5
  by_cases he:(r.at (j:Int)).n=t
  ·obtain⟨n,r',q1,q2,q3,ih⟩:=va r0 t l0 Y hn y2 y3 y4 y5 y6 y7 y8 y9 lR mF nr m i (j+1) r hr J J h3' (by rw [xF hj0,<- hx,ag he,h4]);refine⟨n,r',q1,q2,q3,?_⟩;rw [bB,MF];simp only [K4,zz,c1,c2,he,w,hr,fin,ih]
  ·have c3: ¬((i:Int)<0):=J
   have c4:(i:Int)<(l0.length:Int):=J
   have w2:=bx (n:=i) J;have hs:dg r.l (i:Int) (.i (r.at (j:Int)).n)=r.l.set i l0[j]:=by rw [qU,hx,<- hn _ (aq hj0)]
   obtain⟨n,r',q1,q2,q3,ih⟩:=va r0 t l0 Y hn y2 y3 y4 y5 y6 y7 y8 y9 lR mF nr m (i+1) (j+1) (dL (dg r.l (i:Int) (.i (r.at (j:Int)).n))) (by rw [bz,dM,hr]) J J
    (by rw [bz,hs,ayn J,h3'])
    (by rw [bz,hs,ayb (by rw [axx]; omega),aym (au _),ayM,h4,xF hj0,<- hx,af he])
   refine⟨n,r',q1,q2,q3,?_⟩;rw [bB,MF];simp only [K4,zz,c1,c2,c3,c4,af he,w,w2,hr,fin,ih]
theorem agK (r:D) (t:Int) (Y:r.l.length<=140737488351232) (hn: ∀x∈r.l,x= .i x.n):(wo t r.l=r.l/\∀y2 y3 y4 y5 y6 y7 y8 y9 lR mF nr:Int,L 12100 [enc r,t,y2,y3,y4,y5,y6,y7,y8,y9,lR,mF,nr]=some [0,enc r,t,y2,y3,y4,y5,y6,y7,y8,y9,lR,mF,nr])\/
 ∀y2 y3 y4 y5 y6 y7 y8 y9 lR mF nr:Int,∃(n:Nat) (r':D),n<r.l.length/\r'.l.length=r.l.length/\r'.l.take n=wo t r.l/\L 12100 [enc r,t,y2,y3,y4,y5,y6,y7,y8,y9,lR,mF,nr]=some [1,enc r,t,y2,y3,y4,y5,y6,y7,y8,y9,lR,mF,nr,(n:Int),enc r',(r.l.length:Int)]:=by
 have h:=af5 r t Y;rcases kS r t with ⟨hp,sX⟩|⟨i,hi,hp,fU,sX⟩
 ·refine .inl ⟨xG sX,fun y2 y3 y4 y5 y6 y7 y8 y9 lR mF nr=>?_⟩;have h':=h y2 y3 y4 y5 y6 y7 y8 y9 lR mF nr;clear h;rw [hp] at h';rw [bB,Uu,R7,eO,ag,eO,ag,eO,ag]
  ·exact ahP
  ·simp only [Qnf,pw,eY,oS,rG,List.map,cE,Nat.reduceLT,cT,cZ];exact amf
  ·exact XR
  ·exact aeV
 ·refine .inr fun y2 y3 y4 y5 y6 y7 y8 y9 lR mF nr=>?_;have h':=h y2 y3 y4 y5 y6 y7 y8 y9 lR mF nr;clear h;rw [hp] at h';have w:=bx (n:=i) J;have h0:r.l.take i=wo t (r.l.take (i+1)):=by rw [xF hi,ag fU,xG sX]
  obtain⟨n,r',q1,q2,q3,ih⟩:=va r t r.l Y hn y2 y3 y4 y5 y6 y7 y8 y9 lR mF nr (r.l.length-(i+1)) i (i+1) r rfl J J rfl h0;refine⟨n,r',q1,q2,q3,?_⟩;rw [bB,Uu,R7,eO,ag,eO,ag,eO,af]
  ·simp only [lS,List.map,Qnf,eY,oS,xi,den_add,cE,cT,cZ,Nat.reduceLT];exact ahq
  ·simp only [Qnf,pw,eY,oS,rG,List.map,cE,Nat.reduceLT,cT,cZ];exact ah0
  ·exact XR
  ·exact XR
theorem agJ (r:D) (t:Int): ∀y2 y3 y4 y5 y6 y7 y8 y9 lR mF nr:Int,L 12200 [enc r,t,y2,y3,y4,y5,y6,y7,y8,y9,lR,mF,nr]=some [0,enc r,t,y2,y3,y4,y5,y6,y7,y8,y9,lR,mF,nr]:=by
 intro y2 y3 y4 y5 y6 y7 y8 y9 lR mF nr
 have h:L 12250 [enc r,t,y2,y3,y4,y5,y6,y7,y8,y9,lR,mF,nr]=some [0,enc r,t,y2,y3,y4,y5,y6,y7,y8,y9,lR,mF,nr]:=by rw [bB,adQ];simp_all [V_,zz,fin,bB,adP,U?]
 have h':=h;clear h;rw [bB,adR,V!,eO,ag,eO,ag]
 ·exact aha
 ·exact aiv
 ·exact aeV
theorem agI (r:D) (t:Int): ∀y2 y3 y4 y5 y6 y7 y8 y9 lR mF nr:Int,L 12300 [enc r,t,y2,y3,y4,y5,y6,y7,y8,y9,lR,mF,nr]=some [0,enc r,t,y2,y3,y4,y5,y6,y7,y8,y9,lR,mF,nr]:=by
 intro y2 y3 y4 y5 y6 y7 y8 y9 lR mF nr
 have h:L 12350 [enc r,t,y2,y3,y4,y5,y6,y7,y8,y9,lR,mF,nr]=some [0,enc r,t,y2,y3,y4,y5,y6,y7,y8,y9,lR,mF,nr]:=by rw [bB,adN];simp_all [U',zz,fin,bB,adM,U_]
 have h':=h;clear h;rw [bB,adO,U!,eO,ag,eO,ag]
 ·exact aha
 ·exact aiv
 ·exact aeV
end
abbrev Mx (d0:D) (obj:Int):Int:=((d0.at obj).V 2).n
abbrev Mo (d0 s:D) (obj:Int):Int:=((s.at ((d0.at obj).V 2).n).V 0).n
inductive Act where
 |n7
 |wM
 |res (o c dn g:Int) (r v:D) (m:Option Int) (a oc:Int)
def act (M mo th op arg tries o c dn g:Int) (r v:D):Act:=
 if op=1 then (if o=th then .wM else if place r th<0 then (if o<0 then .res th c dn g r v none 0 2 else .n7) else .wM)
 else if op=2 then (if o=th then .res (-1) c dn g r v none 0 2 else .wM)
 else if op=8 then (if o=th then .res (-1) c dn g r v none 0 2 else .wM)
 else if op=3 then (if o<0 then .res th c dn g r v none 1 2 else .res o c dn g r v none 0 2)
 else if op=4 then (if o<0 then .res th c dn g r v none 1 2 else if tries<arg then .n7 else .res o c dn g r v none 0 2)
 else if op=5 then (if o=th then .wM else if place r th<0 then (if o<0 then .res o c dn g (dL (r.l++ [.i th])) v none 0 2 else .n7) else .wM)
 else if op=6 then (if place r th<0 then .wM else .res o c dn g (fu (.i 2) (r.l.take (place r th).toNat++r.l.drop ((place r th).toNat+1))) v none 0 2)
 else if op=7 then (if o=th then .wM else if place r th<0 then (if (r.l.length:Int)=0 then (if o<0 then .res th c dn g r v none 0 2 else .n7) else .n7) else .wM)
 else if op=9 then (if 0<c then .res o (IntKind.i64.wrap (c-1)) dn g r v none 0 2 else .n7)
 else if op=11 then (if 0<c then .res o (IntKind.i64.wrap (c-1)) dn g r v none 1 2 else .res o c dn g r v none 0 2)
 else if op=10 then (if c<M then .res o (IntKind.i64.wrap (c+1)) dn g r v none 0 2 else .wM)
 else if op=17 then (if arg<IntKind.i64.wrap (0-c) then .wM else if IntKind.i64.wrap (1099511627776-c)<arg then .wM else .res o (IntKind.i64.wrap (c+arg)) dn g r v none (IntKind.i64.wrap (c+arg)) 2)
 else if op=18 then (if 0<c then .res o (IntKind.i64.wrap (c-1)) dn g r v none (IntKind.i64.wrap (c-1)) 2 else .wM)
 else if op=19 then (if c=0 then .res o c dn g r v none 0 2 else .n7)
 else if op=22 then .res o c dn g r v none c 2
 else if op=23 then .res o arg dn g r v none arg 2
 else if op=20 then (if (v.l.length:Int)<M then .res o c dn g r (dL (v.l++ [.i arg])) none arg 2 else .n7)
 else if op=21 then (if (v.l.length:Int)=0 then .n7 else .res o c dn g r (fu v (v.l.drop 1)) none (v.at 0).n 2)
 else if op=12 then (if mo=th then .res o c dn g (dL (wo th r.l++ [.i th])) v (some (-1)) 0 3 else .wM)
 else if op=13 then (if (r.l.length:Int)=0 then .res o c dn g r v none 0 2 else .res o c dn g (fu r (r.l.drop 1)) v none (IntKind.i64.wrap ((r.at 0).n+1)) 2)
 else if op=14 then .res o c dn g (.i 1) v none (r.l.length:Int) 2
 else if op=24 then (if place r th<0 then (if mo<0 then .res o c dn g r v (some th) 0 2 else .n7) else .n7)
 else if op=15 then (if g<4611686018427387904 then (if IntKind.i64.wrap (c+1)=M then .res o 0 dn (IntKind.i64.wrap (g+1)) r v none g 3 else .res o (IntKind.i64.wrap (c+1)) dn g r v none g 3) else .wM)
 else if op=25 then (if arg<g then .res o c dn g r v none arg 2 else .n7)
 else if op=16 then (if dn=0 then (if o=th then .wM else if o<0 then .res th c dn g r v none 1 2 else .n7) else .res o c dn g r v none 0 2)
 else (if o=th then .res (-1) c 1 g r v none 0 2 else .wM)
def F7 (s:D) (obj M:Int):Act->D
 | .res o c dn g r v m _ _=>dL (dg (match m with |none=>s.l|some q=>dg s.l M (dL (dg (s.at M).l 0 (.i q)))) obj (dL [.i o,.i c,.i (if dn=0 then 0 else 1),.i g,r,v]))
 |_=>s
def Ge (s:D) (th op obj M:Int):Act->List Int
 | .n7=>[enc s,0,0,0,0,0,0]
 | .wM=>[enc s,th,27,obj,IntKind.i64.wrap op,0,2]
 | .res o c dn g r v m a oc=>[enc (F7 s obj M (.res o c dn g r v m a oc)),th,op,obj,a,0,oc]
structure TH (d0 d1 s:D) (th op obj arg tries o c dn g:Int) (r v:D):Prop where
 eR:L 9000 [obj,enc s]=some [mA r v,obj,enc s,o,c,dn,g,enc r,enc v]
 qD:L 550 [enc s]=some [enc s]
 hR:L 350 [enc d0,enc d1,enc s]=some [1]
 tQ:0<=th
 mi:th<(d1.l.length:Int)
 lV:0<=obj
 jm:obj<(s.l.length:Int)
 hlen:s.l.length=d0.l.length
 hk:L 600 [op]=some [((d0.at obj).V 0).n]
 hr:(r.l.length:Int)<17592186044415
 hv:(v.l.length:Int)<17592186044415
 hn: ∀x∈r.l,x= .i x.n
 hM:op=12\/op=24->0<=((d0.at obj).V 2).n/\((d0.at obj).V 2).n<(s.l.length:Int)/\((d0.at obj).V 2).n≠obj
theorem TH.hb {d0 d1 s:D} {th op obj arg tries o c dn g:Int} {r v:D} (H:TH d0 d1 s th op obj arg tries o c dn g r v):r.l.length<=140737488351232:=by have:=H.hr; omega
noncomputable abbrev dG (d0 d1 s:D) (th op obj arg tries:Int):Nat->Int:=df L (low [enc d0,enc d1,enc s,th,op,obj,arg,tries])
abbrev bY (k:Nat):W:=rr 9000 [.dH 5,.dH 2] k
abbrev SN:W:=nm (ce 2 (el (.dH 0) (.dH 5)))
abbrev kK:W:=rr 850 [bY 7,.dH 3] 0
abbrev X7 (q:W):W:=.op .set (bY 2) (cn (mk SN) (.op .set (el (bY 2) SN) (cn (.eS (.i 0)) q)))
abbrev tn:List W:=[bY 7,.dH 3,.dH 5,SN,X7 (.eS (.i (-1))),.dH 4,.dH 6,.dH 7,bY 3,bY 4,bY 5,bY 6,bY 8]
abbrev thg (o c d g r v:W):W:=cn (mk (.dH 5)) (cn o (cn c (cn d (cn g (cn r (cn v (.eS (.i 0))))))))
abbrev sS:T Lf:=ou [rr 550 [.dH 2] 0,.dH 3,.lit 27,.dH 5,wr (.dH 4),.lit 0,.lit 2]
abbrev yp:T Lf:=ou [rr 550 [.dH 2] 0,.lit 0,.lit 0,.lit 0,.lit 0,.lit 0,.lit 0]
abbrev j9 (z o c d g r v a:W) (oc:Int):T Lf:=ou [.op .set z (thg o c d g r v),.dH 3,.dH 4,.dH 5,a,.lit 0,.lit oc]
theorem lz {r:D} (h:r.l= []) (t:Int):place r t= -1:=by unfold place; rw [h]; rfl
theorem jh {r:D} (h:r.l= []) (t:Int):wo t r.l= []:=by rw [h]; rfl
theorem awh {r v:D} (h:0<r.l.length) (h':0<v.l.length):mA r v=3:=by simp [mA,h,h']
theorem awg {r v:D} (h:0<r.l.length) (h':v.l= []):mA r v=4:=by simp [mA,h,h']
theorem awf {r v:D} (h:r.l= []) (h':0<v.l.length):mA r v=5:=by simp [mA,h,h']
theorem awe {r v:D} (h:r.l= []) (h':v.l= []):mA r v=6:=by simp [mA,h,h']
abbrev Gl (d0 s:D) (th op obj arg tries o c dn g:Int) (r v:D):RS:=.out (Ge s th op obj (Mx d0 obj) (act (Mx d0 obj) (Mo d0 s obj) th op arg tries o c dn g r v))
theorem iB (s:D) (th op obj M:Int):Ge s th op obj M .n7= [enc s,0,0,0,0,0,0]:=rfl
theorem iA (s:D) (th op obj M:Int):Ge s th op obj M .wM= [enc s,th,27,obj,IntKind.i64.wrap op,0,2]:=rfl
theorem gF (s:D) (th op obj M o c dn g:Int) (r v:D) (a oc:Int):Ge s th op obj M (.res o c dn g r v none a oc)= [enc (dL (dg s.l obj (dL [.i o,.i c,.i (if dn=0 then 0 else 1),.i g,r,v]))),th,op,obj,a,0,oc]:=rfl
theorem gE (s:D) (th op obj M o c dn g:Int) (r v:D) (q a oc:Int):Ge s th op obj M (.res o c dn g r v (some q) a oc)= [enc (dL (dg (dg s.l M (dL (dg (s.at M).l 0 (.i q)))) obj (dL [.i o,.i c,.i (if dn=0 then 0 else 1),.i g,r,v]))),th,op,obj,a,0,oc]:=rfl
section
variable {s:D} {th op obj M:Int}
theorem mH {c:Prop} [Decidable c] {a b:Act}:RS.out (Ge s th op obj M (if c then a else b))=if c then RS.out (Ge s th op obj M a) else RS.out (Ge s th op obj M b):=by split<;>rfl
end
theorem Td {p:Prop} [Decidable p]:((if p then (0:Int) else 1)=0)=p:=by by_cases h:p<;>simp [h]
theorem gv (l:List D):l= []\/0<l.length:=by cases l<;>simp
theorem z2 {ρ:Nat->Int} {a b c d:List SB} (h:zY ρ a/\zW ρ b) (h':zY ρ c/\zW ρ d):zY ρ (a++c)/\zW ρ (b++d):=⟨n_ h.1 h'.1,o_ h.2 h'.2⟩
section
variable {n:Nat} {r1:D}
abbrev bt:W:=.op .bit (mk (bY 5)) (.lit 0)
abbrev kW:W:=wr (.add kK (.lit 1))
abbrev kL:W:=.sub (ln (bY 7)) kW
abbrev kD:W:=.add kK kL
abbrev kC:W:=.op .cat (.op .cat (.op .take (bY 7) kK) (.op .drop (.op .take (bY 7) (.add kW kL)) kW)) (.op .drop (bY 7) kD)
abbrev kF:W:=.op .fill kC (cn (mk kD) (.eS (.i 0)))
section
variable {d0 d1 s r v:D} {th op obj arg tries o c dn g:Int}
abbrev YG:List SB:=[.eq (a0 9000 [.dH 5,.dH 2]) (.lit 1),.eq (a0 350 [.dH 0,.dH 1,.dH 2]) (.lit 1),.eq (a0 600 [.dH 4]) (.lit 1),.eq (a0 550 [.dH 2]) (.lit 1),.eq (a0 900 [bY 7,.dH 3]) (.lit 1),.eq (a0 850 [bY 7,.dH 3]) (.lit 1),.lt (.dH 3) (ln (.dH 1)),.lt (.dH 5) (ln (.dH 0)),.lt (.dH 5) (ln (bY 2)),.eq (rr 600 [.dH 4] 0) (nm (ce 0 (el (.dH 0) (.dH 5)))),.lt (ln (bY 7)) (.lit 17592186044415),.lt (ln (bY 8)) (.lit 17592186044415)]
abbrev NG:List SB:=[.lt (.dH 5) (.lit 0),.eq (rr 350 [.dH 0,.dH 1,.dH 2] 0) (.lit 0),.lt (.dH 3) (.lit 0),.lt (ln (bY 7)) (ln (bY 7)),.lt (ln (bY 8)) (.add (.lit 1) (.sub (ln (bY 8)) (.lit 1))),.lt (ln (bY 7)) (.add (.lit 1) (.sub (ln (bY 7)) (.lit 1)))]
theorem fG (H:TH d0 d1 s th op obj arg tries o c dn g r v):zY (dG d0 d1 s th op obj arg tries) YG/\zW (dG d0 d1 s th op obj arg tries) NG:=by exact aqu
abbrev YA3:List SB:=[.eq (bY 0) (.lit 3)]
abbrev NA3:List SB:=[.eq (bY 0) (.lit 0),.eq (bY 0) (.lit 1),.eq (bY 0) (.lit 2),.eq (bY 0) (.lit 4),.eq (bY 0) (.lit 5),.eq (bY 0) (.lit 6),.lt (.sub (ln (bY 7)) (.lit 1)) (.lit 0),.lt (.sub (ln (bY 8)) (.lit 1)) (.lit 0)]
theorem fA3 (H:TH d0 d1 s th op obj arg tries o c dn g r v) (hr:0<r.l.length) (hv:0<v.l.length):zY (dG d0 d1 s th op obj arg tries) YA3/\zW (dG d0 d1 s th op obj arg tries) NA3:=by have hb:=H.hb;have U:=H.tQ; have Z:=H.mi; have h3:=H.lV; have h4:=H.jm; have h5:=H.hlen; have h6:=H.hr; have h7:=H.hv; have hp:=gS r th;simp only [zz,H.eR,H.qD,H.hR,H.hk,gV r th hb,gU r th hb,awh hr hv]<;>omega
abbrev YA4:List SB:=[.eq (bY 0) (.lit 4)]
abbrev NA4:List SB:=[.eq (bY 0) (.lit 0),.eq (bY 0) (.lit 1),.eq (bY 0) (.lit 2),.eq (bY 0) (.lit 3),.eq (bY 0) (.lit 5),.eq (bY 0) (.lit 6),.lt (.sub (ln (bY 7)) (.lit 1)) (.lit 0)]
theorem fA4 (H:TH d0 d1 s th op obj arg tries o c dn g r v) (hr:0<r.l.length) (hv:v.l= []):zY (dG d0 d1 s th op obj arg tries) YA4/\zW (dG d0 d1 s th op obj arg tries) NA4:=by have hb:=H.hb;have U:=H.tQ; have Z:=H.mi; have h3:=H.lV; have h4:=H.jm; have h5:=H.hlen; have h6:=H.hr; have h7:=H.hv; have hp:=gS r th;simp only [zz,H.eR,H.qD,H.hR,H.hk,gV r th hb,gU r th hb,awg hr hv]<;>omega
abbrev YA5:List SB:=[.eq (bY 0) (.lit 5),.lt kK (.lit 0)]
abbrev NA5:List SB:=[.eq (bY 0) (.lit 0),.eq (bY 0) (.lit 1),.eq (bY 0) (.lit 2),.eq (bY 0) (.lit 3),.eq (bY 0) (.lit 4),.eq (bY 0) (.lit 6),.lt (.sub (ln (bY 8)) (.lit 1)) (.lit 0)]
theorem fA5 (H:TH d0 d1 s th op obj arg tries o c dn g r v) (hr:r.l= []) (hv:0<v.l.length):zY (dG d0 d1 s th op obj arg tries) YA5/\zW (dG d0 d1 s th op obj arg tries) NA5:=by have hb:=H.hb;have U:=H.tQ; have Z:=H.mi; have h3:=H.lV; have h4:=H.jm; have h5:=H.hlen; have h6:=H.hr; have h7:=H.hv; have hp:=gS r th;simp only [zz,H.eR,H.qD,H.hR,H.hk,gV r th hb,gU r th hb,awf hr hv,lz hr]<;>omega
abbrev YA6:List SB:=[.eq (bY 0) (.lit 6),.lt kK (.lit 0)]
abbrev NA6:List SB:=[.eq (bY 0) (.lit 0),.eq (bY 0) (.lit 1),.eq (bY 0) (.lit 2),.eq (bY 0) (.lit 3),.eq (bY 0) (.lit 4),.eq (bY 0) (.lit 5)]
theorem fA6 (H:TH d0 d1 s th op obj arg tries o c dn g r v) (hr:r.l= []) (hv:v.l= []):zY (dG d0 d1 s th op obj arg tries) YA6/\zW (dG d0 d1 s th op obj arg tries) NA6:=by have hb:=H.hb;have U:=H.tQ; have Z:=H.mi; have h3:=H.lV; have h4:=H.jm; have h5:=H.hlen; have h6:=H.hr; have h7:=H.hv; have hp:=gS r th;simp only [zz,H.eR,H.qD,H.hR,H.hk,gV r th hb,gU r th hb,awe hr hv,lz hr]<;>omega
abbrev YM:List SB:=[.lt SN (ln (bY 2))]
abbrev NM:List SB:=[.lt SN (.lit 0),.eq SN (.dH 5)]
theorem fM (H:TH d0 d1 s th op obj arg tries o c dn g r v) (ho:op=12\/op=24):zY (dG d0 d1 s th op obj arg tries) YM/\zW (dG d0 d1 s th op obj arg tries) NM:=by have hb:=H.hb;have U:=H.tQ; have Z:=H.mi; have h3:=H.lV; have h4:=H.jm; have h5:=H.hlen; have h6:=H.hr; have h7:=H.hv; have hp:=gS r th; have hm:=H.hM ho;simp only [zz,H.eR,H.qD,H.hR,H.hk,gV r th hb,gU r th hb]<;>omega
abbrev YK0:List SB:=[.lt kK (.lit 0)]
abbrev NK0:List SB:=[]
theorem fK0 (H:TH d0 d1 s th op obj arg tries o c dn g r v) (hk:place r th<0):zY (dG d0 d1 s th op obj arg tries) YK0/\zW (dG d0 d1 s th op obj arg tries) NK0:=by exact aqu
abbrev YK1:List SB:=[.lt kD (ln (bY 7)),.eq (.add kD (.sub (ln (bY 7)) kD)) (ln kC)]
abbrev NK1:List SB:=[.lt kK (.lit 0),.lt kW kK,.lt (ln (bY 7)) kW,.eq kK kW,.lt (ln (bY 7)) kK,.lt kW (.lit 0),.lt kL (.lit 0),.lt (ln (bY 7)) (.add kW kL),.lt (ln (bY 7)) kD,.lt kD (.lit 0),.lt (ln kC) (ln (bY 7)),.lt (.sub (ln (bY 7)) kD) (.lit 0),.lt (ln kF) kD]
theorem fK1 (H:TH d0 d1 s th op obj arg tries o c dn g r v) (hk: ¬place r th<0):zY (dG d0 d1 s th op obj arg tries) YK1/\zW (dG d0 d1 s th op obj arg tries) NK1:=by have hb:=H.hb;have U:=H.tQ; have Z:=H.mi; have h3:=H.lV; have h4:=H.jm; have h5:=H.hlen; have h6:=H.hr; have h7:=H.hv; have hp:=gS r th; have hw:IntKind.i64.wrap (place r th+1)=place r th+1:=fg J J;simp only [zz,H.eR,H.qD,H.hR,H.hk,gV r th hb,gU r th hb,bP,bz,aZ,aY,bp,axs,hw]<;>omega
abbrev dA (d0 s r v:D) (th op obj arg tries o c dn g:Int):List Int:=[enc r,th,obj,Mx d0 obj,enc (dL (dg s.l (Mx d0 obj) (dL (dg (s.at (Mx d0 obj)).l 0 (.i (-1)))))),op,arg,tries,o,c,dn,g,enc v]
abbrev awm:List SB:=[.eq (a0 12000 tn) (.lit 1),.eq (rr 12000 tn 0) (.lit 0)]
abbrev aws:List SB:=[]
theorem awb (H:TH d0 d1 s th op obj arg tries o c dn g r v) (V:L 12000 (dA d0 s r v th op obj arg tries o c dn g)=some (0::(dA d0 s r v th op obj arg tries o c dn g))):zY (dG d0 d1 s th op obj arg tries) awm/\zW (dG d0 d1 s th op obj arg tries) aws:=by exact ae0
abbrev awn:List SB:=[.eq (a0 12000 tn) (.lit 1),.eq (rr 12000 tn 0) (.lit 1)]
abbrev awt:List SB:=[.eq (rr 12000 tn 0) (.lit 0),.lt (rr 12000 tn 14) (.lit 0),.lt (ln (rr 12000 tn 15)) (.add (rr 12000 tn 14) (.lit 1)),.lt (.add (rr 12000 tn 14) (.lit 1)) (.lit 0),.lt (ln (.op .cat (.op .cat (.op .take (rr 12000 tn 15) (rr 12000 tn 14)) (.op .snoc (.eS (.i 0)) (mk (.dH 3)))) (.op .drop (rr 12000 tn 15) (.add (rr 12000 tn 14) (.lit 1))))) (.add (rr 12000 tn 14) (.lit 1))]
theorem awc (H:TH d0 d1 s th op obj arg tries o c dn g r v) (hn:n<r.l.length) (Y:r1.l.length=r.l.length) (V:L 12000 (dA d0 s r v th op obj arg tries o c dn g)=some (1::((dA d0 s r v th op obj arg tries o c dn g)++ [(n:Int),enc r1,(r.l.length:Int)]))):zY (dG d0 d1 s th op obj arg tries) awn/\zW (dG d0 d1 s th op obj arg tries) awt:=by exact aqC
abbrev awk:List SB:=[.eq (a0 12100 tn) (.lit 1),.eq (rr 12100 tn 0) (.lit 0)]
abbrev awq:List SB:=[]
theorem av9 (H:TH d0 d1 s th op obj arg tries o c dn g r v) (V:L 12100 (dA d0 s r v th op obj arg tries o c dn g)=some (0::(dA d0 s r v th op obj arg tries o c dn g))):zY (dG d0 d1 s th op obj arg tries) awk/\zW (dG d0 d1 s th op obj arg tries) awq:=by exact ae0
abbrev awl:List SB:=[.eq (a0 12100 tn) (.lit 1),.eq (rr 12100 tn 0) (.lit 1)]
abbrev awr:List SB:=[.eq (rr 12100 tn 0) (.lit 0),.lt (rr 12100 tn 14) (.lit 0),.lt (ln (rr 12100 tn 15)) (.add (rr 12100 tn 14) (.lit 1)),.lt (.add (rr 12100 tn 14) (.lit 1)) (.lit 0),.lt (ln (.op .cat (.op .cat (.op .take (rr 12100 tn 15) (rr 12100 tn 14)) (.op .snoc (.eS (.i 0)) (mk (.dH 3)))) (.op .drop (rr 12100 tn 15) (.add (rr 12100 tn 14) (.lit 1))))) (.add (rr 12100 tn 14) (.lit 1))]
theorem awa (H:TH d0 d1 s th op obj arg tries o c dn g r v) (hn:n<r.l.length) (Y:r1.l.length=r.l.length) (V:L 12100 (dA d0 s r v th op obj arg tries o c dn g)=some (1::((dA d0 s r v th op obj arg tries o c dn g)++ [(n:Int),enc r1,(r.l.length:Int)]))):zY (dG d0 d1 s th op obj arg tries) awl/\zW (dG d0 d1 s th op obj arg tries) awr:=by exact aqC
abbrev awj:List SB:=[.eq (a0 12200 tn) (.lit 1),.eq (rr 12200 tn 0) (.lit 0)]
abbrev awp:List SB:=[]
theorem av8 (H:TH d0 d1 s th op obj arg tries o c dn g r v) (V:L 12200 (dA d0 s r v th op obj arg tries o c dn g)=some (0::(dA d0 s r v th op obj arg tries o c dn g))):zY (dG d0 d1 s th op obj arg tries) awj/\zW (dG d0 d1 s th op obj arg tries) awp:=by exact ae0
abbrev awi:List SB:=[.eq (a0 12300 tn) (.lit 1),.eq (rr 12300 tn 0) (.lit 0)]
abbrev awo:List SB:=[]
theorem av7 (H:TH d0 d1 s th op obj arg tries o c dn g r v) (V:L 12300 (dA d0 s r v th op obj arg tries o c dn g)=some (0::(dA d0 s r v th op obj arg tries o c dn g))):zY (dG d0 d1 s th op obj arg tries) awi/\zW (dG d0 d1 s th op obj arg tries) awo:=by exact ae0
end
end
section
variable {n:Nat} {r1:D}
theorem Hz (l m:List D):fu (dL l) m=fu (.i 2) m:=by
 cases m with
 |cons a m=>rfl
 |nil=>cases l<;>rfl
theorem Ve (d:D) (h:0<d.l.length):fu (fu d (d.l.take (1+((d.l.length:Int)-1)).toNat)) ((fu d (d.l.take (1+((d.l.length:Int)-1)).toNat)).l.drop (1:Int).toNat)=fu d (d.l.drop 1):=by rw [zQ (fun e=>by rw [e]; rfl),bP,axm J];rfl
theorem apq (l:List D) (k:Nat) (hk:k<l.length) (R B:List D):((l.take k++(l.take l.length).drop (k+1)++B).take (l.length-1)++R).take (l.length-1)=l.take k++l.drop (k+1)\/B.length=0:=by
 grind
section
variable {d0 d1 s r v:D} {th op obj arg tries o c dn g:Int}
abbrev zt0:T Lf:=(sp (.eq (bY 3) (.dH 3)) sS (sp (.eq (rr 900 [bY 7,.dH 3] 0) (.lit 0)) (sp (.lt (bY 3) (.lit 0)) (j9 (bY 2) (mk (.dH 3)) (mk (bY 4)) bt (mk (bY 6)) (bY 7) (bY 8) (.lit 0) 2) yp) sS))
theorem sm0 (H:TH d0 d1 s th 1 obj arg tries o c dn g r v):eA (dG d0 d1 s th 1 obj arg tries) zt0=Gl d0 s th 1 obj arg tries o c dn g r v:=by exact Nn
abbrev zt1:T Lf:=(sp (.eq (bY 3) (.dH 3)) (j9 (bY 2) (.eS (.i (-1))) (mk (bY 4)) bt (mk (bY 6)) (bY 7) (bY 8) (.lit 0) 2) sS)
theorem sm1 (H:TH d0 d1 s th 2 obj arg tries o c dn g r v):eA (dG d0 d1 s th 2 obj arg tries) zt1=Gl d0 s th 2 obj arg tries o c dn g r v:=by exact Nn
theorem sm2 (H:TH d0 d1 s th 8 obj arg tries o c dn g r v):eA (dG d0 d1 s th 8 obj arg tries) zt1=Gl d0 s th 8 obj arg tries o c dn g r v:=by exact Nn
abbrev zt2:T Lf:=(sp (.lt (bY 3) (.lit 0)) (j9 (bY 2) (mk (.dH 3)) (mk (bY 4)) bt (mk (bY 6)) (bY 7) (bY 8) (.lit 1) 2) (j9 (bY 2) (mk (bY 3)) (mk (bY 4)) bt (mk (bY 6)) (bY 7) (bY 8) (.lit 0) 2))
theorem sm3 (H:TH d0 d1 s th 3 obj arg tries o c dn g r v):eA (dG d0 d1 s th 3 obj arg tries) zt2=Gl d0 s th 3 obj arg tries o c dn g r v:=by exact Nn
abbrev zt3:T Lf:=(sp (.lt (bY 3) (.lit 0)) (j9 (bY 2) (mk (.dH 3)) (mk (bY 4)) bt (mk (bY 6)) (bY 7) (bY 8) (.lit 1) 2) (sp (.lt (.dH 7) (.dH 6)) yp (j9 (bY 2) (mk (bY 3)) (mk (bY 4)) bt (mk (bY 6)) (bY 7) (bY 8) (.lit 0) 2)))
theorem sm4 (H:TH d0 d1 s th 4 obj arg tries o c dn g r v):eA (dG d0 d1 s th 4 obj arg tries) zt3=Gl d0 s th 4 obj arg tries o c dn g r v:=by exact Nn
abbrev zt4:T Lf:=(sp (.eq (bY 3) (.dH 3)) sS (sp (.eq (rr 900 [bY 7,.dH 3] 0) (.lit 0)) (sp (.lt (bY 3) (.lit 0)) (j9 (bY 2) (mk (bY 3)) (mk (bY 4)) bt (mk (bY 6)) (.op .snoc (bY 7) (mk (.dH 3))) (bY 8) (.lit 0) 2) yp) sS))
theorem sm5 (H:TH d0 d1 s th 5 obj arg tries o c dn g r v) (hr:0<r.l.length):eA (dG d0 d1 s th 5 obj arg tries) zt4=Gl d0 s th 5 obj arg tries o c dn g r v:=by exact ame
abbrev zt5:T Lf:=sS
theorem sm6 (H:TH d0 d1 s th 6 obj arg tries o c dn g r v) (hk:place r th<0):eA (dG d0 d1 s th 6 obj arg tries) zt5=Gl d0 s th 6 obj arg tries o c dn g r v:=by
 have hb:=H.hb;simp only [zz,H.eR,H.qD,H.hR,H.hk,gV r th hb,gU r th hb,hk,bM,Td,mH,iB,iA,gF,gE,dL,act,Int.reduceEq,Gl]<;>(repeat' split)<;>first |rfl|(exfalso; omega)
abbrev zt6:T Lf:=(j9 (bY 2) (mk (bY 3)) (mk (bY 4)) bt (mk (bY 6)) (.op .take kF kD) (bY 8) (.lit 0) 2)
theorem sm7 (H:TH d0 d1 s th 6 obj arg tries o c dn g r v) (hr:0<r.l.length) (hk: ¬place r th<0):eA (dG d0 d1 s th 6 obj arg tries) zt6=Gl d0 s th 6 obj arg tries o c dn g r v:=by
 have hb:=H.hb;rcases kS r th with ⟨hp,_⟩|⟨k,Bb,hp,_⟩
 ·grind
 have hw:IntKind.i64.wrap ((k:Int)+1)=(k:Int)+1:=fg J J;have e1:((k:Int)+1+((r.l.length:Int)-((k:Int)+1))).toNat=r.l.length:=J
 have e2:((k:Int)+((r.l.length:Int)-((k:Int)+1))).toNat=r.l.length-1:=J
 have e3:((k:Int)+1).toNat=k+1:=J
 have h0: ¬((k:Int)<0):=J
 have V:=fun R=>(apq r.l k Bb R (r.l.drop (r.l.length-1))).resolve_right (by rw [bp]; omega);simp only [zz,H.eR,H.qD,H.hR,H.hk,gV r th hb,gU r th hb,hp,hw,e1,e2,e3,h0,bP,bz,aW,V,Hz,bM,Td,mH,iB,iA,gF,gE,dL,act,Int.reduceEq,Gl]<;>(repeat' split)<;>first |rfl|(exfalso; omega)
abbrev zt7:T Lf:=(sp (.eq (bY 3) (.dH 3)) sS (sp (.eq (rr 900 [bY 7,.dH 3] 0) (.lit 0)) (sp (.eq (ln (bY 7)) (.lit 0)) (sp (.lt (bY 3) (.lit 0)) (j9 (bY 2) (mk (.dH 3)) (mk (bY 4)) bt (mk (bY 6)) (bY 7) (bY 8) (.lit 0) 2) yp) yp) sS))
theorem sm8 (H:TH d0 d1 s th 7 obj arg tries o c dn g r v) (hr:0<r.l.length):eA (dG d0 d1 s th 7 obj arg tries) zt7=Gl d0 s th 7 obj arg tries o c dn g r v:=by exact Nn
abbrev zt8:T Lf:=(sp (.lt (.lit 0) (bY 4)) (j9 (bY 2) (mk (bY 3)) (mk (wr (.sub (bY 4) (.lit 1)))) bt (mk (bY 6)) (bY 7) (bY 8) (.lit 0) 2) yp)
theorem sm9 (H:TH d0 d1 s th 9 obj arg tries o c dn g r v):eA (dG d0 d1 s th 9 obj arg tries) zt8=Gl d0 s th 9 obj arg tries o c dn g r v:=by exact Nn
abbrev zt9:T Lf:=(sp (.lt (.lit 0) (bY 4)) (j9 (bY 2) (mk (bY 3)) (mk (wr (.sub (bY 4) (.lit 1)))) bt (mk (bY 6)) (bY 7) (bY 8) (.lit 1) 2) (j9 (bY 2) (mk (bY 3)) (mk (bY 4)) bt (mk (bY 6)) (bY 7) (bY 8) (.lit 0) 2))
theorem auX (H:TH d0 d1 s th 11 obj arg tries o c dn g r v):eA (dG d0 d1 s th 11 obj arg tries) zt9=Gl d0 s th 11 obj arg tries o c dn g r v:=by exact Nn
abbrev apU:T Lf:=(sp (.lt (bY 4) SN) (j9 (bY 2) (mk (bY 3)) (mk (wr (.add (bY 4) (.lit 1)))) bt (mk (bY 6)) (bY 7) (bY 8) (.lit 0) 2) sS)
theorem auW (H:TH d0 d1 s th 10 obj arg tries o c dn g r v):eA (dG d0 d1 s th 10 obj arg tries) apU=Gl d0 s th 10 obj arg tries o c dn g r v:=by exact Nn
abbrev apT:T Lf:=(sp (.lt (.dH 6) (wr (.sub (.lit 0) (bY 4)))) sS (sp (.lt (wr (.sub (.lit 1099511627776) (bY 4))) (.dH 6)) sS (j9 (bY 2) (mk (bY 3)) (mk (wr (.add (bY 4) (.dH 6)))) bt (mk (bY 6)) (bY 7) (bY 8) (wr (.add (bY 4) (.dH 6))) 2)))
theorem auV (H:TH d0 d1 s th 17 obj arg tries o c dn g r v):eA (dG d0 d1 s th 17 obj arg tries) apT=Gl d0 s th 17 obj arg tries o c dn g r v:=by exact Nn
abbrev apS:T Lf:=(sp (.lt (.lit 0) (bY 4)) (j9 (bY 2) (mk (bY 3)) (mk (wr (.sub (bY 4) (.lit 1)))) bt (mk (bY 6)) (bY 7) (bY 8) (wr (.sub (bY 4) (.lit 1))) 2) sS)
theorem auU (H:TH d0 d1 s th 18 obj arg tries o c dn g r v):eA (dG d0 d1 s th 18 obj arg tries) apS=Gl d0 s th 18 obj arg tries o c dn g r v:=by exact Nn
abbrev apR:T Lf:=(sp (.eq (bY 4) (.lit 0)) (j9 (bY 2) (mk (bY 3)) (mk (bY 4)) bt (mk (bY 6)) (bY 7) (bY 8) (.lit 0) 2) yp)
theorem auT (H:TH d0 d1 s th 19 obj arg tries o c dn g r v):eA (dG d0 d1 s th 19 obj arg tries) apR=Gl d0 s th 19 obj arg tries o c dn g r v:=by exact Nn
abbrev apQ:T Lf:=(j9 (bY 2) (mk (bY 3)) (mk (bY 4)) bt (mk (bY 6)) (bY 7) (bY 8) (bY 4) 2)
theorem auS (H:TH d0 d1 s th 22 obj arg tries o c dn g r v):eA (dG d0 d1 s th 22 obj arg tries) apQ=Gl d0 s th 22 obj arg tries o c dn g r v:=by exact Nn
abbrev apP:T Lf:=(j9 (bY 2) (mk (bY 3)) (mk (.dH 6)) bt (mk (bY 6)) (bY 7) (bY 8) (.dH 6) 2)
theorem auR (H:TH d0 d1 s th 23 obj arg tries o c dn g r v):eA (dG d0 d1 s th 23 obj arg tries) apP=Gl d0 s th 23 obj arg tries o c dn g r v:=by exact Nn
abbrev alX:T Lf:=(sp (.lt (ln (bY 8)) SN) (j9 (bY 2) (mk (bY 3)) (mk (bY 4)) bt (mk (bY 6)) (bY 7) (.op .snoc (bY 8) (mk (.dH 6))) (.dH 6) 2) yp)
theorem ar4 (H:TH d0 d1 s th 20 obj arg tries o c dn g r v) (hv:0<v.l.length):eA (dG d0 d1 s th 20 obj arg tries) alX=Gl d0 s th 20 obj arg tries o c dn g r v:=by exact ame
abbrev alW:T Lf:=(sp (.eq (ln (bY 8)) (.lit 0)) yp (j9 (bY 2) (mk (bY 3)) (mk (bY 4)) bt (mk (bY 6)) (bY 7) (.op .drop (.op .take (bY 8) (.add (.lit 1) (.sub (ln (bY 8)) (.lit 1)))) (.lit 1)) (nm (el (bY 8) (.lit 0))) 2))
theorem ar3 (H:TH d0 d1 s th 21 obj arg tries o c dn g r v) (hv:0<v.l.length):eA (dG d0 d1 s th 21 obj arg tries) alW=Gl d0 s th 21 obj arg tries o c dn g r v:=by
 have hb:=H.hb;simp only [zz,H.eR,H.qD,H.hR,H.hk,gV r th hb,gU r th hb,Ve v hv,bM,Td,mH,iB,iA,gF,gE,dL,act,Int.reduceEq,Gl]<;>(repeat' split)<;>first |rfl|(exfalso; omega)
abbrev alV:T Lf:=(sp (.eq (nm (ce 0 (el (bY 2) SN))) (.dH 3)) (j9 (X7 (.eS (.i (-1)))) (mk (bY 3)) (mk (bY 4)) bt (mk (bY 6)) (.op .snoc (bY 7) (mk (.dH 3))) (bY 8) (.lit 0) 3) sS)
theorem ar2 (H:TH d0 d1 s th 12 obj arg tries o c dn g r v) (hr:0<r.l.length) (hw:wo th r.l=r.l):eA (dG d0 d1 s th 12 obj arg tries) alV=Gl d0 s th 12 obj arg tries o c dn g r v:=by
 have hb:=H.hb;simp only [zz,H.eR,H.qD,H.hR,H.hk,gV r th hb,gU r th hb,hw,bz,pQ,aw,bM,Td,mH,iB,iA,gF,gE,dL,act,Int.reduceEq,Gl]<;>(repeat' split)<;>first |rfl|(exfalso; omega)
abbrev apO:T Lf:=(sp (.eq (nm (ce 0 (el (bY 2) SN))) (.dH 3)) (j9 (X7 (.eS (.i (-1)))) (mk (bY 3)) (mk (bY 4)) bt (mk (bY 6)) (.op .take (.op .cat (.op .cat (.op .take (rr 12000 tn 15) (rr 12000 tn 14)) (.op .snoc (.eS (.i 0)) (mk (.dH 3)))) (.op .drop (rr 12000 tn 15) (.add (rr 12000 tn 14) (.lit 1)))) (.add (rr 12000 tn 14) (.lit 1))) (bY 8) (.lit 0) 3) sS)
theorem auQ (H:TH d0 d1 s th 12 obj arg tries o c dn g r v) (hr:0<r.l.length) (hv:0<v.l.length) (hn:n<r.l.length) (Y:r1.l.length=r.l.length) (hw:r1.l.take n=wo th r.l) (V:L 12000 (dA d0 s r v th 12 obj arg tries o c dn g)=some (1::((dA d0 s r v th 12 obj arg tries o c dn g)++ [(n:Int),enc r1,(r.l.length:Int)]))):eA (dG d0 d1 s th 12 obj arg tries) apO=Gl d0 s th 12 obj arg tries o c dn g r v:=by
 have hb:=H.hb;have e3:((n:Int)+1).toNat=n+1:=J
 have hA: ∀B,(wo th r.l++ [D.i th]++B).take (n+1)=wo th r.l++ [.i th]:=fun B=>by
  grind
 have hB:wo th r.l++ [D.i th]≠[]:=ad
 simp only [zz,H.eR,H.qD,H.hR,H.hk,gV r th hb,gU r th hb,V,aK,e3,ZT,bP,bz,pQ,aw,aW,hw,hA,Hz,BM hB,bM,Td,mH,iB,iA,gF,gE,dL,act,Int.reduceEq,Gl]<;>(repeat' split)<;>first |rfl|(exfalso; omega)
abbrev alU:T Lf:=(sp (.eq (ln (bY 7)) (.lit 0)) (j9 (bY 2) (mk (bY 3)) (mk (bY 4)) bt (mk (bY 6)) (bY 7) (bY 8) (.lit 0) 2) (j9 (bY 2) (mk (bY 3)) (mk (bY 4)) bt (mk (bY 6)) (.op .drop (.op .take (bY 7) (.add (.lit 1) (.sub (ln (bY 7)) (.lit 1)))) (.lit 1)) (bY 8) (wr (.add (nm (el (bY 7) (.lit 0))) (.lit 1))) 2))
theorem ar1 (H:TH d0 d1 s th 13 obj arg tries o c dn g r v) (hr:0<r.l.length):eA (dG d0 d1 s th 13 obj arg tries) alU=Gl d0 s th 13 obj arg tries o c dn g r v:=by
 have hb:=H.hb;simp only [zz,H.eR,H.qD,H.hR,H.hk,gV r th hb,gU r th hb,Ve r hr,pQ,aw,bM,Td,mH,iB,iA,gF,gE,dL,act,Int.reduceEq,Gl]<;>(repeat' split)<;>first |rfl|(exfalso; omega)
abbrev alT:T Lf:=(j9 (bY 2) (mk (bY 3)) (mk (bY 4)) bt (mk (bY 6)) (.eS (.i 1)) (bY 8) (ln (bY 7)) 2)
theorem ar0 (H:TH d0 d1 s th 14 obj arg tries o c dn g r v) (hr:0<r.l.length):eA (dG d0 d1 s th 14 obj arg tries) alT=Gl d0 s th 14 obj arg tries o c dn g r v:=by exact ame
abbrev g!:T Lf:=(sp (.eq (rr 900 [bY 7,.dH 3] 0) (.lit 0)) (sp (.lt (nm (ce 0 (el (bY 2) SN))) (.lit 0)) (j9 (X7 (mk (.dH 3))) (mk (bY 3)) (mk (bY 4)) bt (mk (bY 6)) (bY 7) (bY 8) (.lit 0) 2) yp) yp)
theorem afv (H:TH d0 d1 s th 24 obj arg tries o c dn g r v):eA (dG d0 d1 s th 24 obj arg tries) g!=Gl d0 s th 24 obj arg tries o c dn g r v:=by
 have hb:=H.hb;simp only [zz,H.eR,H.qD,H.hR,H.hk,gV r th hb,gU r th hb,bz,pQ,aw,bM,Td,mH,iB,iA,gF,gE,dL,act,Int.reduceEq,Gl]<;>(repeat' split)<;>first |rfl|(exfalso; omega)
abbrev apN:T Lf:=(sp (.lt (bY 6) (.lit 4611686018427387904)) (sp (.eq (wr (.add (bY 4) (.lit 1))) SN) (j9 (bY 2) (mk (bY 3)) (.eS (.i 0)) bt (mk (wr (.add (bY 6) (.lit 1)))) (bY 7) (bY 8) (bY 6) 3) (j9 (bY 2) (mk (bY 3)) (mk (wr (.add (bY 4) (.lit 1)))) bt (mk (bY 6)) (bY 7) (bY 8) (bY 6) 3)) sS)
theorem auP (H:TH d0 d1 s th 15 obj arg tries o c dn g r v):eA (dG d0 d1 s th 15 obj arg tries) apN=Gl d0 s th 15 obj arg tries o c dn g r v:=by exact Nn
abbrev apM:T Lf:=(sp (.lt (.dH 6) (bY 6)) (j9 (bY 2) (mk (bY 3)) (mk (bY 4)) bt (mk (bY 6)) (bY 7) (bY 8) (.dH 6) 2) yp)
theorem auO (H:TH d0 d1 s th 25 obj arg tries o c dn g r v):eA (dG d0 d1 s th 25 obj arg tries) apM=Gl d0 s th 25 obj arg tries o c dn g r v:=by exact Nn
abbrev apL:T Lf:=(sp (.eq (bY 5) (.lit 0)) (sp (.eq (bY 3) (.dH 3)) sS (sp (.lt (bY 3) (.lit 0)) (j9 (bY 2) (mk (.dH 3)) (mk (bY 4)) bt (mk (bY 6)) (bY 7) (bY 8) (.lit 1) 2) yp)) (j9 (bY 2) (mk (bY 3)) (mk (bY 4)) bt (mk (bY 6)) (bY 7) (bY 8) (.lit 0) 2))
theorem auN (H:TH d0 d1 s th 16 obj arg tries o c dn g r v):eA (dG d0 d1 s th 16 obj arg tries) apL=Gl d0 s th 16 obj arg tries o c dn g r v:=by exact Nn
abbrev apK:T Lf:=(sp (.eq (bY 3) (.dH 3)) (j9 (bY 2) (.eS (.i (-1))) (mk (bY 4)) (.eS (.i 1)) (mk (bY 6)) (bY 7) (bY 8) (.lit 0) 2) sS)
theorem auM (H:TH d0 d1 s th 26 obj arg tries o c dn g r v):eA (dG d0 d1 s th 26 obj arg tries) apK=Gl d0 s th 26 obj arg tries o c dn g r v:=by exact Nn
abbrev alS:T Lf:=(sp (.lt (.lit 0) SN) (j9 (bY 2) (mk (bY 3)) (mk (bY 4)) bt (mk (bY 6)) (bY 7) (.op .snoc (.eS (.i 0)) (mk (.dH 6))) (.dH 6) 2) yp)
theorem arZ (H:TH d0 d1 s th 20 obj arg tries o c dn g r v) (hv:v.l= []):eA (dG d0 d1 s th 20 obj arg tries) alS=Gl d0 s th 20 obj arg tries o c dn g r v:=by
 have hb:=H.hb;have hz2:((0:Nat):Int)=0:=rfl;simp only [zz,H.eR,H.qD,H.hR,H.hk,gV r th hb,gU r th hb,hv,bd,aw,hz2,pQ,bM,Td,mH,iB,iA,gF,gE,dL,act,Int.reduceEq,Gl]<;>(repeat' split)<;>first |rfl|(exfalso; omega)
abbrev alR:T Lf:=yp
theorem arY (H:TH d0 d1 s th 21 obj arg tries o c dn g r v) (hv:v.l= []):eA (dG d0 d1 s th 21 obj arg tries) alR=Gl d0 s th 21 obj arg tries o c dn g r v:=by
 have hb:=H.hb;have hz2:((0:Nat):Int)=0:=rfl;simp only [zz,H.eR,H.qD,H.hR,H.hk,gV r th hb,gU r th hb,hv,bd,aw,hz2,bM,Td,mH,iB,iA,gF,gE,dL,act,Int.reduceEq,Gl]<;>(repeat' split)<;>first |rfl|(exfalso; omega)
abbrev apJ:T Lf:=(sp (.eq (nm (ce 0 (el (bY 2) SN))) (.dH 3)) (j9 (X7 (.eS (.i (-1)))) (mk (bY 3)) (mk (bY 4)) bt (mk (bY 6)) (.op .take (.op .cat (.op .cat (.op .take (rr 12100 tn 15) (rr 12100 tn 14)) (.op .snoc (.eS (.i 0)) (mk (.dH 3)))) (.op .drop (rr 12100 tn 15) (.add (rr 12100 tn 14) (.lit 1)))) (.add (rr 12100 tn 14) (.lit 1))) (bY 8) (.lit 0) 3) sS)
theorem auL (H:TH d0 d1 s th 12 obj arg tries o c dn g r v) (hr:0<r.l.length) (hv:v.l= []) (hn:n<r.l.length) (Y:r1.l.length=r.l.length) (hw:r1.l.take n=wo th r.l) (V:L 12100 (dA d0 s r v th 12 obj arg tries o c dn g)=some (1::((dA d0 s r v th 12 obj arg tries o c dn g)++ [(n:Int),enc r1,(r.l.length:Int)]))):eA (dG d0 d1 s th 12 obj arg tries) apJ=Gl d0 s th 12 obj arg tries o c dn g r v:=by
 have hb:=H.hb;have hz2:((0:Nat):Int)=0:=rfl;have e3:((n:Int)+1).toNat=n+1:=J
 have hA: ∀B,(wo th r.l++ [D.i th]++B).take (n+1)=wo th r.l++ [.i th]:=fun B=>by
  grind
 have hB:wo th r.l++ [D.i th]≠[]:=ad
 simp only [zz,H.eR,H.qD,H.hR,H.hk,gV r th hb,gU r th hb,hv,bd,aw,hz2,V,aK,e3,ZT,bP,bz,pQ,aW,hw,hA,Hz,BM hB,bM,Td,mH,iB,iA,gF,gE,dL,act,Int.reduceEq,Gl]<;>(repeat' split)<;>first |rfl|(exfalso; omega)
abbrev alQ:T Lf:=(sp (.eq (bY 3) (.dH 3)) sS (sp (.eq (rr 900 [bY 7,.dH 3] 0) (.lit 0)) (sp (.lt (bY 3) (.lit 0)) (j9 (bY 2) (mk (bY 3)) (mk (bY 4)) bt (mk (bY 6)) (.op .snoc (.eS (.i 0)) (mk (.dH 3))) (bY 8) (.lit 0) 2) yp) sS))
theorem arX (H:TH d0 d1 s th 5 obj arg tries o c dn g r v) (hr:r.l= []):eA (dG d0 d1 s th 5 obj arg tries) alQ=Gl d0 s th 5 obj arg tries o c dn g r v:=by exact amg
theorem arW (H:TH d0 d1 s th 7 obj arg tries o c dn g r v) (hr:r.l= []):eA (dG d0 d1 s th 7 obj arg tries) zt0=Gl d0 s th 7 obj arg tries o c dn g r v:=by
 have hb:=H.hb;have hz:((0:Nat):Int)=0:=rfl;simp only [zz,H.eR,H.qD,H.hR,H.hk,gV r th hb,gU r th hb,hr,bd,aw,hz,bM,Td,mH,iB,iA,gF,gE,dL,act,Int.reduceEq,Gl]<;>(repeat' split)<;>first |rfl|(exfalso; omega)
abbrev alP:T Lf:=(sp (.eq (nm (ce 0 (el (bY 2) SN))) (.dH 3)) (j9 (X7 (.eS (.i (-1)))) (mk (bY 3)) (mk (bY 4)) bt (mk (bY 6)) (.op .snoc (.eS (.i 0)) (mk (.dH 3))) (bY 8) (.lit 0) 3) sS)
theorem arV (H:TH d0 d1 s th 12 obj arg tries o c dn g r v) (hr:r.l= []):eA (dG d0 d1 s th 12 obj arg tries) alP=Gl d0 s th 12 obj arg tries o c dn g r v:=by
 have hb:=H.hb;have hz:((0:Nat):Int)=0:=rfl;simp only [zz,H.eR,H.qD,H.hR,H.hk,gV r th hb,gU r th hb,hr,bd,aw,hz,jh hr,bz,pQ,bM,Td,mH,iB,iA,gF,gE,dL,act,Int.reduceEq,Gl]<;>(repeat' split)<;>first |rfl|(exfalso; omega)
abbrev alO:T Lf:=(j9 (bY 2) (mk (bY 3)) (mk (bY 4)) bt (mk (bY 6)) (bY 7) (bY 8) (.lit 0) 2)
theorem arU (H:TH d0 d1 s th 13 obj arg tries o c dn g r v) (hr:r.l= []):eA (dG d0 d1 s th 13 obj arg tries) alO=Gl d0 s th 13 obj arg tries o c dn g r v:=by exact amg
abbrev alN:T Lf:=(j9 (bY 2) (mk (bY 3)) (mk (bY 4)) bt (mk (bY 6)) (.eS (.i 1)) (bY 8) (.lit 0) 2)
theorem arT (H:TH d0 d1 s th 14 obj arg tries o c dn g r v) (hr:r.l= []):eA (dG d0 d1 s th 14 obj arg tries) alN=Gl d0 s th 14 obj arg tries o c dn g r v:=by exact amg
end
end
end Go.As.Try
end

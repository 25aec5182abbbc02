import Derived.Test.YteclpbehflfjiaaGreatDoorCards
import Derived.Test.YteclpbehflfjiaaGreatDoorTie
import Derived.ProofKit
import Derived.Deep.DeepHandedRow
import Derived.LaidLaws
import Derived.Test.YteclpbehflfjiaaGreatDoorAsZM2
set_option linter.unusedSectionVars false
set_option linter.unusedVariables false
set_option linter.unusedSimpArgs false
section
namespace Go.As.Try
open Go hiding Stat Spec shape
open Go.As Go.Proofs
set_option maxRecDepth 100000
noncomputable section
abbrev iU (c:SB) (a:T Lf):=sp c a fl
abbrev rD (c:SB) (a:T Lf):=sp c fl a
abbrev kG:=SB.eq
abbrev gp:=SB.lt
abbrev stx:=Y.op .set
abbrev nrx:=Y.op .norm
abbrev Gr:=Y.op .snoc
abbrev rpx:=Y.op .rep
abbrev qpx (n:Int):=D.p (.i n)
abbrev Pf (n:Nat) (x:Y):=nm (ce n x)
abbrev wy (j:Nat) (l:List Y):=SB.eq (a0 j l) (.lit 1)
abbrev nZ (j:Nat) (l:List Y) (a:T Lf):=sp (.eq (a0 j l) (.lit 1)) a fl
abbrev nJ (a:Y):=SB.eq a (.lit 0)
abbrev oe (a:Y):=SB.lt a (.lit 0)
def bsx:List Nat->D
 |[]=> .i 0
 |n::l=> .p (.i n) (bsx l)
theorem cL {n:Nat} {t:T Lf} (h:S.tree n=t:=by kernel_rfl):S.tree n=t:=h
def b0:D:=bsx [0,0,0,0,0,0,0,0,0,1,1,0,0,1,0,0,0,0,0,0,0,0,0,0,0,0,0,0,0,0,0,0,1,0,0,2,0,0,0,0,5,5,5,5,0,5,0,0,3,3,3,3,3,3,3,3,3,3,0,5,5,5,0,0,0,4,4,4,4,4,4,4,4,4,4,4,4,4,4,4,4,4,4,4,4,4,4,4,4,4,4,0,0,0,0,4,0,4,4,4,4,4,4,4,4,4,4,4,4,4,4,4,4,4,4,4,4,4,4,4,4,4,4,5,0,5,0,0,0,0,0,0,0,0,0,0,0,0,0,0,0,0,0,0,0,0,0,0,0,0,0,0,0,0,0,0,0,0,0,0,0,0,0,0,0,0,0,0,0,0,0,0,0,0,0,0,0,0,0,0,0,0,0,0,0,0,0,0,0,0,0,0,0,0,0,0,0,0,0,0,0,0,0,0,0,0,0,0,0,0,0,0,0,0,0,0,0,0,0,0,0,0,0,0,0,0,0,0,0,0,0,0,0,0,0,0,0,0,0,0,0,0,0,0,0,0,0,0,0,0,0,0,0,0,0,0]
def b1:D:=bsx [32,97,99,113,117,105,114,101,32,97,100,100,32,97,114,114,105,118,101,32,98,97,114,114,105,101,114,32,98,114,111,97,100,99,97,115,116,32,99,111,110,100,32,100,111,32,100,111,110,101,32,101,108,115,101,32,105,102,32,108,111,99,107,32,108,111,99,107,102,111,114,32,108,111,111,112,32,109,117,116,101,120,32,111,110,99,101,32,112,117,116,32,113,117,101,117,101,32,114,101,97,100,32,114,101,108,101,97,115,101,32,114,108,111,99,107,32,114,117,110,108,111,99,107,32,114,119,108,111,99,107,32,115,101,109,32,115,101,116,32,115,105,103,110,97,108,32,116,97,107,101,32,116,104,114,101,97,100,32,116,114,121,97,99,113,117,105,114,101,32,116,114,121,108,111,99,107,32,117,110,108,111,99,107,32,118,97,114,32,119,97,105,116,32,119,97,105,116,102,111,114,32,119,97,105,116,111,110,32,119,108,111,99,107,32,119,114,105,116,101,32,119,117,110,108,111,99,107,32]
def b2:D:=bsx [97,98,99,100,101,102,103,104,105,106,107,108,109,110,111,112,113,114,115,116,117,118,119,120,121,122,65,66,67,68,69,70,71,72,73,74,75,76,77,78,79,80,81,82,83,84,85,86,87,88,89,90,95]
def b3:D:=bsx [97,98,99,100,101,102,103,104,105,106,107,108,109,110,111,112,113,114,115,116,117,118,119,120,121,122,65,66,67,68,69,70,71,72,73,74,75,76,77,78,79,80,81,82,83,84,85,86,87,88,89,90,95,48,49,50,51,52,53,54,55,56,57]
def b4:D:=bsx [57,50,50,51,51,55,50,48,51,54,56,53,52,55,55,53,56,48,55]
abbrev W:Y:=.lit 0
abbrev Qb:Y:=.dN 1
abbrev Qc:=ln Qb
abbrev nq a0:=gp W a0
abbrev Qd:=nq Qc
abbrev AD a0 a1:=gp a0 (.lit a1)
abbrev Qe:=AD Qc 1759218604441
abbrev Qf:Y:=.dN 0
abbrev tG a0:=nrx a0 W
abbrev Qg:=tG Qb
abbrev rV a0:=Y.eW (.i a0)
abbrev Qh:=rV 1
abbrev Qi:=kG Qg Qh
abbrev Qj:=[Qf]
abbrev Qk:=rV 2
abbrev lL a0:=kG a0 Qk
abbrev Ql:=lL Qg
abbrev cq a0 a1 a2 a3 a4:=sp a0 a1 (sp a2 a3 a4)
abbrev im a0 a1 a2 a3 a4 a5:=cq a0 a1 a2 (ju a3 a4) a5
abbrev dI a0 a1 a2:=iU a0 (ju a1 a2)
def OC:=im Qd (dI Qe 9001 [Qf,Qb,Qc,W]) Qi 9002 Qj (dI Ql 9003 Qj)
abbrev Qm:Y:=.dN 3
abbrev Qn:=kG Qm Qf
abbrev Qo:Y:=.dN 2
abbrev Qp:=gp Qm Qo
abbrev Qq:=oe Qm
abbrev Qr:=gp Qm Qc
abbrev Qs:=el Qb Qm
abbrev Qt:=ce 4 Qs
abbrev fX a0 a1:=gp a0 (ln a1)
abbrev lK a0:=fX W a0
abbrev Qu:=lK Qt
abbrev Qv:Y:=.lit 17592186044416
abbrev nG a0 a1:=gp (ln a0) a1
abbrev mG a0:=nG a0 Qv
abbrev Qw:=mG Qt
abbrev Qx:=ce 5 Qs
abbrev Qy:=lK Qx
abbrev Qz:=mG Qx
abbrev Q0:Y:=.lit 1
abbrev nI a0 a1:=wr (.add a0 a1)
abbrev kO a0:=nI a0 Q0
abbrev Q1:=kO Qm
abbrev Q2:=el Qb Qf
abbrev eV a0:=Pf 0 a0
abbrev Q3:=eV Q2
abbrev ku a0:=Pf 1 a0
abbrev Q4:=ku Q2
abbrev gT a0:=Pf 2 a0
abbrev Q5:=gT Q2
abbrev iE a0:=Pf 3 a0
abbrev Q6:=iE Q2
abbrev Q7:=kG Qx Qh
abbrev Q8:=lL Qx
abbrev Q9:=kG Qt Qh
abbrev Qba:=lL Qt
abbrev JR (l:List Y):=W::Qf::Qb::l
abbrev xG a0:=ou (JR a0)
abbrev Qbb:=xG []
abbrev ER:=mk Qm
abbrev Qbd:=rV 4
abbrev I6 a0 a1 a2:=stx a0 (cn a1 a2)
abbrev we a0 a1 a2 a3 a4:=I6 a0 a1 (I6 a2 a3 a4)
abbrev Qbe:=we Qb ER Qs Qbd Qt
abbrev RZ:=rV 5
abbrev ji a0 a1 a2 a3 a4 a5:=we a0 a1 (el a2 a3) a4 a5
abbrev Qbg:=ji Qbe ER Qbe Qm RZ Qx
abbrev d!:=cn RZ Qh
abbrev oX a0 a1 a2 a3:=I6 a0 a1 (stx a2 a3)
abbrev j3 a0 a1 a2 a3 a4:=oX a0 a1 (el a2 a3) a4
abbrev Qbi:=j3 Qbe ER Qbe Qm d!
abbrev d_:=cn RZ Qk
abbrev Qbk:=j3 Qbe ER Qbe Qm d_
abbrev Qbl:=cn Qbd Qh
abbrev Qbm:=oX Qb ER Qs Qbl
abbrev Qbn:=ji Qbm ER Qbm Qm RZ Qx
abbrev Qbo:=j3 Qbm ER Qbm Qm d!
abbrev Qbp:=j3 Qbm ER Qbm Qm d_
abbrev Qbq:=cn Qbd Qk
abbrev Qbr:=oX Qb ER Qs Qbq
abbrev Qbs:=ji Qbr ER Qbr Qm RZ Qx
abbrev Qbt:=j3 Qbr ER Qbr Qm d!
abbrev Qbu:=j3 Qbr ER Qbr Qm d_
abbrev jM a0 a1 a2:=rD a0 (iU a1 a2)
abbrev TN a0 a1:=jM Qq a0 a1
abbrev qF a0:=TN Qr a0
abbrev dM a0 a1 a2 a3 a4 a5 a6:=cq a0 (sp a1 a2 a3) a4 a5 a6
abbrev jy a0 a1 a2 a3 a4 a5 a6:=iU a0 (im a1 a2 a3 a4 a5 a6)
abbrev oT a0 a1:=dI Qz a0 a1
abbrev oS a0 a1:=dI Q8 a0 a1
abbrev LU (l:List Y):=Qf::Qb::Qo::Q1::Q3::Q4::Q5::Q6::l
def vX:=dM Qn Qp (qF (cq Qu (jy Qw Qy (oT 9004 (LU [Qt,Qx])) Q7 9005 (LU [Qt,Qh]) (oS 9005 (LU [Qt,Qk]))) Q9 (im Qy (oT 9006 (LU [Qh,Qx])) Q7 9007 (LU [Qh,Qh]) (oS 9007 (LU [Qh,Qk]))) (jy Qba Qy (oT 9006 (LU [Qk,Qx])) Q7 9007 (LU [Qk,Qh]) (oS 9007 (LU [Qk,Qk]))))) Qbb Qp (qF (cq Qu (jy Qw Qy (oT 9001 [Qf,Qbg,Qo,Q1]) Q7 9001 [Qf,Qbi,Qo,Q1] (oS 9001 [Qf,Qbk,Qo,Q1])) Q9 (im Qy (oT 9001 [Qf,Qbn,Qo,Q1]) Q7 9001 [Qf,Qbo,Qo,Q1] (oS 9001 [Qf,Qbp,Qo,Q1])) (jy Qba Qy (oT 9001 [Qf,Qbs,Qo,Q1]) Q7 9001 [Qf,Qbt,Qo,Q1] (oS 9001 [Qf,Qbu,Qo,Q1])))) Qbb
abbrev Qbv:=kG W Qf
abbrev gV a0 a1 a2:=sp a0 a1 (ou a2)
abbrev rS a0 a1 a2:=gV a0 (ou a1) a2
def aiL:=rS Qbv [Q0,Qf] [Q0,Qf]
abbrev eg:Y:=.lit 2
def aiK:=rS Qbv [eg,Qf] [eg,Qf]
abbrev Qbx:=qF fl
abbrev gW:Y:=.lit 3
abbrev bO:Y:=.dN 4
abbrev bP:Y:=.dN 5
abbrev ei:Y:=.dN 6
abbrev fg:Y:=.dN 7
abbrev fu:Y:=.dN 8
abbrev fv:Y:=.dN 9
abbrev Qb5:=ou [gW,Qf,Qb,bO,bP,ei,fg,fu,fv]
abbrev Qb6:=[Qf,Qbg,Qo,Q1,bO,bP,ei,fg,fu,fv]
abbrev Qb7:=[Qf,Qbi,Qo,Q1,bO,bP,ei,fg,fu,fv]
abbrev Qb8:=[Qf,Qbk,Qo,Q1,bO,bP,ei,fg,fu,fv]
abbrev Qb9:=[Qf,Qbn,Qo,Q1,bO,bP,ei,fg,fu,fv]
abbrev Qca:=[Qf,Qbo,Qo,Q1,bO,bP,ei,fg,fu,fv]
abbrev Qcb:=[Qf,Qbp,Qo,Q1,bO,bP,ei,fg,fu,fv]
abbrev Qcc:=[Qf,Qbs,Qo,Q1,bO,bP,ei,fg,fu,fv]
abbrev Qcd:=[Qf,Qbt,Qo,Q1,bO,bP,ei,fg,fu,fv]
abbrev Qce:=[Qf,Qbu,Qo,Q1,bO,bP,ei,fg,fu,fv]
def C?:=dM Qn Qp Qbx Qb5 Qp (qF (cq Qu (jy Qw Qy (oT 9004 Qb6) Q7 9004 Qb7 (oS 9004 Qb8)) Q9 (im Qy (oT 9004 Qb9) Q7 9004 Qca (oS 9004 Qcb)) (jy Qba Qy (oT 9004 Qcc) Q7 9004 Qcd (oS 9004 Qce)))) Qb5
abbrev iQ:Y:=.lit 4
abbrev Qcg:=ou [iQ,Qf,Qb,bO,bP,ei,fg,fu,fv]
def C!:=dM Qn Qp Qbx Qcg Qp (qF (cq Qu (jy Qw Qy (oT 9005 Qb6) Q7 9005 Qb7 (oS 9005 Qb8)) Q9 (im Qy (oT 9005 Qb9) Q7 9005 Qca (oS 9005 Qcb)) (jy Qba Qy (oT 9005 Qcc) Q7 9005 Qcd (oS 9005 Qce)))) Qcg
abbrev wM:Y:=.lit 5
abbrev Qci:=ou [wM,Qf,Qb,bO,bP,ei,fg,fu,fv]
def C_:=dM Qn Qp Qbx Qci Qp (qF (cq Qu (jy Qw Qy (oT 9006 Qb6) Q7 9006 Qb7 (oS 9006 Qb8)) Q9 (im Qy (oT 9006 Qb9) Q7 9006 Qca (oS 9006 Qcb)) (jy Qba Qy (oT 9006 Qcc) Q7 9006 Qcd (oS 9006 Qce)))) Qci
abbrev IF:Y:=.lit 6
abbrev Qck:=ou [IF,Qf,Qb,bO,bP,ei,fg,fu,fv]
def B?:=dM Qn Qp Qbx Qck Qp (qF (cq Qu (jy Qw Qy (oT 9007 Qb6) Q7 9007 Qb7 (oS 9007 Qb8)) Q9 (im Qy (oT 9007 Qb9) Q7 9007 Qca (oS 9007 Qcb)) (jy Qba Qy (oT 9007 Qcc) Q7 9007 Qcd (oS 9007 Qce)))) Qck
abbrev Qcl:=ln Qo
abbrev Qcm:=nq Qcl
abbrev Qcn:=AD Qcl 2199023255552
abbrev Qco:=kG (tG Qo) Qh
abbrev Qcp:=[Qf,Qc,W,Qb]
abbrev Qcq:=lL (tG Qo)
def ud:=cq Qd (jy Qe Qcm (dI Qcn 9051 [Qf,Qc,W,Qb,Qo]) Qco 9052 Qcp (dI Qcq 9053 Qcp)) Qi (im Qcm (dI Qcn 9054 [Qf,Qo]) Qco 9055 Qj (dI Qcq 9056 Qj)) (jy Ql Qcm (dI Qcn 9057 [Qf,Qo]) Qco 9058 Qj (dI Qcq 9059 Qj))
abbrev rR a0:=gp a0 Qb
abbrev uQ:=rR Qo
abbrev Zz:=oe Qo
abbrev DK:=ln Qm
abbrev Qcu:=gp Qo DK
abbrev c!:=el Qm Qo
abbrev Qcw:=ce 4 c!
abbrev Qcx:=lK Qcw
abbrev Qcy:=mG Qcw
abbrev Qcz:=ce 5 c!
abbrev Qc0:=lK Qcz
abbrev Qc1:=mG Qcz
abbrev FW:=kO Qo
abbrev AP:=mk Qo
abbrev Qc4:=we Qm AP c! Qbd Qcw
abbrev Qc5:=ji Qc4 AP Qc4 Qo RZ Qcz
abbrev Qc6:=kG Qcz Qh
abbrev Qc7:=j3 Qc4 AP Qc4 Qo d!
abbrev Qc8:=lL Qcz
abbrev Qc9:=j3 Qc4 AP Qc4 Qo d_
abbrev Qda:=oX Qm AP c! Qbl
abbrev Qdb:=ji Qda AP Qda Qo RZ Qcz
abbrev Qdc:=j3 Qda AP Qda Qo d!
abbrev Qdd:=j3 Qda AP Qda Qo d_
abbrev Qde:=oX Qm AP c! Qbq
abbrev Qdf:=ji Qde AP Qde Qo RZ Qcz
abbrev Qdg:=j3 Qde AP Qde Qo d!
abbrev Qdh:=j3 Qde AP Qde Qo d_
abbrev U1:=ln bO
abbrev oW a0 a1:=jM Zz a0 a1
abbrev qE a0:=oW Qcu a0
abbrev qA a0 a1 a2 a3:=sp a0 a1 (ju a2 a3)
abbrev lX a0 a1 a2 a3 a4 a5:=cq a0 a1 (kG a2 a3) a4 a5
abbrev ng a0 a1 a2 a3 a4:=lX a0 a1 a2 Qh a3 a4
abbrev pf (l:List Y):=Qf::Qb::FW::l
abbrev jz a0 a1 a2:=dI a0 a1 (pf a2)
def B!:=qA uQ (qE (ng Qcx (jy Qcy Qc0 (jz Qc1 9051 [Qc5,bO]) Qc6 9051 (pf [Qc7,bO]) (jz Qc8 9051 [Qc9,bO])) Qcw (im Qc0 (jz Qc1 9051 [Qdb,bO]) Qc6 9051 (pf [Qdc,bO]) (jz Qc8 9051 [Qdd,bO])) (jy (lL Qcw) Qc0 (jz Qc1 9051 [Qdf,bO]) Qc6 9051 (pf [Qdg,bO]) (jz Qc8 9051 [Qdh,bO])))) 9060 [Qf,U1,W,Qm,bO]
def B':=qA uQ (qE (ng Qcx (jy Qcy Qc0 (jz Qc1 9052 [Qc5]) Qc6 9052 (pf [Qc7]) (jz Qc8 9052 [Qc9])) Qcw (im Qc0 (jz Qc1 9052 [Qdb]) Qc6 9052 (pf [Qdc]) (jz Qc8 9052 [Qdd])) (jy (lL Qcw) Qc0 (jz Qc1 9052 [Qdf]) Qc6 9052 (pf [Qdg]) (jz Qc8 9052 [Qdh])))) 9061 [Qf,Qm]
def B_:=qA uQ (qE (ng Qcx (jy Qcy Qc0 (jz Qc1 9053 [Qc5]) Qc6 9053 (pf [Qc7]) (jz Qc8 9053 [Qc9])) Qcw (im Qc0 (jz Qc1 9053 [Qdb]) Qc6 9053 (pf [Qdc]) (jz Qc8 9053 [Qdd])) (jy (lL Qcw) Qc0 (jz Qc1 9053 [Qdf]) Qc6 9053 (pf [Qdg]) (jz Qc8 9053 [Qdh])))) 9062 [Qf,Qm]
def aiJ:=ju 9063 Qcp
def aqn:=ju 9064 Qj
def aqm:=ju 9065 Qj
def aiI:=ju 9066 Qcp
def aql:=ju 9067 Qj
def aqk:=ju 9068 Qj
abbrev Qdj:=kG Qo Qf
abbrev c_:=gp Qo U1
abbrev Qdl:=el bO Qo
abbrev ga a0:=ce 1 a0
abbrev Qdm:=ga Qdl
abbrev Qdn:=lK Qdm
abbrev Qdo:=mG Qdm
abbrev Qdp:=el bO Qf
abbrev Qdq:=eV Qdp
abbrev Qdr:=gT Qdp
abbrev Qds:=iE Qdp
abbrev kr a0:=Pf 4 a0
abbrev Qdt:=kr Qdp
abbrev Qdu:=Pf 5 Qdp
abbrev Qdv:=kG Qdm Qh
abbrev Qdw:=lL Qdm
abbrev Qdx:=we bO AP Qdl Qh Qdm
abbrev Qdy:=cn Qh Qh
abbrev Qdz:=oX bO AP Qdl Qdy
abbrev Qd0:=cn Qh Qk
abbrev Qd1:=oX bO AP Qdl Qd0
def Gg:=dM Qdj uQ (oW c_ (im Qdn (jz Qdo 9069 [Qm,bO,Qdq,Qdm,Qdr,Qds,Qdt,Qdu]) Qdv 9070 (pf [Qm,bO,Qdq,Qh,Qdr,Qds,Qdt,Qdu]) (jz Qdw 9070 [Qm,bO,Qdq,Qk,Qdr,Qds,Qdt,Qdu]))) (ou [W,Qf,Qm,bO]) uQ (oW c_ (im Qdn (jz Qdo 9060 [Qm,Qdx]) Qdv 9060 (pf [Qm,Qdz]) (jz Qdw 9060 [Qm,Qd1]))) (ou [W,Qf,Qm,bO])
abbrev Qd2:=ou [Q0,Qf,Qb]
def aiH:=sp Qbv Qd2 Qd2
def aiG:=rS Qbv [eg,Qf,Qb] [eg,Qf,Qb]
abbrev Qd3:=ga c!
abbrev Qd4:=lK Qd3
abbrev Qd5:=mG Qd3
abbrev Qd6:=el Qm Qf
abbrev Qd7:=eV Qd6
abbrev Qd8:=gT Qd6
abbrev Qd9:=iE Qd6
abbrev Qea:=kr Qd6
abbrev Qeb:=Pf 5 Qd6
abbrev Qec:List Y:=pf [Qm,Qd7,Qd3,Qd8,Qd9,Qea,Qeb]
abbrev Qed:=kG Qd3 Qh
abbrev Qee:List Y:=pf [Qm,Qd7,Qh,Qd8,Qd9,Qea,Qeb]
abbrev Qef:=lL Qd3
abbrev Qeg:List Y:=pf [Qm,Qd7,Qk,Qd8,Qd9,Qea,Qeb]
abbrev Qeh:=we Qm AP c! Qh Qd3
abbrev Qei:=oX Qm AP c! Qdy
abbrev Qej:=oX Qm AP c! Qd0
def Gf:=dM Qdj uQ (qE (im Qd4 (dI Qd5 9071 Qec) Qed 9072 Qee (dI Qef 9072 Qeg))) (ou [W,Qf,Qh,Qm]) uQ (qE (im Qd4 (jz Qd5 9063 [Qeh]) Qed 9063 (pf [Qei]) (jz Qef 9063 [Qej]))) (ou [W,Qf,Qh,Qm])
def aiF:=rS Qbv [Q0,Qf,Qh] [Q0,Qf,Qh]
def aiE:=rS Qbv [eg,Qf,Qh] [eg,Qf,Qh]
def Ge:=dM Qdj uQ (qE (im Qd4 (dI Qd5 9073 Qec) Qed 9074 Qee (dI Qef 9074 Qeg))) (ou [W,Qf,Qk,Qm]) uQ (qE (im Qd4 (jz Qd5 9066 [Qeh]) Qed 9066 (pf [Qei]) (jz Qef 9066 [Qej]))) (ou [W,Qf,Qk,Qm])
def aiD:=rS Qbv [Q0,Qf,Qk] [Q0,Qf,Qk]
def aiC:=rS Qbv [eg,Qf,Qk] [eg,Qf,Qk]
abbrev Qek:=oW c_ fl
abbrev fV:Y:=.dN 10
abbrev Qem:=ou [gW,Qf,Qm,bO,bP,ei,fg,fu,fv,fV]
abbrev Qen:List Y:=pf [Qm,Qdx,bP,ei,fg,fu,fv,fV]
abbrev Qeo:List Y:=pf [Qm,Qdz,bP,ei,fg,fu,fv,fV]
abbrev Qep:List Y:=pf [Qm,Qd1,bP,ei,fg,fu,fv,fV]
def A?:=dM Qdj uQ Qek Qem uQ (oW c_ (im Qdn (dI Qdo 9069 Qen) Qdv 9069 Qeo (dI Qdw 9069 Qep))) Qem
abbrev Qeq:=ou [iQ,Qf,Qm,bO,bP,ei,fg,fu,fv,fV]
def A!:=dM Qdj uQ Qek Qeq uQ (oW c_ (im Qdn (dI Qdo 9070 Qen) Qdv 9070 Qeo (dI Qdw 9070 Qep))) Qeq
abbrev Qer:=qE fl
abbrev Qes:=ou [gW,Qf,Qh,Qm,bO,bP,ei,fg,fu,fv]
abbrev Qet:List Y:=pf [Qeh,bO,bP,ei,fg,fu,fv]
abbrev Qeu:List Y:=pf [Qei,bO,bP,ei,fg,fu,fv]
abbrev Qev:List Y:=pf [Qej,bO,bP,ei,fg,fu,fv]
def A_:=dM Qdj uQ Qer Qes uQ (qE (im Qd4 (dI Qd5 9071 Qet) Qed 9071 Qeu (dI Qef 9071 Qev))) Qes
abbrev Qew:=ou [iQ,Qf,Qh,Qm,bO,bP,ei,fg,fu,fv]
def z?:=dM Qdj uQ Qer Qew uQ (qE (im Qd4 (dI Qd5 9072 Qet) Qed 9072 Qeu (dI Qef 9072 Qev))) Qew
abbrev Qex:=ou [gW,Qf,Qk,Qm,bO,bP,ei,fg,fu,fv]
def z!:=dM Qdj uQ Qer Qex uQ (qE (im Qd4 (dI Qd5 9073 Qet) Qed 9073 Qeu (dI Qef 9073 Qev))) Qex
abbrev Qey:=ou [iQ,Qf,Qk,Qm,bO,bP,ei,fg,fu,fv]
def z_:=dM Qdj uQ Qer Qey uQ (qE (im Qd4 (dI Qd5 9074 Qet) Qed 9074 Qeu (dI Qef 9074 Qev))) Qey
abbrev yf:=[Qf,Qb]
def y?:=ju 9101 yf
abbrev tE a0:=el a0 W
abbrev Qe0:=tE Qb
abbrev Qe1:=ce 4 Qe0
abbrev Qe2:=ce 5 Qe0
abbrev pA a0:=nJ (ln a0)
abbrev Qe3:=pA Qe2
abbrev ow:=D.i 0
abbrev gI:Y:=.eW ow
abbrev tA a0 a1 a2:=cn a0 (cn a1 a2)
abbrev vv a0 a1 a2 a3 a4:=tA a0 a1 (tA a2 a3 a4)
abbrev iS a0 a1 a2 a3:=vv a0 a1 a2 a3 gI
abbrev Qe5:=iS gI gI Qh Qh
abbrev qb a0 a1 a2 a3:=Gr a0 (tA a1 a2 a3)
abbrev nj a0 a1 a2:=qb gI a0 a1 a2
abbrev Qe6:=nj gI gI Qe5
abbrev Qe7:=eV Qe0
abbrev Qe8:=ku Qe0
abbrev Qe9:=gT Qe0
abbrev Qfa:=iE Qe0
abbrev Qfb:=mG Qe2
abbrev Qfc:=mk Qe7
abbrev Qfd:Y:=.op .bit (mk Qe9) W
abbrev U0:=cn Qk gI
abbrev Qff:=cn Qk U0
abbrev oB a0 a1 a2 a3:=iS a0 (mk a1) a2 a3
abbrev dQ a0 a1 a2 a3:=iU a0 (sp a1 a2 a3)
abbrev gU a0 a1 a2 a3 a4:=sp a0 (sp a1 a2 a3) a4
abbrev VH (l:List Y):=Qf::Qb::Qe6::Q0::Qe7::Qe8::Qe9::Qfa::l
def Vn:=dM Qbv Qd (gU (pA Qe1) Qe3 (ju 9102 (VH [])) (dI Qfb 9103 (VH [Qe2])) (dQ (mG Qe1) Qe3 (ju 9104 (VH [Qe1])) (dI Qfb 9105 (VH [Qe1,Qe2])))) (ou [W,Qf]) Qd (gU (pA Qe1) Qe3 (ju 9106 [Qf,Qb,Gr gI (vv Qfc (mk Qe8) Qfd (mk Qfa) Qff),Q0]) (dI Qfb 9106 [Qf,Qb,nj Qfc (mk Qe8) (oB Qfd Qfa Qk Qe2),Q0]) (dQ (mG Qe1) Qe3 (ju 9106 [Qf,Qb,Gr gI (cn Qfc (vv (mk Qe8) Qfd (mk Qfa) Qe1 U0)),Q0]) (dI Qfb 9106 [Qf,Qb,nj Qfc (mk Qe8) (oB Qfd Qfa Qe1 Qe2),Q0]))) (ou [W,Qf])
abbrev Qfg:=pA Qt
abbrev b?:=pA Qx
abbrev Qfi:Y:=.lit 1759218604440
abbrev FV:=gp Qcl Qfi
abbrev Qfk:=gp Qf Qcl
abbrev Qfl:=eV Qs
abbrev Qfm:=ku Qs
abbrev Qfn:=gT Qs
abbrev Qfo:Y:=.op .bit (mk Qfn) W
abbrev Qfp:=iE Qs
abbrev Qfq:=Gr Qo (vv (mk Qfl) (mk Qfm) Qfo (mk Qfp) Qff)
abbrev Qfr:=qb Qo (mk Qfl) (mk Qfm) (oB Qfo Qfp Qk Qx)
abbrev Qfs:=Gr Qo (cn (mk Qfl) (vv (mk Qfm) Qfo (mk Qfp) Qt U0))
abbrev Qft:=qb Qo (mk Qfl) (mk Qfm) (oB Qfo Qfp Qt Qx)
abbrev ml a0 a1:=dI Qfk a0 a1
abbrev iR a0 a1 a2:=iU a0 (iU a1 a2)
abbrev aaq (l:List Y):=Qf::Qb::Qfq::Q1::bO::bP::ei::fg::l
abbrev aap (l:List Y):=Qf::Qb::Qfr::Q1::bO::bP::ei::fg::l
abbrev aao (l:List Y):=Qf::Qb::Qfs::Q1::bO::bP::ei::fg::l
abbrev aan (l:List Y):=Qf::Qb::Qft::Q1::bO::bP::ei::fg::l
abbrev Qfu:=gV Qr (rD Qq (gU Qfg b? (iU FV (ml 9102 (aaq []))) (iR Qz FV (ml 9102 (aap []))) (dQ Qw b? (iU FV (ml 9102 (aao []))) (iR Qz FV (ml 9102 (aan [])))))) [Q0,Qf,Qo,bO,bP,ei,fg]
def y!:=sp Qn Qfu Qfu
abbrev Qfv:List Y:=aaq [fu]
abbrev Qfw:List Y:=aap [fu]
abbrev Qfx:List Y:=aao [fu]
abbrev Qfy:List Y:=aan [fu]
abbrev Qfz:=gV Qr (rD Qq (gU Qfg b? (iU FV (ml 9103 Qfv)) (iR Qz FV (ml 9103 Qfw)) (dQ Qw b? (iU FV (ml 9103 Qfx)) (iR Qz FV (ml 9103 Qfy))))) [eg,Qf,Qo,bO,bP,ei,fg,fu]
def y_:=sp Qn Qfz Qfz
abbrev Qf0:=gV Qr (rD Qq (gU Qfg b? (iU FV (ml 9104 Qfv)) (iR Qz FV (ml 9104 Qfw)) (dQ Qw b? (iU FV (ml 9104 Qfx)) (iR Qz FV (ml 9104 Qfy))))) [gW,Qf,Qo,bO,bP,ei,fg,fu]
def x?:=sp Qn Qf0 Qf0
abbrev Qf1:=gV Qr (rD Qq (gU Qfg b? (iU FV (ml 9105 (aaq [fu,fv]))) (iR Qz FV (ml 9105 (aap [fu,fv]))) (dQ Qw b? (iU FV (ml 9105 (aao [fu,fv]))) (iR Qz FV (ml 9105 (aan [fu,fv])))))) [iQ,Qf,Qo,bO,bP,ei,fg,fu,fv]
def x!:=sp Qn Qf1 Qf1
abbrev Qf2:=kG Qcl Qf
abbrev Qf3:=qb Qo gI gI Qe5
abbrev Qf4:=dI FV 9106 [Qf,Qb,Qfq,Q1]
abbrev Qf5:=dI FV 9106 [Qf,Qb,Qfr,Q1]
abbrev Qf6:=dI FV 9106 [Qf,Qb,Qfs,Q1]
abbrev Qf7:=dI FV 9106 [Qf,Qb,Qft,Q1]
abbrev VG (l:List Y):=Qf::Qb::Qf3::Q1::Qfl::Qfm::Qfn::Qfp::l
def Vm:=dM Qn Qr (rD Qq (sp Qfg (gU b? Qf2 (dI FV 9102 (VG [])) Qf4 (dQ Qz Qf2 (dI FV 9103 (VG [Qx])) Qf5)) (dQ Qw b? (sp Qf2 (dI FV 9104 (VG [Qt])) Qf6) (dQ Qz Qf2 (dI FV 9105 (VG [Qt,Qx])) Qf7)))) (ou [wM,Qf,Qo]) Qr (rD Qq (gU Qfg b? Qf4 (iU Qz Qf5) (dQ Qw b? Qf6 (iU Qz Qf7)))) (ou [wM,Qf,Qo])
abbrev D7 (l:List Y):=Qf::Qb::Qo::l
abbrev tL a0 a1:=ju a0 (D7 a1)
abbrev dr a0 a1:=rr a0 a1 0
def Vl:=nZ 3950 [Qb] (tL 9151 [dr 3950 [Qb]])
abbrev Qf8:=tE Qo
abbrev Qf9:=pA (ga Qf8)
abbrev Qga:=iS gI gI gI gI
abbrev Qgb:=nj gI Qh Qga
abbrev Qgc:=eV Qf8
abbrev Qgd:=gT Qf8
abbrev Qge:=iE Qf8
abbrev Qgf:=kr Qf8
abbrev Qgg:=Pf 5 Qf8
abbrev Qgh:=mG (ga Qf8)
abbrev Qgi:=oB (mk Qgd) Qge (mk Qgf) (mk Qgg)
def Jo:=dM Qbv Qcm (sp Qf9 (ju 9152 [Qf,Q0,Qb,Qo,Qm,Qgb,Qgc,Qgd,Qge,Qgf,Qgg]) (dI Qgh 9153 [Qf,Q0,Qb,Qo,Qm,Qgb,Qgc,ga Qf8,Qgd,Qge,Qgf,Qgg])) (ou [W,Qf,Qm]) Qcm (sp Qf9 (ju 9154 [Qf,Q0,Qb,Qo,Qm,nj (mk Qgc) Qk Qgi]) (dI Qgh 9154 [Qf,Q0,Qb,Qo,Qm,nj (mk Qgc) (ga Qf8) Qgi])) (ou [W,Qf,Qm])
abbrev Qgj:=gp Qb DK
abbrev Jb:=oe Qb
abbrev Qgl:=el Qm Qb
abbrev Qgm:=ga Qgl
abbrev Qgn:=pA Qgm
abbrev XI:=ln bP
abbrev Qgp:=AD XI 2199023255551
abbrev Qgq:=gp Qf XI
abbrev pR:=kO Qb
abbrev Qgs:=eV Qgl
abbrev Qgt:=gT Qgl
abbrev Qgu:=iE Qgl
abbrev Qgv:=kr Qgl
abbrev Qgw:=Pf 5 Qgl
abbrev Qgx:=oB (mk Qgt) Qgu (mk Qgv) (mk Qgw)
abbrev Qgy:=qb bP (mk Qgs) Qk Qgx
abbrev Qgz:=mG Qgm
abbrev Qg0:=qb bP (mk Qgs) Qgm Qgx
abbrev qD a0:=rD Jb a0
abbrev ajJ (l:List Y):=Qf::pR::Qo::Qm::bO::l
abbrev tJ a0 a1 a2:=dI a0 a1 (ajJ a2)
abbrev Qg1:=gV Qgj (qD (sp Qgn (iU Qgp (tJ Qgq 9152 [Qgy,ei,fg,fu,fv,fV])) (iR Qgz Qgp (tJ Qgq 9152 [Qg0,ei,fg,fu,fv,fV])))) [Q0,Qf,bO,bP,ei,fg,fu,fv,fV]
abbrev gF a0 a1 a2 a3:=sp (kG a0 a1) a2 a3
def Vk:=gF Qb Qf Qg1 Qg1
abbrev gN:Y:=.dN 11
abbrev Qg3:=gV Qgj (qD (sp Qgn (iU Qgp (tJ Qgq 9153 [Qgy,ei,fg,fu,fv,fV,gN])) (iR Qgz Qgp (tJ Qgq 9153 [Qg0,ei,fg,fu,fv,fV,gN])))) [eg,Qf,bO,bP,ei,fg,fu,fv,fV,gN]
def Vj:=gF Qb Qf Qg3 Qg3
abbrev Qg4:=qb bP gI Qh Qga
abbrev Qg5:=tJ Qgp 9154 [Qgy]
abbrev Qg6:=tJ Qgp 9154 [Qg0]
def Jn:=dM (kG Qb Qf) Qgj (qD (sp Qgn (gF XI Qf (tJ Qgp 9152 [Qg4,Qgs,Qgt,Qgu,Qgv,Qgw]) Qg5) (dQ Qgz (kG XI Qf) (tJ Qgp 9153 [Qg4,Qgs,Qgm,Qgt,Qgu,Qgv,Qgw]) Qg6))) (ou [gW,Qf,bO,bP]) Qgj (qD (sp Qgn Qg5 (iU Qgz Qg6))) (ou [gW,Qf,bO,bP])
abbrev La:=[bP,Qm,bO]
abbrev AO:=dr 9150 La
abbrev XJ:=wy 22200 [Qb,Qo,Qm,bO]
abbrev kq a0 a1 a2:=nJ (rr a0 a1 a2)
abbrev fj a0 a1:=kq a0 a1 0
abbrev XH:=fj 22200 [Qb,Qo,Qm,bO]
abbrev qO a0 a1:=rr 9150 a0 a1
abbrev EP:=qO La 2
abbrev Qhc:=ou [W,Qf,EP,W]
abbrev IS:=oe bP
abbrev XG:=gp bP Qcl
abbrev XF:=wy 22300 [Qb,Qo,Qm,bO,bP]
abbrev XE:=fj 22300 [Qb,Qo,Qm,bO,bP]
abbrev EO:=qO La 3
abbrev za:=qO La 4
abbrev z7:=qO La 5
abbrev Fh:=qO La 6
abbrev Fg:=qO La 7
abbrev Ff:=qO La 8
abbrev VI (l:List Y):=Q0::Qf::EP::EO::W::W::W::W::W::l
abbrev Qhn:=ou (VI [W,bP,za,z7,Fh,Fg,Ff])
abbrev b!:=mk bP
abbrev uJ a0 a1 a2 a3 a4:=I6 a0 a1 (tA a2 a3 a4)
abbrev xF a0 a1 a2 a3:=uJ a0 b! a1 a2 a3
abbrev b_:=[Qb,Qo,EP,xF EO (mk za) Qk (oB (mk z7) Fh (mk Fg) (mk Ff)),bP]
abbrev Zy:=fX bP EO
abbrev UZ:=ce 2 (el Qo bP)
abbrev Zx:=el UZ za
abbrev vS:=eV Zx
abbrev jL a0:=ce 6 a0
abbrev Qhu:=lK (jL Zx)
abbrev Qhv:=tE (jL Zx)
abbrev jK a0:=ce 3 a0
abbrev Qhw:=[eV Qhv,ga Qhv,gT Qhv,jK Qhv,Qk]
abbrev Zw:=iE Zx
abbrev Qhy:=oe Zw
abbrev Qhz:=ou (VI [Q0,bP,kr Zx,z7,Fh,Fg,Ff])
abbrev Qh0:=kO za
abbrev Qh1:=ou (VI [Q0,bP,Qh0,z7,Fh,Fg,Ff])
abbrev Ja:Y:=.lit 7
abbrev iT a0 a1:=rr 22350 a0 a1
abbrev Qh3:=[Qb,Qo,EP,EO,bP,iT b_ 0,iT b_ 1,iT b_ 2,iT b_ 3,za,z7,Fh,Fg,Ff]
abbrev RY:=qO La 9
abbrev S0 (l:List Y):=eg::Qf::EP::EO::W::W::W::W::W::l
abbrev Qh5:=ou (S0 [W,bP,za,z7,Fh,Fg,Ff,RY])
abbrev K9:=[Qb,Qo,EP,xF EO (mk za) z7 (oB (mk Fh) Fg (mk Ff) (mk RY)),bP]
abbrev Qh7:=[eV Qhv,ga Qhv,gT Qhv,jK Qhv,z7]
abbrev Qh8:=fX Zw z7
abbrev Qh9:=ou (S0 [Q0,bP,kr Zx,z7,Fh,Fg,Ff,RY])
abbrev Qia:=ou (S0 [Q0,bP,Qh0,z7,Fh,Fg,Ff,RY])
abbrev Qib:=[Qb,Qo,EP,EO,bP,iT K9 0,iT K9 1,iT K9 2,iT K9 3,za,z7,Fh,Fg,Ff,RY]
abbrev Qic:=ou [gW,Qf,EP,EO,W]
abbrev rU a0 a1:=eV (el a0 a1)
abbrev Qid:=rU EO bP
abbrev Qie:=el UZ Qid
abbrev Qif:=eV Qie
abbrev Qig:=lK (jL Qie)
abbrev Qih:=tE (jL Qie)
abbrev vw a0:=mk (kO a0)
abbrev Qii:=ji EO b! EO bP gI (vw Qid)
abbrev Qij:=ga (el Qii bP)
abbrev Qik:=[eV Qih,ga Qih,gT Qih,jK Qih,Qij]
abbrev Qil:=iE Qie
abbrev qH a0 a1 a2:=jM (oe a0) a1 a2
abbrev Qim:=qH Qil (fX Qil Qij) fl
abbrev oh a0 a1:=mk (Pf a0 a1)
abbrev Qin:=ou [gW,Qf,EP,ji Qii b! Qii bP gI (oh 4 Qie),Q0]
abbrev Qio:=ou [gW,Qf,EP,Qii,Q0]
abbrev BR a0 a1:=rr 24050 a0 a1
abbrev pw a0:=BR Qib a0
abbrev ot a0 a1 a2 a3 a4:=rD a0 (dQ a1 a2 a3 a4)
abbrev xE a0 a1 a2 a3 a4 a5:=ot a0 a1 (kG a2 a3) a4 a5
abbrev ni a0 a1 a2 a3 a4 a5 a6:=iU a0 (xE a1 a2 a3 a4 a5 a6)
abbrev nh a0 a1 a2 a3:=cq IS a0 a1 a2 a3
abbrev Es a0 a1:=rr 24000 a0 a1
abbrev qC a0:=Es Qh3 a0
abbrev dF a0 a1 a2 a3 a4 a5 a6:=lX (kG a0 a1) a2 a3 a4 a5 a6
abbrev tI a0 a1 a2:=I6 a0 (mk a1) a2
abbrev mZ a0 a1 a2 a3 a4:=nZ a0 a1 (sp a2 a3 a4)
abbrev ox a0 a1 a2 a3 a4 a5 a6:=mZ a0 a1 (kq a2 a3 a4) a5 a6
abbrev BQ a0 a1:=wr (.sub a0 a1)
abbrev tD a0:=BQ a0 Q0
abbrev tC a0:=kG a0 gW
abbrev nH a0 a1 a2:=mk (rr a0 a1 a2)
abbrev jJ a0 a1:=nm (el a0 a1)
abbrev zM a0 a1 a2 a3:=nZ a0 a1 (iU a2 a3)
abbrev lj a0 a1 a2 a3 a4:=zM a0 a1 (fj a2 a3) a4
abbrev lh a0 a1 a2 a3 a4:=iU a0 (dQ a1 a2 a3 a4)
abbrev gM a0 a1 a2 a3 a4 a5:=ox a0 a1 a2 a3 0 a4 a5
def w8:=mZ 9150 La (nJ AO) (dQ XJ XH Qhc (nh Qhc XG (dQ XF XE (zM 22350 [Qb,Qo,EP,Qh,bP] (kq 22350 [Qb,Qo,EP,Qh,bP] 4) fl) (ou [W,Qf,EP,iQ])) Qhc)) (dF AO Q0 (dQ XJ XH Qhn (nh Qhn XG (dQ XF XE (ox 22350 b_ 22350 b_ 4 (ni Zy (oe za) (fX za UZ) vS gW (iU Qhu (zM 22500 Qhw Qhy fl)) (dF vS iQ (iU Qhu (gM 22500 Qhw 22500 Qhw Qhz Qh1)) vS wM Qhz (dF vS IF (iU Qhy fl) vS Ja (iU Qhy fl) Qh1))) (lj 24000 Qh3 24000 Qh3 (ou [Q0,Qf,qC 15,EO,qC 16,qC 17,qC 18,qC 19,qC 20,qC 21,bP,qC 22,qC 23,qC 24,qC 25,qC 26]))) (ou (VI [iQ,bP,za,z7,Fh,Fg,Ff]))) Qhn)) AO eg (dQ XJ XH Qh5 (nh Qh5 XG (dQ XF XE (ox 22350 K9 22350 K9 4 (ni Zy (oe za) (fX za UZ) vS gW (iU Qhu (nZ 22500 Qh7 (jM Qhy Qh8 (ou (S0 [Q0,bP,Qh0,tI z7 Zw (nH 22500 Qh7 0),Fh,Fg,Ff,RY]))))) (dF vS iQ (iU Qhu (gM 22500 Qh7 22500 Qh7 Qh9 Qia)) vS wM Qh9 (dF vS IF (jM Qhy Qh8 (ou (S0 [Q0,bP,Qh0,tI z7 Zw (oh 5 Zx),Fh,Fg,Ff,RY]))) vS Ja (ot Qhy Qh8 (nq (jJ z7 Zw)) (ou (S0 [Q0,bP,Qh0,tI z7 Zw (mk (tD (jJ z7 Zw))),Fh,Fg,Ff,RY])) Qh9) Qia))) (lj 24050 Qib 24050 Qib (ou [eg,Qf,pw 16,EO,pw 17,pw 18,pw 19,pw 20,pw 21,pw 22,bP,pw 23,pw 24,pw 25,pw 26,pw 27,pw 28]))) (ou (S0 [iQ,bP,za,z7,Fh,Fg,Ff,RY]))) Qh5)) (lh (tC AO) XJ XH Qic (nh Qic XG (dQ XF XE (zM 22350 [Qb,Qo,EP,EO,bP] (kq 22350 [Qb,Qo,EP,EO,bP] 4) (ni Zy (oe Qid) (fX Qid UZ) Qif gW (iU Qig (nZ 22500 Qik Qim)) (dF Qif iQ (iU Qig (gM 22500 Qik 22500 Qik Qin Qio)) Qif wM Qin (dF Qif IF Qim Qif Ja (qH Qil (fX Qil Qij) (rD (nq (jJ Qij Qil)) Qin)) Qio)))) (ou [gW,Qf,EP,EO,iQ])) Qic)))
abbrev qk:=ln Qf
def t100:=ju 101 [nI qk Qc,Qc,W,Qf,Qb]
abbrev ib:=ou [Q0]
abbrev fc:=ou [W]
abbrev np a0:=rD Zz a0
abbrev qB a0:=gp a0 Qf
abbrev pn a0 a1 a2 a3:=cq a0 a1 a2 ib a3
def t101:=pn uQ (np (dI c_ 102 [nI Qf (nI (ln Qdm) (ln (ce 2 Qdl))),Qo,W,Qb,Qm,bO])) (qB (.lit 6000)) fc
abbrev Rw:=el bP Qb
abbrev Qit:=ju 101 [Qf,Qm,pR,bO,bP]
abbrev Qiu:=jL (el (ce 2 Rw) Qo)
abbrev fU a0 a1 a2 a3:=sp (gp a0 a1) a2 a3
abbrev vy a0 a1 a2 a3:=fU (.lit a0) a1 a2 a3
def t102:=ot Jb (gp Qb XI) (fX Qo (ce 2 Rw)) (vy 6000 Qf Qit (np (tL 103 [Qm,Qiu,ln Qiu,W,bO,bP]))) Qit
abbrev Qiv:=el bO ei
abbrev Qiw:=[eV Qiv,ga Qiv,gT Qiv,jK Qiv,.lit 60]
abbrev rT a0 a1:=ju a0 (pf a1)
def t103:=fU ei bP (qH ei (gp ei U1) (nZ 150 Qiw (ju 103 [nI Qf (dr 150 Qiw),Qb,Qo,Qm,bO,bP,kO ei,fg,fu]))) (rT 102 [Qm,fg,fu])
abbrev Qix:=gp bO Q0
abbrev mb a0 a1 a2:=sp a0 (ou a1) a2
def t150:=mb Qix [.lit 10000] (ju 151 [bO,nI Q0 (wr (.quo Qc (.lit 100))),W,Qf,Qb,Qo,Qm])
abbrev Zv:=ln ei
abbrev Qiz:=ou [Qb]
abbrev Qi0:=el ei Qo
abbrev Qi1:=[eV Qi0,ga Qi0,gT Qi0,jK Qi0,tD Qf]
def t151:=fU Qo Zv (vy 10000 Qb Qiz (np (nZ 150 Qi1 (ju 151 [Qf,nI Qb (dr 150 Qi1),FW,Qm,bO,bP,ei])))) Qiz
abbrev kN a0 a1 a2:=gF a0 a1 a2 fc
def t200:=kN qk Qc (ju 201 [Qf,Qb,qk,W])
abbrev p9 a0:=gp a0 qk
abbrev Qi2:=p9 Qm
abbrev UY:=el Qf Qm
abbrev Qi4:SB:=.not (nJ (gT UY))
abbrev Qi5:=ln (ce 5 UY)
abbrev aj1 a0 a1:=SB.and a0 (.not a1)
abbrev xD a0 a1:=aj1 (.not a0) a1
def t201:=sp Qp (TN Qi2 (dQ Qr (kG (eV UY) Qfl) (kN (ku UY) Qfm (lX (xD (aj1 Qi4 (nJ Qfn)) (xD Qi4 (.not (nJ Qfn)))) fc (iE UY) Qfp (nZ 250 [ce 4 UY,Qt] (lX (fj 250 [ce 4 UY,Qt]) fc Qi5 (ln Qx) (tL 202 [Qm,Qi5,W,eV UY,ku UY,gT UY,iE UY,ce 4 UY,ce 5 UY,Qfl,Qfm,Qfn,Qfp,Qt,Qx]) fc)) fc)) fc)) ib
abbrev Qi6:=ln gN
abbrev Rx:Y:=.dN 17
abbrev Qi8:=kO bP
abbrev lz:Y:=.dN 12
abbrev jo:Y:=.dN 13
abbrev iN:Y:=.dN 14
abbrev sN:Y:=.dN 15
abbrev UX:Y:=.dN 16
abbrev Qje:List Y:=D7 [Q1]
def t202:=fU bP bO (jM IS (gp bP Qi6) (dQ (fX bP Rx) (kG (jJ gN bP) (jJ Rx bP)) (tL 202 [Qm,bO,Qi8,ei,fg,fu,fv,fV,gN,lz,jo,iN,sN,UX,Rx]) fc)) (ju 201 Qje)
abbrev Qjf:=[Qf,Qb,W]
def t250:=kN qk Qc (ju 251 Qjf)
abbrev K8:=p9 Qo
abbrev Qjh:=gp Qo Qc
abbrev Zt:=el Qf Qo
abbrev Qjj:=nm Zt
abbrev Qjk:List Y:=pf []
def t251:=sp K8 (xE Zz Qjh Qjj (jJ Qb Qo) (ju 251 Qjk) fc) ib
abbrev Qjl:=wy 450 yf
abbrev Qjm:=fj 450 yf
abbrev Qjn:=ou [Qh]
def ae2:=dQ Qjl Qjm (ju 301 [Qf,qk]) Qjn
abbrev Qjo:=nq Qb
abbrev Qjp:=p9 W
abbrev N7:=tE Qf
abbrev Qjr:=eV N7
abbrev EN:=rV (-1)
abbrev Qjt:=nj EN (oh 2 N7) Qe5
abbrev Qju:=ju 302 [Qjt,Qf,Qb,Q0]
abbrev Zs:Y:=.lit 9
abbrev Qjw:=nj EN gI Qe5
def X1:=sp Qjo (iU Qjp (dF Qjr gW Qju Qjr Zs Qju (ju 302 [Qjw,Qf,Qb,Q0]))) Qjn
abbrev Qjx:=gp qk Qfi
abbrev Qjy:=dI Qjx 302 [qb Qf EN (mk Qfn) Qe5,Qb,Qo,Q1]
abbrev Qjz:=qb Qf EN gI Qe5
def am2:=gV Qp (qF (dF Qfl gW Qjy Qfl Zs Qjy (dI Qjx 302 [Qjz,Qb,Qo,Q1]))) Qj
def ae1:=dQ Qjl Qjm (kN Qcl qk (ju 351 [Qo,Qcl,W,Qf,Qb])) fc
abbrev Qj0:=gT Zt
abbrev XD:=eV Zt
abbrev Rv:=ga Zt
abbrev Qj3:=jK Zt
abbrev Zu:=ce 4 Zt
abbrev N8:=ce 5 Zt
abbrev ajC (l:List Y):=(Pf 0 c!)::Qd3::(Pf 2 c!)::(ce 3 c!)::(nm Qcw)::XD::(nm Rv)::l
abbrev Qj6:List Y:=ajC [W,nm Qj3,Zu,N8,U1]
abbrev Qj7:=rT 351 [Qm,bO]
abbrev Qj8:List Y:=ajC [Q0,nm Qj3,Zu,N8,U1]
abbrev kM a0 a1 a2 a3 a4:=gM a0 a1 a2 a3 fc a4
def ae0:=sp uQ (oW K8 (dQ Qcu (nJ Qj0) (kM 500 Qj6 500 Qj6 Qj7) (kM 500 Qj8 500 Qj8 Qj7))) ib
abbrev Qj9:=[bP,Qo]
abbrev Qka:=dr 9000 Qj9
abbrev Qkb:List Y:=D7 []
abbrev Qkc:=wy 350 Qkb
abbrev Qkd:=fj 350 Qkb
abbrev pr a0 a1:=rr a0 Qj9 a1
abbrev A1:=pr 9000 2
abbrev Qkf:=ou [A1,W,W,W,W,W,W]
abbrev anZ a0 a1 a2 a3:=cq Qq a0 a1 a2 a3
abbrev TM a0 a1 a2:=anZ a0 Qr a1 a2
abbrev qy a0 a1 a2 a3 a4 a5:=dQ a0 a1 a2 (TM a3 a4 a5)
abbrev Qkg:=qy Qkc Qkd Qkf Qkf Qkf Qkf
abbrev Qkh:=fX bP A1
abbrev Qki:=ou [Qh,W,W,W,W,W,W]
abbrev Qkj:=ou [Qk,W,W,W,W,W,W]
abbrev Qkk:=pr 9000 3
abbrev N6:=mk Qkk
abbrev Ru:=pr 9000 4
abbrev RX:=mk Ru
abbrev Qko:=pr 9000 5
abbrev XC:Y:=.op .bit (mk Qko) W
abbrev Qkq:=pr 9000 6
abbrev XB:=mk Qkq
abbrev NR:=pr 9000 7
abbrev a!:=pr 9000 8
abbrev a_:=cn a! gI
abbrev Qkv:=cn XC (tA XB NR a_)
abbrev Qkw:=cn b! (tA N6 RX Qkv)
abbrev Qkx:=stx A1 Qkw
abbrev FU:=ou [Qkx,W,W,W,W,W,W]
abbrev Qkz:=wy 600 [bO]
abbrev Qk0:=p9 bP
abbrev gE a0 a1 a2 a3:=kG (rr a0 a1 a2) a3
abbrev Qk1:=gE 600 [bO] 0 (rU Qf bP)
abbrev om a0:=kG bO a0
abbrev Qk2:=om Q0
abbrev Qk3:=kG Qkk Qm
abbrev Qk4:Y:=.lit 27
abbrev qG a0 a1 a2:=nZ a0 a1 (ou a2)
abbrev EM:=qG 550 [Qo] [dr 550 [Qo],Qm,Qk4,bP,wr bO,W,eg]
abbrev Qk6:=wy 900 [NR,Qm]
abbrev Qk7:=fj 900 [NR,Qm]
abbrev Qk8:=oe Qkk
abbrev Qk9:=xF A1 ER RX Qkv
abbrev RW:=qG 550 [Qo] [dr 550 [Qo],W,W,W,W,W,W]
abbrev Qlb:=mb Qk8 [Qk9,Qm,bO,bP,W,W,eg] RW
abbrev Qlc:=sp Qk3 EM (dQ Qk6 Qk7 Qlb EM)
abbrev Qld:=om eg
abbrev Qle:=mb Qk3 [xF A1 EN RX Qkv,Qm,bO,bP,W,W,eg] EM
abbrev Qlf:Y:=.lit 8
abbrev Qlg:=om Qlf
abbrev Qlh:=om gW
abbrev Qli:=ou [Qk9,Qm,bO,bP,Q0,W,eg]
abbrev Qlj:=ou [Qkx,Qm,bO,bP,W,W,eg]
abbrev Qlk:=sp Qk8 Qli Qlj
abbrev Qll:=om iQ
abbrev Qlm:=gp fg ei
abbrev Qln:=cq Qk8 Qli Qlm RW Qlj
abbrev Qlo:=om wM
abbrev I9:=ln NR
abbrev Qlq:Y:=.lit 17592186044415
abbrev Qlr:=vv RX XC XB (Gr NR ER) a_
abbrev qJ a0 a1:=iU a0 (ou a1)
abbrev Wz a0 a1 a2 a3:=stx a0 (tA a1 a2 a3)
abbrev oq a0 a1 a2:=Wz a0 b! a1 a2
abbrev Qls:=sp Qk3 EM (dQ Qk6 Qk7 (sp Qk8 (qJ (gp I9 Qlq) [oq A1 N6 Qlr,Qm,bO,bP,W,W,eg]) RW) EM)
abbrev Qlt:=om IF
abbrev Qlu:=wy 850 [NR,Qm]
abbrev Qlv:=dr 850 [NR,Qm]
abbrev Qlw:=kO Qlv
abbrev Qlx:Y:=.sub I9 Qlw
abbrev Qly:Y:=.add Qlv Qlx
abbrev PL a0 a1 a2 a3 a4:=Y.op a0 (.op a1 a2 a3) a4
abbrev tM a0 a1 a2 a3:=PL a0 .take a1 a2 a3
abbrev Qlz:Y:=.op .cat (tM .cat NR Qlv (tM .drop NR (.add Qlw Qlx) Qlw)) (.op .drop NR Qly)
abbrev Ql0:Y:=.op .fill Qlz (cn (mk Qly) gI)
abbrev xH a0 a1 a2:=Y.add a0 (.sub a1 a2)
abbrev lg a0 a1 a2 a3 a4 a5 a6:=oq a0 a1 (vv a2 a3 a4 a5 a6)
abbrev Ql1:=qH (.sub I9 Qly) (kG (xH Qly I9 Qly) (ln Qlz)) (rD (nG Ql0 Qly) (ou [lg A1 N6 RX XC XB (.op .take Ql0 Qly) a_,Qm,bO,bP,W,W,eg]))
abbrev wc a0 a1 a2:=rD a0 (rD a1 a2)
abbrev px a0 a1 a2:=wc (oe a0) a1 a2
abbrev Ql2:=dQ Qlu (oe Qlv) EM (rD (gp Qlw Qlv) (wc (gp I9 Qlw) (gp I9 I9) (gF Qlv Qlw Qlj (wc (gp I9 Qlv) (oe Qlw) (px Qlx (gp I9 (.add Qlw Qlx)) (wc (gp I9 Qly) (oe Qly) (fU Qly I9 (rD (nG Qlz I9) Ql1) Ql1)))))))
abbrev Ql3:=om Ja
abbrev mH a0 a1 a2:=sp (nJ a0) a1 a2
abbrev Ql4:=sp Qk3 EM (dQ Qk6 Qk7 (mH I9 Qlb RW) EM)
abbrev Ql5:=om Zs
abbrev Ql6:=xF A1 N6 (mk (tD Ru)) Qkv
abbrev Ql7:=fU W Ru (ou [Ql6,Qm,bO,bP,W,W,eg]) RW
abbrev vz a0:=om (.lit a0)
abbrev Ql8:=vz 11
abbrev Ql9:=fU W Ru (ou [Ql6,Qm,bO,bP,Q0,W,eg]) Qlj
abbrev Z9:Y:=.lit 10
abbrev Qmb:=om Z9
abbrev EL:=gT (el Qf bP)
abbrev Qmd:=xF A1 N6 (vw Ru) Qkv
abbrev Qme:=fU Ru EL (ou [Qmd,Qm,bO,bP,W,W,eg]) EM
abbrev Qmf:=vz 17
abbrev Qmg:Y:=.lit 1099511627776
abbrev Qmh:=cq (gp ei (BQ W Ru)) EM (gp (BQ Qmg Ru) ei) EM (ou [xF A1 N6 (mk (nI Ru ei)) Qkv,Qm,bO,bP,nI Ru ei,W,eg])
abbrev Qmi:=vz 18
abbrev Qmj:=fU W Ru (ou [Ql6,Qm,bO,bP,tD Ru,W,eg]) EM
abbrev Qmk:Y:=.lit 19
abbrev Qml:=om Qmk
abbrev Qmm:=mH Ru Qlj RW
abbrev Qmn:=vz 22
abbrev Qmo:=ou [Qkx,Qm,bO,bP,Ru,W,eg]
abbrev Qmp:Y:=.lit 23
abbrev Qmq:=om Qmp
abbrev Qmr:=mk ei
abbrev Qms:=ou [xF A1 N6 Qmr Qkv,Qm,bO,bP,ei,W,eg]
abbrev Qmt:Y:=.lit 20
abbrev Qmu:=om Qmt
abbrev Qmv:=fU (ln a!) EL (qJ (nG a! Qlq) [xF A1 N6 RX (iS XC XB NR (Gr a! Qmr)),Qm,bO,bP,ei,W,eg]) RW
abbrev Qmw:=vz 21
abbrev Qmx:=xH Q0 (ln a!) Q0
abbrev Qmy:=mH (ln a!) RW (px (.sub (ln a!) Q0) (nG a! Qmx) (ou [xF A1 N6 RX (iS XC XB NR (tM .drop a! Qmx Q0)),Qm,bO,bP,jJ a! W,W,eg]))
abbrev Qmz:=vz 12
abbrev Qm0:=oe EL
abbrev Qm1:=fX EL A1
abbrev Zr:=kG EL bP
abbrev N5:Y:=.lit (-1)
abbrev XA:=[NR,Qm,bP,EL,A1,bO,ei,fg,N5,Ru,Qko,Qkq,a!]
abbrev Qm5:=qJ (gp I9 Qlq) [oq A1 EN Qlr,Qm,bO,bP,W,W,gW]
abbrev Qm6:=rr 12000 XA 14
abbrev Qm7:=rr 12000 XA 15
abbrev Qm8:Y:=.add Qm6 Q0
abbrev Qm9:=Gr gI ER
abbrev Qna:Y:=.op .cat (tM .cat Qm7 Qm6 Qm9) (.op .drop Qm7 Qm8)
abbrev Qnb:=rU A1 EL
abbrev Qnc:=kG Qnb Qm
abbrev Qnd:=ji A1 (mk EL) A1 EL gI EN
abbrev Xz:=[NR,Qm,bP,EL,Qnd,bO,ei,fg,Qkk,Ru,Qko,Qkq,a!]
abbrev Qnf:=qJ (gp I9 Qlq) [oq Qnd N6 Qlr,Qm,bO,bP,W,W,gW]
abbrev Qng:=rr 12000 Xz 14
abbrev Qnh:=rr 12000 Xz 15
abbrev Qni:Y:=.add Qng Q0
abbrev Qnj:Y:=.op .cat (tM .cat Qnh Qng Qm9) (.op .drop Qnh Qni)
abbrev Qnk:=vz 13
abbrev Qnl:=vz 14
abbrev Qnm:=lg A1 N6 RX XC XB Qh a_
abbrev FT:Y:=.lit 24
abbrev Qno:=om FT
abbrev Qnp:Y:=.lit 15
abbrev Qnq:=om Qnp
abbrev K7:Y:=.lit 4611686018427387904
abbrev FQ:Y:=.lit 25
abbrev Qnt:=om FQ
abbrev Fe:Y:=.lit 16
abbrev Qnv:=om Fe
abbrev Qnw:=vz 26
abbrev pq a0 a1:=jM Qm0 a0 a1
abbrev rP a0 a1 a2 a3:=dQ a0 a1 (ou a2) a3
abbrev mF a0 a1 a2 a3 a4 a5 a6:=dM a0 a1 (ou a2) a3 a4 a5 a6
abbrev oU a0 a1 a2 a3 a4:=cq a0 a1 a2 (ou a3) a4
abbrev Qnx:=cq Qno (pq Qm1 (dQ Qk6 Qk7 (oU Zr Qlb (oe Qnb) [stx (ji A1 (mk EL) A1 EL gI ER) Qkw,Qm,bO,bP,W,W,eg] RW) RW)) Qnq (fU Qkq K7 (gF (kO Ru) EL (ou [lg A1 N6 gI XC (vw Qkq) NR a_,Qm,bO,bP,Qkq,W,gW]) (ou [Qmd,Qm,bO,bP,Qkq,W,gW])) EM) (mF Qnt (gp ei Qkq) [Qkx,Qm,bO,bP,ei,W,eg] RW Qnv (mH Qko (cq Qk3 EM Qk8 Qli RW) Qlj) (rP Qnw Qk3 [lg A1 EN RX Qh XB NR a_,Qm,bO,bP,W,W,eg] EM))
abbrev Qny:=dM Qnk (nJ I9) Qlj (px (.sub I9 Q0) (gp I9 (xH Q0 I9 Q0)) (ou [lg A1 N6 RX XC XB (tM .drop NR (xH Q0 I9 Q0) Q0) a_,Qm,bO,bP,kO (jJ NR W),W,eg])) Qnl (ou [Qnm,Qm,bO,bP,I9,W,eg]) Qnx
abbrev Qnz:=cn (Gr gI Qmr) gI
abbrev Qn0:=fU W EL (ou [lg A1 N6 RX XC XB NR Qnz,Qm,bO,bP,ei,W,eg]) RW
abbrev Qn1:=rr 12100 XA 14
abbrev Qn2:=rr 12100 XA 15
abbrev Qn3:Y:=.add Qn1 Q0
abbrev Qn4:Y:=.op .cat (tM .cat Qn2 Qn1 Qm9) (.op .drop Qn2 Qn3)
abbrev Qn5:=rr 12100 Xz 14
abbrev Qn6:=rr 12100 Xz 15
abbrev Qn7:Y:=.add Qn5 Q0
abbrev Qn8:Y:=.op .cat (tM .cat Qn6 Qn5 Qm9) (.op .drop Qn6 Qn7)
abbrev Qn9:=vv RX XC XB Qm9 a_
abbrev Qoa:=sp Qk3 EM (dQ Qk6 Qk7 (mb Qk8 [oq A1 N6 Qn9,Qm,bO,bP,W,W,eg] RW) EM)
abbrev Qob:=iR Qlu (oe Qlv) EM
abbrev Qoc:=ou [oq A1 EN Qn9,Qm,bO,bP,W,W,gW]
abbrev Qod:=ou [oq Qnd N6 Qn9,Qm,bO,bP,W,W,gW]
abbrev Qoe:=oU Qnk Qlj Qnl [Qnm,Qm,bO,bP,W,W,eg] Qnx
abbrev kX a0 a1 a2:=gE a0 a1 a2 Q0
def jA:=nZ 9000 Qj9 (lX (nJ Qka) (sp IS Qkg (rD Qkh Qkg)) Qka Q0 (qy Qkc Qkd Qki Qki (sp IS Qki Qki) Qki) (dF Qka eg (qy Qkc Qkd Qkj Qkj (sp IS Qkj Qkj) Qkj) Qka gW (qy Qkc Qkd FU FU (nh FU Qkh (lh Qkz Qk0 Qk1 (sp Qk2 Qlc (cq Qld Qle Qlg Qle (cq Qlh Qlk Qll Qln (cq Qlo Qls Qlt Ql2 (cq Ql3 Ql4 Ql5 Ql7 (cq Ql8 Ql9 Qmb Qme (cq Qmf Qmh Qmi Qmj (cq Qml Qmm Qmn Qmo (cq Qmq Qms Qmu Qmv (cq Qmw Qmy Qmz (pq Qm1 (dM Zr Qk3 (gM 12000 XA 12000 XA Qm5 (iU (kX 12000 XA 0) (px Qm6 (nG Qm7 Qm8) (px Qm8 (nG Qna Qm8) (ou [lg A1 EN RX XC XB (.op .take Qna Qm8) a_,Qm,bO,bP,W,W,gW]))))) EM Qnc (gM 12000 Xz 12000 Xz Qnf (iU (kX 12000 Xz 0) (px Qng (nG Qnh Qni) (px Qni (nG Qnj Qni) (ou [lg Qnd N6 RX XC XB (.op .take Qnj Qni) a_,Qm,bO,bP,W,W,gW]))))) EM)) Qny)))))))))) FU) FU) FU) (dF Qka iQ (qy Qkc Qkd FU FU (nh FU Qkh (lh Qkz Qk0 Qk1 (sp Qk2 Qlc (cq Qld Qle Qlg Qle (cq Qlh Qlk Qll Qln (cq Qlo Qls Qlt Ql2 (cq Ql3 Ql4 Ql5 Ql7 (cq Ql8 Ql9 Qmb Qme (cq Qmf Qmh Qmi Qmj (cq Qml Qmm Qmn Qmo (cq Qmq Qms Qmu Qn0 (cq Qmw RW Qmz (pq Qm1 (dM Zr Qk3 (gM 12100 XA 12100 XA Qm5 (iU (kX 12100 XA 0) (px Qn1 (nG Qn2 Qn3) (px Qn3 (nG Qn4 Qn3) (ou [lg A1 EN RX XC XB (.op .take Qn4 Qn3) a_,Qm,bO,bP,W,W,gW]))))) EM Qnc (gM 12100 Xz 12100 Xz Qnf (iU (kX 12100 Xz 0) (px Qn5 (nG Qn6 Qn7) (px Qn7 (nG Qn8 Qn7) (ou [lg Qnd N6 RX XC XB (.op .take Qn8 Qn7) a_,Qm,bO,bP,W,W,gW]))))) EM)) Qny)))))))))) FU) FU) FU) Qka wM (qy Qkc Qkd FU FU (nh FU Qkh (lh Qkz Qk0 Qk1 (sp Qk2 Qlc (cq Qld Qle Qlg Qle (cq Qlh Qlk Qll Qln (cq Qlo Qoa Qlt Qob (cq Ql3 Qlc Ql5 Ql7 (cq Ql8 Ql9 Qmb Qme (cq Qmf Qmh Qmi Qmj (cq Qml Qmm Qmn Qmo (cq Qmq Qms Qmu Qmv (cq Qmw Qmy Qmz (pq Qm1 (dM Zr Qk3 (lj 12200 XA 12200 XA Qoc) EM Qnc (lj 12200 Xz 12200 Xz Qod) EM)) Qoe)))))))))) FU) FU) FU) (lh (kG Qka IF) Qkc Qkd FU (TM FU (nh FU Qkh (lh Qkz Qk0 Qk1 (sp Qk2 Qlc (cq Qld Qle Qlg Qle (cq Qlh Qlk Qll Qln (cq Qlo Qoa Qlt Qob (cq Ql3 Qlc Ql5 Ql7 (cq Ql8 Ql9 Qmb Qme (cq Qmf Qmh Qmi Qmj (cq Qml Qmm Qmn Qmo (cq Qmq Qms Qmu Qn0 (cq Qmw RW Qmz (pq Qm1 (dM Zr Qk3 (lj 12300 XA 12300 XA Qoc) EM Qnc (lj 12300 Xz 12300 Xz Qod) EM)) Qoe)))))))))) FU) FU) FU)))))
abbrev Qof:=ju 451 [Qf,qk,W,Qb]
def aqy:=cq (p9 (.lit 64)) Qof (gp Fe Qc) Qof (ju 452 [Qf,qk,W,Qb])
abbrev Qog:=rT 451 [Qm]
def am1:=qA uQ (oW K8 Qog) 453 [Qm,DK,W,Qf]
abbrev Qoh:=[Qf,Qm,XD,Rv,Qj0,Qj3,nm Zu]
def am0:=qA uQ (oW K8 (gM 700 Qoh 700 Qoh Qog (rT 452 [Qm]))) 454 [Qm,DK,W,Qf]
abbrev Qoi:List Y:=JR [Qo,Qm,ce 0 Zt,Rv,ce 2 Zt]
abbrev Qoj:=ou [.lit 120]
def amZ:=sp uQ (np (dI K8 455 Qoi)) Qoj
abbrev qz a0 a1:=sp a0 a1 fc
def amY:=qz uQ (oW K8 (im (fX (.lit 120) Rv) (ju 455 Qoi) (fX (.lit 4000) (ce 2 Zt)) 455 Qoi (ju 456 Qoi)))
abbrev Qok:=ju 453 [Qb,Qo,Q1,bO]
def amX:=sp (fX Qf fg) Qok Qok
abbrev Qol:=oe Qf
abbrev Qom:=el fg Qf
abbrev Qon:=[bO,Qb,bP,ei,fg,eV Qom,ku Qom,gT Qom,iE Qom,kr Qom,Pf 5 Qom,jL Qom]
abbrev Qoo:=kO Qf
abbrev Qop:=[jL Qom,bP,ei,fg]
abbrev fA a0 a1:=rr a0 a1 1
abbrev GN (l:List Y):=Qoo::Qb::Qo::Qm::l
abbrev Qoq:List Y:=GN [bO,dr 5000 Qop,fA 5000 Qop,rr 5000 Qop 2]
def amW:=qA (fX Qf fg) (rD Qol (gM 750 Qon 750 Qon (ju 455 (GN [bO,bP,ei,fg])) (ox 5000 Qop 5000 Qop 3 (ju 456 Qoq) (ju 455 Qoq)))) 454 [Qb,Qo,Q1,bO]
abbrev RV:List Y:=D7 [Qm,bO]
abbrev Qos:=gp bP N5
abbrev Qot:=gp bP gN
abbrev Qou:=oe fu
abbrev Qov:=lK fv
abbrev lJ a0:=kG Qf a0
abbrev UW:=lJ iQ
abbrev Qox:=lK fV
abbrev Xy:=nJ fg
abbrev Qoz:=nq fu
abbrev Qo0:=ju 501 [gN,fv,ln fv,W,Qf,Qb,Qo,Qm,bO,bP,ei,fg,fu,fV,gI]
abbrev oR a0 a1:=sp a0 fc a1
abbrev Qo1:=oR Qoz Qo0
abbrev zO a0 a1 a2 a3:=cq a0 fc a1 a2 a3
abbrev l9 a0 a1 a2:=zO a0 a1 a2 fc
abbrev Qo2:=l9 Qox Xy Qo1
abbrev Qo3:=lJ eg
abbrev Qo4:=lJ Qlf
abbrev Z8:=lJ wM
abbrev Qo6:=lJ IF
abbrev Qo7:=lJ Q0
abbrev ik a0 a1 a2:=zO a0 a1 fc a2
abbrev Qo8:=l9 Qos Qot (ik Qou (gp K7 fu) (nh (cq Qov (cq UW Qo2 Qo3 Qo2 fc) Qox (gU Qo4 Xy Qo1 fc fc) (dM Xy Qoz (qz Z8 Qo0) Qo0 Qo6 Qo1 fc)) Qo7 (oR Qov Qo2) (dM Qo3 Qov Qo2 Qo2 Qo6 (oR Qov (zO Qox Xy Qo1 Qo1)) fc)))
def aeZ:=ox 650 RV 650 RV 1 Qo8 (ik (oe ei) (gp (dr 650 RV) ei) Qo8)
abbrev Qo9:=tG (mk (nm Qs))
abbrev Qpa:=tL 501 [Q1,bO,bP,ei,fg,fu,fv,fV,gN,lz,jo,.op .zh iN (cn Qo9 Qh)]
abbrev Qpb:=ln jo
abbrev Qpc:=oe fv
abbrev Qpd:=nJ gN
abbrev Qpe:=cq Qpc ib (nJ Qc) (qz Qpd ib) fc
def X0:=sp Qp (qF (l9 (oe (nm Qs)) (qB (nm Qs)) (lX (nJ (.op .EX iN Qo9)) Qpa (nm (.op .EY iN Qo9)) Q0 fc Qpa))) (dM (oe ei) (nq Qpb) fc Qpe (gp ei Qpb) fc Qpe)
abbrev Qpf:=AD qk 1759218604441
abbrev Qpg:=tG Qf
def aeY:=ng Qjp (dI Qpf 551 [Qf,qk,W]) Qpg (ju 552 []) (dI (lL Qpg) 553 [])
abbrev Qph:=lK N8
abbrev Qpi:=mG N8
abbrev Qpj:=we Qf AP Zt Qbd Zu
abbrev Qpk:=oX Qf AP Zt Qbl
abbrev Qpl:=oX Qf AP Zt Qbq
def amV:=gV uQ (oW K8 (ng (lK Zu) (iU (mG Zu) (ng Qph (dI Qpi 551 [ji Qpj AP Qpj Qo RZ N8,Qb,FW]) N8 (ju 551 [j3 Qpj AP Qpj Qo d!,Qb,FW]) (dI (lL N8) 551 [j3 Qpj AP Qpj Qo d_,Qb,FW]))) Zu (ng Qph (dI Qpi 551 [ji Qpk AP Qpk Qo RZ N8,Qb,FW]) N8 (ju 551 [j3 Qpk AP Qpk Qo d!,Qb,FW]) (dI (lL N8) 551 [j3 Qpk AP Qpk Qo d_,Qb,FW])) (iU (lL Zu) (ng Qph (dI Qpi 551 [ji Qpl AP Qpl Qo RZ N8,Qb,FW]) N8 (ju 551 [j3 Qpl AP Qpl Qo d!,Qb,FW]) (dI (lL N8) 551 [j3 Qpl AP Qpl Qo d_,Qb,FW]))))) Qj
def atK:=ou [Qh]
def atJ:=ou [Qk]
abbrev UU:=lJ gW
abbrev Qpn:=ou [eg]
abbrev Qpo:=lJ Zs
abbrev Qpp:=ou [gW]
abbrev Qpq:=lJ (.lit 11)
abbrev Z7:=ou [iQ]
abbrev Qps:=ou [wM]
abbrev Qpt:=ou [IF]
abbrev Qpu:=lJ (.lit 17)
abbrev Qpv:=ou [Ja]
abbrev Qpw:=ou [Qlf]
abbrev Qpx:=lJ (.lit 21)
abbrev Qpy:=lJ (.lit 22)
abbrev Qpz:=ou [Zs]
abbrev s5 a0 a1 a2 a3 a4 a5 a6:=dF a0 (.lit a1) a2 a3 a4 a5 a6
def aqs:=fU (wr Qf) Qk4 (jM Qol (gp Qf Qk4) (zO (nJ Qf) Qo7 ib (pn Qo3 ib UU (cq UW ib Z8 Qpn (lX Qo6 Qpn Qf Ja Qpn (cq Qo4 Qpn Qpo Qpp (cq (lJ Z9) Qpp Qpq Qpp (s5 Qf 12 Z7 Qf (.lit 13) Z7 (s5 Qf 14 Z7 Qf Qnp Qps (cq (lJ Fe) Qpt Qpu Qpv (s5 Qf 18 Qpv Qf Qmk Qpv (cq (lJ Qmt) Qpw Qpx Qpw (lX Qpy Qpz Qf Qmp Qpz (dF Qf FT Z7 Qf FQ Qps Qpt)))))))))))))) fc
abbrev Qp0:=ou [W,W]
def amU:=oU UU (ou [Qo,Q0]) Z8 [tD Qo,Q0] (cq (lJ Ja) (ou [Qmg,Q0]) Qpo Qp0 (ou [W,Q0]))
abbrev Qp1:=mH bO ib fc
abbrev Qp2:=ik Qix (gp (.lit 1048576) bO) ib
abbrev Qp3:=ik Qix (gp Fe bO) ib
abbrev re:=oe bO
abbrev Qp5:=l9 re (p9 bO) (kN (rU Qf bO) Q0 ib)
def aqr:=gF Qo Q0 Qp1 (dF Qo eg Qp1 Qo IF Qp1 (dF Qo Ja Qp1 Qo gW Qp2 (dF Qo Qlf Qp2 Qo wM Qp3 (dF Qo iQ Qp5 Qo Zs ib fc))))
abbrev Qp6:=oe fg
abbrev Qp7:=kG bP Q0
abbrev Qp8:=kG bP eg
abbrev Qp9:=tC bP
abbrev Qqa:=kG bP iQ
abbrev Qqb:=kG bP wM
abbrev Qqc:=kG bP IF
abbrev Qqd:=kG bP Ja
abbrev Qqe:=ik Qqc Qqd fc
abbrev Qqf:=oR Qp9 (ik Qqa Qqb Qqe)
abbrev Qqg:=p9 fg
abbrev Qqh:=rU Qf fg
abbrev Qqi:=[Qqh,bP,ei,fg,fu,fv,fV,gN,W]
abbrev Qqj:=gF ei Fe fc ib
abbrev Qqk:=kM 950 Qqi 950 Qqi Qqj
abbrev Qql:=kN Qqh IF ib
abbrev Qqm:=qz Qqg Qql
abbrev Qqn:=kN Qi6 Q0 ib
abbrev Qqo:=fU U1 fv fc Qqn
abbrev Qqp:=fU U1 fv fc ib
abbrev Qqq:=oR Qp9 (cq Qqa Qqo Qqb Qqp Qqe)
abbrev Qqr:=gF ei Fe Qqp ib
abbrev Qqs:=kM 950 Qqi 950 Qqi Qqr
abbrev Qqt:=gp fu DK
abbrev Qqu:=gU Qp9 Qqt Qqn fc (ik Qqa Qqb (dM Qqc Qqt ib fc Qqd (oR Qqt fc) fc))
abbrev Qqv:=[Qqh,bP,ei,fg,fu,fv,fV,gN,Q0]
abbrev Qqw:=gU Qp9 Qqt Qqn fc (cq Qqa Qqo Qqb Qqp (dM Qqc Qqt ib fc Qqd (qz Qqt Qqp) fc))
def D_:=sp Qou (dM Qpc Qp6 (ik Qp7 Qp8 Qqf) (dM Qp7 Qqg Qqk fc Qp8 Qqm Qqf) Qp6 (ik Qp7 Qp8 Qqq) (dM Qp7 Qqg Qqs fc Qp8 Qqm Qqq)) (dM Qpc Qp6 (ik Qp7 Qp8 Qqu) (dM Qp7 Qqg (sp Qqt (kM 950 Qqv 950 Qqv Qqj) Qqk) fc Qp8 Qqm Qqu) Qp6 (ik Qp7 Qp8 Qqw) (dM Qp7 Qqg (sp Qqt (kM 950 Qqv 950 Qqv Qqr) Qqs) fc Qp8 Qqm Qqw))
abbrev Qqx:Y:=.lit 1000
abbrev Qqy:List Y:=D7 [Qm,Q0,Qqx,bO]
def aqq:=ox 5050 Qqy 5050 Qqy 2 fc ib
def aqp:=ju 851 [Qf,Qb,qk,W]
abbrev Qqz:=nm UY
def aeX:=gV Qp (xE Qq Qi2 Qb Qqz (ou [Qm]) (ju 851 Qje)) [N5]
abbrev kV a0 a1 a2 a3:=mZ a0 a1 a2 fc a3
def aqo:=kV 850 yf (oe (dr 850 yf)) ib
abbrev A0:=nJ fu
abbrev Qq1:=[Qf,ln fg,Qb,Qo,Qm,bO,bP,ei,fg]
def aqj:=qA A0 (ju 951 Qq1) 952 Qq1
abbrev Qq2:=iS Qh gI gI Qh
abbrev Qq3:=[Qf,Qb,Q0,Qo,Qm,bO,bP,ei,fg,fu,Gr gI Qq2]
abbrev Qq4:=[Qf,Q0,W,W,Qm,W,W]
abbrev Qq5:=wy 1200 [Qm]
abbrev Qq6:=lJ (dr 1200 [Qm])
abbrev Qq7:=[Qf,gI]
abbrev Qq8:=wy 5150 Qq7
abbrev Qq9:=kq 5150 Qq7 2
abbrev Qra:=gF Qm Fe ib ib
abbrev tB a0:=fX Qmt a0
abbrev Qrb:=dQ Qq5 Qq6 (iU Qq8 (ik Qq9 (tB (fA 5150 Qq7)) Qra)) fc
abbrev Qrc:=kM 12400 Qq4 12400 Qq4 (iU (kX 12400 Qq4 0) Qrb)
abbrev Qrd:=[W,W,Qf,W,W,W,Qm,W,W]
abbrev Qre:=wy 5200 Qq7
abbrev Qrf:=kq 5200 Qq7 3
abbrev Qrg:=[Qf,W,W,W,Qm,W,W]
abbrev Qrh:=cq UU Qrc Qo4 Qrc (cq Z8 Qrc UW (kM 12450 Qrd 12450 Qrd (lh (kX 12450 Qrd 0) Qq5 Qq6 (iU Qre (ik Qrf (tB (rr 5200 Qq7 2)) Qra)) fc)) (kM 12400 Qrg 12400 Qrg (iU (kX 12400 Qrg 0) Qrb)))
abbrev Qri:=fj 12500 Qq4
abbrev Qrj:=kX 12500 Qq4 0
abbrev tK a0 a1:=Y.eW (qpx a0 a1)
abbrev Qrk:=tK 97 ow
abbrev Qrl:=cn Qrk Qh
abbrev Qrm:=tB (.op .zh (fA 5150 Qq7) Qrl)
abbrev Qrn:=dQ Qq5 Qq6 (dQ Qq8 Qq9 fc (lX Qrm fc Qm Fe fc fc)) fc
abbrev Qro:=kV 12500 Qq4 Qri (iU Qrj Qrn)
abbrev Qrp:=fj 12550 Qrd
abbrev Qrq:=kX 12550 Qrd 0
abbrev Qrr:=tB (.op .zh (rr 5200 Qq7 2) Qrl)
abbrev Qrs:=fj 12500 Qrg
abbrev Qrt:=kX 12500 Qrg 0
def aeW:=lX Qjo (ju 953 Qq3) bP N5 Qrh (cq UU Qro Qo4 Qro (cq Z8 Qro UW (kV 12550 Qrd Qrp (lh Qrq Qq5 Qq6 (dQ Qre Qrf fc (lX Qrr fc Qm Fe fc fc)) fc)) (kV 12500 Qrg Qrs (iU Qrt Qrn))))
abbrev Qru:=dQ Qq5 Qq6 (iU Qq8 (ik Qq9 Qrm Qra)) fc
abbrev Qrv:=kV 12500 Qq4 Qri (iU Qrj Qru)
def aeV:=lX Qjo (ju 954 Qq3) bP N5 Qrh (cq UU Qrv Qo4 Qrv (cq Z8 Qrv UW (kV 12550 Qrd Qrp (lh Qrq Qq5 Qq6 (iU Qre (ik Qrf Qrr Qra)) fc)) (kV 12500 Qrg Qrs (iU Qrt Qru))))
abbrev Qrw:=nG fV (.lit 2513169434915)
abbrev zA (l:List Y):=Qm::bO::bP::l
abbrev Qrx:List Y:=pf (zA [ei,fg,fu,fv,Gr fV Qq2])
abbrev Qry:=[Qf,Q0,W,W,bO,W,fV,W]
abbrev Qrz:=wy 1200 [bO]
abbrev Qr0:=lJ (dr 1200 [bO])
abbrev Qr1:=[rr 12600 Qry 9,rr 12600 Qry 10,Qf,gI]
abbrev Qr2:=sp Qnv ib ib
abbrev Qr3:=kM 12600 Qry 12600 Qry (lh (kX 12600 Qry 0) Qrz Qr0 (nZ 5300 Qr1 (ik (kq 5300 Qr1 3) (tB (rr 5300 Qr1 2)) Qr2)) fc)
abbrev Qr4:=[W,W,Qf,W,W,W,bO,W,fV,W]
abbrev Qr5:=[rr 12650 Qr4 11,rr 12650 Qr4 12,Qf,gI]
abbrev Qr6:=[Qf,W,W,W,bO,W,fV,W]
abbrev Qr7:=[rr 12600 Qr6 9,rr 12600 Qr6 10,Qf,gI]
abbrev Qr8:=cq UU Qr3 Qo4 Qr3 (cq Z8 Qr3 UW (kM 12650 Qr4 12650 Qr4 (lh (kX 12650 Qr4 0) Qrz Qr0 (nZ 5350 Qr5 (ik (kq 5350 Qr5 4) (tB (rr 5350 Qr5 3)) Qr2)) fc)) (kM 12600 Qr6 12600 Qr6 (lh (kX 12600 Qr6 0) Qrz Qr0 (nZ 5300 Qr7 (ik (kq 5300 Qr7 3) (tB (rr 5300 Qr7 2)) Qr2)) fc)))
abbrev Qr9:=fj 12700 Qry
abbrev Qsa:=kX 12700 Qry 0
abbrev Qsb:=[rr 12700 Qry 9,rr 12700 Qry 10,Qf,gI]
abbrev Qsc:=kq 5300 Qsb 3
abbrev Qsd:=tB (.op .zh (rr 5300 Qsb 2) Qrl)
abbrev Qse:=oR Qnv fc
abbrev Qsf:=kV 12700 Qry Qr9 (lh Qsa Qrz Qr0 (nZ 5300 Qsb (ik Qsc Qsd Qse)) fc)
abbrev Qsg:=fj 12750 Qr4
abbrev Qsh:=kX 12750 Qr4 0
abbrev Qsi:=[rr 12750 Qr4 11,rr 12750 Qr4 12,Qf,gI]
abbrev Qsj:=kq 5350 Qsi 4
abbrev Qsk:=tB (.op .zh (rr 5350 Qsi 3) Qrl)
abbrev Qsl:=fj 12700 Qr6
abbrev Qsm:=kX 12700 Qr6 0
abbrev Qsn:=[rr 12700 Qr6 9,rr 12700 Qr6 10,Qf,gI]
abbrev Qso:=kq 5300 Qsn 3
abbrev Qsp:=tB (.op .zh (rr 5300 Qsn 2) Qrl)
def OB:=lX uQ (dI Qrw 953 Qrx) ei N5 Qr8 (cq UU Qsf Qo4 Qsf (cq Z8 Qsf UW (kV 12750 Qr4 Qsg (lh Qsh Qrz Qr0 (nZ 5350 Qsi (ik Qsj Qsk Qse)) fc)) (kV 12700 Qr6 Qsl (lh Qsm Qrz Qr0 (nZ 5300 Qsn (ik Qso Qsp Qse)) fc))))
abbrev Qsq:=kV 12700 Qry Qr9 (lh Qsa Qrz Qr0 (nZ 5300 Qsb (ik Qsc Qsd Qr2)) fc)
def OA:=lX uQ (dI Qrw 954 Qrx) ei N5 Qr8 (cq UU Qsq Qo4 Qsq (cq Z8 Qsq UW (kV 12750 Qr4 Qsg (lh Qsh Qrz Qr0 (nZ 5350 Qsi (ik Qsj Qsk Qr2)) fc)) (kV 12700 Qr6 Qsl (lh Qsm Qrz Qr0 (nZ 5300 Qsn (ik Qso Qsp Qr2)) fc))))
abbrev Z6:=[Qf,W]
def ajy:=ox 1050 Z6 1050 Z6 6 (kN (dr 1050 Z6) eg (kN (BQ (rr 1050 Z6 5) (rr 1050 Z6 4)) qk ib)) fc
abbrev VF (l:List Y):=W::gI::W::W::W::W::l
abbrev Qss:=ou (VF [gW,W])
abbrev Qst:=ou (VF [eg,W])
abbrev UT:=rr 12800 yf 3
abbrev Qsv:=kO (PL .cnt .sub Qf (tA gI (mk UT) gI) Z9)
abbrev Qsw:=rr 12850 [Qf,UT] 3
abbrev Z5:Y:=.op .sub Qf (tA (mk UT) (mk Qsw) gI)
abbrev Qsy:=jJ Z5 W
abbrev Qsz:Y:=.lit 256
abbrev AB a0 a1:=jJ (.eW a0) a1
abbrev Qs0:=AB b0 Qsy
abbrev Qs1:=ou (VF [.lit 100,Qsv])
abbrev Qs2:=tK 32 ow
abbrev Qs3:=kG (tG Z5) (tK 61 ow)
def Vv:=vy 16384 qk Qss (cq Jb Qst (rR qk) Qst (lj 12800 yf 12800 yf (px UT (gp qk UT) (gF UT qk (ou [wM,gI,W,Qsv,UT,UT,W,W]) (lj 12850 [Qf,UT] 12850 [Qf,UT] (rD (gp Qsw UT) (jM (gp qk Qsw) (lK Z5) (xE (oe Qsy) (gp Qsy Qsz) Qs0 gW (ox 1100 [Z5] 1100 [Z5] 1 Qs1 (ou [Q0,gI,dr 1100 [Z5],Qsv,UT,Qsw,W,W])) (dF Qs0 iQ (iR (nG Z5 (.lit 1000000000)) (nG (.op .cat Qs2 Z5) (.lit 1000000000)) (dM (nJ (.op .con (.eW b1) (PL .cat .cat Qs2 Z5 Qs2))) Qs3 Qs1 (ou [eg,Z5,W,Qsv,UT,Qsw,W,W]) Qs3 Qs1 (ou [gW,Z5,W,Qsv,UT,Qsw,W,W]))) Qs0 wM (gV Qs3 Qs1 [iQ,Z5,W,Qsv,UT,Qsw,W,W]) Qs1)))))))))
def ajx:=mH qk (ju 1101 []) (ju 1102 [W,Qf,qk,W])
def aqI:=ou [W,Q0]
abbrev Qs4:=wr (.wrap .u8 (.sub (nm Qs) (.lit 48)))
def V':=gV Qp (ot Qq Qr (qB (wr (.quo (BQ (.lit 9223372036854775807) Qs4) Z9))) Qp0 (ju 1102 [nI (wr (.mul Qf Z9)) Qs4,Qb,Qo,Q1])) [Qf,Q0]
abbrev Qs5:=fj 1000 [Qb]
abbrev Qs6:=tD DK
abbrev Qs7:=tK 45 ow
abbrev Qs8:=kG Qg Qs7
abbrev Qs9:=tK 43 ow
abbrev Qta:=tK 42 ow
abbrev BO a0 a1 a2:=qpx a0 (qpx a1 a2)
abbrev Qtb:Y:=.eW (BO 61 61 ow)
abbrev Qtc:=tK 60 ow
def ajw:=sp Qo7 (lX Zz fc Qg gI (mH DK ib fc) fc) (dM Qo3 (nJ Qo) (mH DK (kV 1000 [Qb] Qs5 ib) fc) fc UU (mH Qo (ik (gp DK Q0) (gp eg DK) (qH Qs6 (gp Qs6 eg) (lX (nJ Qs6) (qz Qs8 ib) Qg Qs9 ib (lX Qs8 ib Qg Qta ib (dF Qg Qtb ib Qg Qtc ib fc))))) fc) fc)
def ajv:=fU iQ Qf (fU Qlf Qf (vy 11 Qf (vy 14 Qf (gF Qf Qnp Qps (cq (lJ Fe) Qpt (qB Qmk) (vy 21 Qf Qpz Qpw) Qpv)) Z7) Qpp) Qpn) ib
def aju:=pn UW ib Qpu (dF Qf Qmt ib Qf Qmp ib fc)
def ajt:=sp UU ib (pn UW ib Qpq (pn Qpx ib Qpy fc))
def ajs:=pn UU ib Z8 (pn Qo4 ib Qpo fc)
abbrev Qtd:=tG Qm
abbrev Qte:=lX UW (kM 1000 [Qm] 1000 [Qm] ib) Qtd gI ib fc
def Vu:=ik (gp Qf Q0) (qB Zs) (kV 1000 [Qb] Qs5 (zO Zz (nq Qo) (kM 1350 Qj 1350 Qj Qte) Qte))
def R_:=dQ Qjl Qjm (nZ 300 yf (ju 1451 [Qb,Qc,dr 300 yf])) (ou [Qh,Qh,dr 450 yf])
abbrev Qtf:=ln (ga N7)
abbrev Qtg:=nj gI Qk Qga
def Vt:=gV Qjo (dQ Qjp (nJ Qtf) (ju 1452 [Qf,Qb,Q0,Qo,Qtg]) (dI (gp Qtf Qv) 1452 [Qf,Qb,Q0,Qo,nj gI (rpx Qtf gI) Qga])) [Qo,Qh,W]
abbrev Qth:=AD U1 2199023255551
abbrev Qti:=qb bO gI Qk Qga
abbrev Qtj:=ou [Qm,bO,W]
def Vs:=sp uQ (ot Zz K8 (pA Rv) (jz Qth 1452 [Qm,Qti]) (iU (mG Rv) (jz Qth 1452 [Qm,qb bO gI (rpx (ln Rv) gI) Qga]))) Qtj
def ajr:=iU Qkc (lX Qkd fc DK Qc (ju 1501 [Qm,DK,W,Qf,Qb]) fc)
abbrev Qtk:=[Qm,bO,ce 0 Qdl,Qdm,ce 2 Qdl,XD,Rv,Qj0,nm Qj3,nm Zu,nm N8]
def Q?:=sp uQ (oW K8 (iU c_ (kM 1600 Qtk 1600 Qtk (rT 1501 [Qm,bO])))) ib
abbrev tW:=gp bO Qc
abbrev Zq:List Y:=D7 [Qm]
abbrev Qtn:=fj 1500 Zq
def ajq:=l9 re tW (kV 1500 Zq Qtn ib)
def ajp:=oR IS (lX (gp U1 bP) fc Zv DK (oR (oe fV) (zO (gp K7 fV) Xy (gU A0 (nJ fv) ib fc fc) (dF fg FT (l9 Qou (p9 fu) (kN (rU Qf fu) iQ ib)) fg FQ (l9 Qou (p9 fu) (kN (rU Qf fu) wM ib)) fc))) fc)
abbrev Qto:=gp bO DK
abbrev Qtp:=el Qm bO
abbrev Qtq:=gT Qtp
abbrev Qtr:=nJ Qtq
abbrev Qts:=eV Qtp
abbrev Qtt:=ce 2 (el Qb bO)
abbrev Zp:=ln Qtt
abbrev Qtv:=kN Qts Zp ib
def ajo:=ot re Qto Qtr (iU tW Qtv) fc
abbrev AZ:=wy 1550 RV
abbrev AY:=fj 1550 RV
abbrev Qty:=fj 1650 RV
def Q!:=dQ AZ AY fc (kV 1650 RV Qty ib)
abbrev Qtz:=el Qtt Qts
abbrev Qt0:=kG (eV Qtz) Q0
abbrev Qt1:=Pf 5 Qtp
abbrev Qt2:=ku Qtz
abbrev Qt3:=gT Qtz
abbrev Qt4:=ou [W,W,W,W,W]
abbrev Qt5:=gF (eV Qtz) eg (ou [.lit 26,Qt3,W,W,Q0]) Qt4
abbrev Qt6:=ou [Qtq,iE Qtp,kr Qtp,W,Q0]
abbrev rQ a0:=gp a0 Zp
def Jq:=ot re Qto Qtr (mZ 1650 RV Qty (iU tW (ot (oe Qts) (rQ Qts) Qt0 (ju 1751 [jL Qtz,ln (jL Qtz),W,Qts,ga Qtp,Qtq,iE Qtp,kr Qtp,Qt1,Qt2,Qt3,W]) Qt5)) Qt4) Qt6
def Q':=gV uQ (oW K8 (nZ 1950 [XD,Rv,Qj0,Qj3,bO] (rT 1751 (zA [ei,fg,fu,fv,fV,dr 1950 [XD,Rv,Qj0,Qj3,bO]])))) [fv,fV,gN,fu,Q0]
abbrev ajE (l:List Y):=(rr 1750 RV 0)::(rr 1750 RV 1)::(rr 1750 RV 2)::(rr 1750 RV 3)::l
def Q_:=dQ AZ AY Qt4 (ox 1750 RV 1750 RV 4 (ou (ajE [W])) (ou (ajE [Q0])))
abbrev kT:=[bO,Qo,Qm]
abbrev kS:=dr 9050 kT
abbrev wq:=rr 9050 kT 2
abbrev NQ:=rr 9050 kT 3
abbrev Qub:=[Qf,Qb,wq,NQ,bO]
abbrev Quc:=[Qf,Qb,wq,Qh,bO]
abbrev Qud:=[Qf,Qb,wq,Qk,bO]
abbrev wj:=mk bO
abbrev Quf:=rr 9050 kT 4
abbrev Qug:=rr 9050 kT 5
abbrev Quh:=rr 9050 kT 6
abbrev Qui:=rr 9050 kT 7
abbrev Quj:=rr 9050 kT 8
abbrev Quk:=rr 9050 kT 9
abbrev Qul:=oB (mk Quh) Qui (mk Quj) (mk Quk)
abbrev pk a0 a1 a2 a3:=uJ a0 wj a1 a2 a3
abbrev Qum:=pk NQ (mk Quf) Qug Qul
abbrev Qun:=ou [wq,Qum,W,W,W,W,W,W]
abbrev K6:=[Qf,Qb,wq,Qum,bO]
abbrev Qup:=fj 1650 K6
abbrev Quq:=kq 1750 K6 4
abbrev Xx:=[Qf,Qb,bO,wq,NQ,Quf,Qug,Quh,Qui,Quj,Quk]
abbrev oL:=[Qf,Qb,bO,dr 1750 K6,fA 1750 K6,rr 1750 K6 2,rr 1750 K6 3,wq,NQ,Quf,Qug,Quh,Qui,Quj,Quk]
abbrev Qut:=ou [wq,Qum,W,W,W,W,W,iQ]
abbrev qK a0 a1:=rr 14500 a0 a1
abbrev vx a0 a1:=rr 14550 a0 a1
abbrev rO a0 a1:=nH 14500 a0 a1
abbrev rN a0 a1:=nH 14550 a0 a1
def DU:=nZ 9050 kT (lX (nJ kS) (rP AZ AY [wq,NQ,W,W,W,W,W,W] (gM 1650 Qub 1650 Qub (zM 1750 Qub (kq 1750 Qub 4) fl) (ou [wq,NQ,W,W,W,W,W,iQ]))) kS Q0 (rP AZ AY [wq,Qh,W,W,W,W,W,W] (gM 1650 Quc 1650 Quc (zM 1750 Quc (kq 1750 Quc 4) fl) (ou [wq,Qh,W,W,W,W,W,iQ]))) (dF kS eg (rP AZ AY [wq,Qk,W,W,W,W,W,W] (gM 1650 Qud 1650 Qud (zM 1750 Qud (kq 1750 Qud 4) fl) (ou [wq,Qk,W,W,W,W,W,iQ]))) kS gW (dQ AZ AY Qun (mZ 1650 K6 Qup (mZ 1750 K6 Quq (lj 14000 Xx 14000 Xx (ou [wq,pk NQ (nH 14000 Xx 12) (rr 14000 Xx 13) Qul,W,W,W,W,W,Q0])) (lj 14500 oL 14500 oL (ou [qK oL 22,pk NQ (rO oL 23) (qK oL 24) (iS (rO oL 25) (rO oL 26) (rO oL 27) (rO oL 28)),qK oL 16,qK oL 17,qK oL 18,qK oL 19,qK oL 20,qK oL 21]))) Qut)) (lh (kG kS iQ) AZ AY Qun (mZ 1650 K6 Qup (mZ 1750 K6 Quq (lj 14050 Xx 14050 Xx (ou [wq,pk NQ (nH 14050 Xx 12) Qug Qul,W,W,W,W,W,Q0])) (lj 14550 oL 14550 oL (ou [vx oL 22,pk NQ (rN oL 23) Qug (iS (rN oL 24) (rN oL 25) (rN oL 26) (rN oL 27)),vx oL 16,vx oL 17,vx oL 18,vx oL 19,vx oL 20,vx oL 21]))) Qut))))
abbrev Quu:=AD Qc 2199023255552
abbrev Quv:=[qk,W,Qf]
def zw:=ng Qjp (jy Qpf Qd (dI Quu 1901 [qk,W,Qf,Qb]) Qi 1902 Quv (dI Ql 1903 Quv)) Qpg (im Qd (dI Quu 1904 [Qb]) Qi 1905 [] (dI Ql 1906 [])) (jy (lL Qpg) Qd (dI Quu 1907 [Qb]) Qi 1908 [] (dI Ql 1909 []))
abbrev Quw:=qB Qb
abbrev Qux:=gp Qb Qcl
abbrev Z4:=el Qo Qb
abbrev Quz:=ce 4 Z4
abbrev Qu0:=lK Quz
abbrev Qu1:=mG Quz
abbrev Qu2:=ce 5 Z4
abbrev Qu3:=lK Qu2
abbrev Qu4:=mG Qu2
abbrev IE:=mk Qb
abbrev Qu6:=we Qo IE Z4 Qbd Quz
abbrev Qu7:=ji Qu6 IE Qu6 Qb RZ Qu2
abbrev Qu8:=kG Qu2 Qh
abbrev Qu9:=j3 Qu6 IE Qu6 Qb d!
abbrev Qva:=lL Qu2
abbrev Qvb:=j3 Qu6 IE Qu6 Qb d_
abbrev Qvc:=oX Qo IE Z4 Qbl
abbrev Qvd:=ji Qvc IE Qvc Qb RZ Qu2
abbrev Qve:=j3 Qvc IE Qvc Qb d!
abbrev Qvf:=j3 Qvc IE Qvc Qb d_
abbrev Qvg:=oX Qo IE Z4 Qbq
abbrev Qvh:=ji Qvg IE Qvg Qb RZ Qu2
abbrev Qvi:=j3 Qvg IE Qvg Qb d!
abbrev Qvj:=j3 Qvg IE Qvg Qb d_
def P?:=qA Quw (jM Jb Qux (ng Qu0 (jy Qu1 Qu3 (dI Qu4 1901 [Qf,pR,Qu7,Qm]) Qu8 1901 [Qf,pR,Qu9,Qm] (dI Qva 1901 [Qf,pR,Qvb,Qm])) Quz (im Qu3 (dI Qu4 1901 [Qf,pR,Qvd,Qm]) Qu8 1901 [Qf,pR,Qve,Qm] (dI Qva 1901 [Qf,pR,Qvf,Qm])) (jy (lL Quz) Qu3 (dI Qu4 1901 [Qf,pR,Qvh,Qm]) Qu8 1901 [Qf,pR,Qvi,Qm] (dI Qva 1901 [Qf,pR,Qvj,Qm])))) 1910 [DK,W,Qo,Qm]
def P!:=qA Quw (jM Jb Qux (ng Qu0 (jy Qu1 Qu3 (dI Qu4 1902 [Qf,pR,Qu7]) Qu8 1902 [Qf,pR,Qu9] (dI Qva 1902 [Qf,pR,Qvb])) Quz (im Qu3 (dI Qu4 1902 [Qf,pR,Qvd]) Qu8 1902 [Qf,pR,Qve] (dI Qva 1902 [Qf,pR,Qvf])) (jy (lL Quz) Qu3 (dI Qu4 1902 [Qf,pR,Qvh]) Qu8 1902 [Qf,pR,Qvi] (dI Qva 1902 [Qf,pR,Qvj])))) 1911 [Qo]
def P_:=qA Quw (jM Jb Qux (ng Qu0 (jy Qu1 Qu3 (dI Qu4 1903 [Qf,pR,Qu7]) Qu8 1903 [Qf,pR,Qu9] (dI Qva 1903 [Qf,pR,Qvb])) Quz (im Qu3 (dI Qu4 1903 [Qf,pR,Qvd]) Qu8 1903 [Qf,pR,Qve] (dI Qva 1903 [Qf,pR,Qvf])) (jy (lL Quz) Qu3 (dI Qu4 1903 [Qf,pR,Qvh]) Qu8 1903 [Qf,pR,Qvi] (dI Qva 1903 [Qf,pR,Qvj])))) 1912 [Qo]
def ajn:=ju 1913 Quv
def aqH:=ju 1914 []
def aqG:=ju 1915 []
def ajm:=ju 1916 Quv
def aqF:=ju 1917 []
def aqE:=ju 1918 []
def O?:=gV Quw (jM Jb Qgj (ng (lK Qgm) (dI Qgz 1910 [Qf,pR,Qo,we Qm IE Qgl Qh Qgm]) Qgm (ju 1910 [Qf,pR,Qo,oX Qm IE Qgl Qdy]) (dI (lL Qgm) 1910 [Qf,pR,Qo,oX Qm IE Qgl Qd0]))) [Qo,Qm]
def aqD:=ou [Qf,Qh]
def aqC:=ou [Qf,Qk]
abbrev UR:=ga Z4
abbrev Qvl:=[Qf,pR,we Qo IE Z4 Qh UR]
abbrev Qvm:=[Qf,pR,oX Qo IE Z4 Qdy]
abbrev Qvn:=[Qf,pR,oX Qo IE Z4 Qd0]
def O!:=gV Quw (jM Jb Qux (ng (lK UR) (dI (mG UR) 1913 Qvl) UR (ju 1913 Qvm) (dI (lL UR) 1913 Qvn))) [Qh,Qo]
def ajl:=ou [Qh,Qh]
def ajk:=ou [Qh,Qk]
def O':=gV Quw (jM Jb Qux (ng (lK UR) (dI (mG UR) 1916 Qvl) UR (ju 1916 Qvm) (dI (lL UR) 1916 Qvn))) [Qk,Qo]
def ajj:=ou [Qk,Qh]
def aji:=ou [Qk,Qk]
abbrev Qvo:=l9 Zz c_ (ou [nm Qdl])
abbrev Qvp:=tE Qm
abbrev Qvq:=[eV Qvp,ga Qvp,gT Qvp,jK Qvp,bO]
abbrev Qvr:=dr 1950 Qvq
abbrev Qvs:=el Qm Q0
abbrev Qvt:=[eV Qvs,ga Qvs,gT Qvs,jK Qvs,bO]
abbrev Qvu:=dr 1950 Qvt
abbrev Qvv:Y:=.op .zh (PL .zh .zh gI (cn Qs9 (mk (nI Qvr Qvu))) (cn Qs7 (mk (BQ Qvr Qvu)))) (cn Qta (mk (wr (.mul Qvr Qvu))))
abbrev Qvw:=gV (nJ (.op .EX Qvv Qg)) fc [nm (.op .EY Qvv Qg)]
def zu:=mb Qo7 [Qo] (cq Qo3 Qvo UU (dF DK Q0 (qz Qs8 (qG 1950 Qvq [BQ W Qvr])) DK eg (nZ 1950 Qvq (nZ 1950 Qvt (dF Qg Qtb (gF Qvr Qvu ib Qvw) Qg Qtc (fU Qvr Qvu ib Qvw) Qvw))) fc) fc)
abbrev Qvx:=[bO,Qf,Qb,Qo,Qm,bP,ei,fg,fu,wq]
abbrev Qvy:=[bO,W,Qf,Qb,Qo,Qm,bP,ei,fg,fu,wq,NQ,Quf,Qug,Quh,Qui,Quj,Quk]
def Gi:=nZ 9050 kT (lX (nJ kS) (rP AZ AY [wq,NQ,W] (ju 2001 [bO,Qf,Qb,Qo,Qm,bP,ei,fg,fu,wq,NQ])) kS Q0 (rP AZ AY [wq,Qh,W] (ju 2002 Qvx)) (dF kS eg (rP AZ AY [wq,Qk,W] (ju 2003 Qvx)) kS gW (rP AZ AY [wq,Qum,W] (ju 2004 Qvy)) (lh (kG kS iQ) AZ AY (ou [wq,Qum,W]) (ju 2005 Qvy))))
abbrev Qvz:=[Qb,Qo,fv,fV,Qf]
abbrev Qv0:=iR Qqa Xy fl
abbrev uS:=[Qm,bO]
abbrev Qv2:=qG 1900 uS [dr 1900 uS,fA 1900 uS,W]
def aqB:=gM 1650 Qvz 1650 Qvz (nZ 1750 Qvz (rD (kq 1750 Qvz 4) Qv0)) Qv2
abbrev Qv3:=[Qb,Qo,fv,Qh,Qf]
def aqA:=gM 1650 Qv3 1650 Qv3 (nZ 1750 Qv3 (rD (kq 1750 Qv3 4) Qv0)) Qv2
abbrev Qv4:=[Qb,Qo,fv,Qk,Qf]
def aqz:=gM 1650 Qv4 1650 Qv4 (nZ 1750 Qv4 (rD (kq 1750 Qv4 4) Qv0)) Qv2
abbrev Z3:=qG 1900 [bO,bP] [dr 1900 [bO,bP],fA 1900 [bO,bP],W]
abbrev US:=mk lz
abbrev Qv7:=oB (mk iN) sN (mk UX) (mk Rx)
abbrev qS:=[Qo,Qm,fV,uJ gN (mk Qf) US jo Qv7,Qf]
abbrev ID:=fj 1650 qS
abbrev IQ:=kq 1750 qS 4
abbrev Xw:=[Qo,Qm,Qf,fV,gN,lz,jo,iN,sN,UX,Rx]
abbrev ye:=kG ei iQ
abbrev ajD (l:List Y):=Qo::Qm::Qf::(rr 1750 qS 0)::(rr 1750 qS 1)::(rr 1750 qS 2)::l
abbrev j6:List Y:=ajD [K7,fV,gN,lz,jo,iN,sN,UX,Rx]
abbrev fN:List Y:=ajD [W,fV,gN,lz,jo,iN,sN,UX,Rx]
abbrev asn a0 a1 a2:=SB.and a0 (.and a1 a2)
abbrev og a0 a1 a2 a3 a4 a5:=asn (gE a0 a1 a2 a3) a4 a5
abbrev Qwf:=lj 14500 fN 14500 fN (oU (kq 14500 fN 21) Z3 (og 14500 fN 16 Qf (gE 14500 fN 17 ei) (og 14500 fN 18 fg (gE 14500 fN 19 fu) (gE 14500 fN 20 fv))) [qK fN 22,uJ gN (mk Qf) (rO fN 23) (qK fN 24) (iS (rO fN 25) (rO fN 26) (rO fN 27) (rO fN 28)),Q0] Z3)
def OG:=vy 20000 Qb Z3 (mZ 1650 qS ID (nZ 1750 qS (cq IQ (nZ 14000 Xw (tJ (fj 14000 Xw) 2004 [bP,ei,fg,fu,fv,fV,gN,rr 14000 Xw 12,rr 14000 Xw 13,iN,sN,UX,Rx])) ye (sp A0 (lj 14500 j6 14500 j6 (oU (kq 14500 j6 21) Z3 (og 14500 j6 16 Qf (gE 14500 j6 17 ei) (og 14500 j6 18 fg (gE 14500 j6 19 fu) (gE 14500 j6 20 fv))) [qK j6 22,uJ gN (mk Qf) (rO j6 23) (qK j6 24) (iS (rO j6 25) (rO j6 26) (rO j6 27) (rO j6 28)),Q0] Z3)) Qwf) Qwf)) Z3)
abbrev Qwg:=lj 14550 fN 14550 fN (oU (kq 14550 fN 21) Z3 (og 14550 fN 16 Qf (gE 14550 fN 17 ei) (og 14550 fN 18 fg (gE 14550 fN 19 fu) (gE 14550 fN 20 fv))) [vx fN 22,uJ gN (mk Qf) (rN fN 23) jo (iS (rN fN 24) (rN fN 25) (rN fN 26) (rN fN 27)),Q0] Z3)
def OF:=vy 20000 Qb Z3 (mZ 1650 qS ID (nZ 1750 qS (cq IQ (nZ 14050 Xw (tJ (fj 14050 Xw) 2005 [bP,ei,fg,fu,fv,fV,gN,rr 14050 Xw 12,jo,iN,sN,UX,Rx])) ye (sp A0 (lj 14550 j6 14550 j6 (oU (kq 14550 j6 21) Z3 (og 14550 j6 16 Qf (gE 14550 j6 17 ei) (og 14550 j6 18 fg (gE 14550 j6 19 fu) (gE 14550 j6 20 fv))) [vx j6 22,uJ gN (mk Qf) (rN j6 23) jo (iS (rN j6 24) (rN j6 25) (rN j6 26) (rN j6 27)),Q0] Z3)) Qwg) Qwg)) Z3)
def ajh:=nZ 200 [Qf,Qo] (lX (fj 200 [Qf,Qo]) fc Qc DK (ju 2051 [Qc,W,Qf,Qb,Qo,Qm]) fc)
abbrev Qwh:=eV Rw
abbrev Qwi:=gT Rw
def N':=sp Quw (jM Jb Qgj (dQ (gp Qb XI) (kG Qgs Qwh) (kN Qgt Qwi (kN Qgu (iE Rw) (kN Qgv (kr Rw) (kN Qgw (Pf 5 Rw) (kN (ln Qgm) (ln (ga Rw)) (ju 2052 [Qf,Qb,ln Qgm,W,Qo,Qm,bO,bP,Qgs,Qgm,Qgt,Qgu,Qgv,Qgw,Qwh,ga Rw,Qwi,iE Rw,kr Rw,Pf 5 Rw])))))) fc)) ib
def N_:=qA Qp (TN (fX Qm fv) (dQ (fX Qm sN) (kG (jJ fv Qm) (jJ sN Qm)) (tL 2052 [Q1,bO,bP,ei,fg,fu,fv,fV,gN,lz,jo,iN,sN,UX,Rx,.dN 18,.dN 19]) fc)) 2051 [Qf,pR,bO,bP,ei,fg]
def ajg:=ju 3801 [Qf,qk,qk,W]
def K?:=pn Qp (rD Qq (dI Qi2 3801 [Qf,nI Qb (nI (ln (ce 4 UY)) Qi5),Qo,Q1])) (rR (.lit 3000)) fc
abbrev Qwj:=wy 4050 yf
abbrev Qwk:=fj 4050 yf
def Vr:=dQ Qwj Qwk (ju 3851 yf) Qjn
abbrev Qwl:=ju 3852 [Qjt,Q0,Qf,Qb]
def K!:=sp Qjp (dF Qjr gW Qwl Qjr Zs Qwl (ju 3852 [Qjw,Q0,Qf,Qb])) Qjn
abbrev Qwm:=eV Z4
abbrev Qwn:=gT Z4
abbrev Qwo:=dI Qjx 3852 [qb Qf EN (mk Qwn) Qe5,pR,Qo,Qm]
def K':=gV Qux (qD (dF Qwm gW Qwo Qwm Zs Qwo (dI Qjx 3852 [Qjz,pR,Qo,Qm]))) Qj
def ajf:=dQ Qwj Qwk (kN Qcl qk (ju 3901 [Qo,W,Qf,Qb])) fc
abbrev Qwp:=p9 Qb
abbrev Z2:=el Qf Qb
abbrev Qwr:=jK Z4
abbrev Qws:=[Qwm,UR,Qwn,Qwr,nm Quz,eV Z2,ku Z2,W,iE Z2,ce 4 Z2,ce 5 Z2,DK]
abbrev Qwt:=ju 3901 [Qf,pR,Qo,Qm]
abbrev Qwu:=[Qwm,UR,Qwn,Qwr,nm Quz,eV Z2,ku Z2,Q0,iE Z2,ce 4 Z2,ce 5 Z2,DK]
def Vq:=sp Qwp (ot Jb Qux (nJ (gT Z2)) (kM 4100 Qws 4100 Qws Qwt) (kM 4100 Qwu 4100 Qwu Qwt)) ib
def aje:=ju 3951 Qj
abbrev Qwv:=pA (ce 5 N7)
abbrev Qww:=oh 1 N7
abbrev Qwx:Y:=.op .bit (oh 2 N7) W
abbrev Qwy:=oh 3 N7
abbrev Qwz:=mG (ce 5 N7)
def K_:=sp Qjp (gU (pA (ce 4 N7)) Qwv (ju 3952 [Qf,Gr gI (vv (mk Qjr) Qww Qwx Qwy Qff),Q0]) (dI Qwz 3952 [Qf,nj (mk Qjr) Qww (iS Qwx Qwy Qk (ce 5 N7)),Q0]) (dQ (mG (ce 4 N7)) Qwv (ju 3952 [Qf,Gr gI (cn (mk Qjr) (vv Qww Qwx Qwy (ce 4 N7) U0)),Q0]) (dI Qwz 3952 [Qf,nj (mk Qjr) Qww (iS Qwx Qwy (ce 4 N7) (ce 5 N7)),Q0]))) Qjn
abbrev Qw0:=gp Qc Qfi
abbrev Qw1:=mk (nm Rv)
abbrev Qw2:Y:=.op .bit (mk Qj0) W
abbrev Qw3:=mk (nm Qj3)
def J?:=sp K8 (np (gU (pA Zu) (pA N8) (dI Qw0 3952 [Qf,Gr Qb (vv (mk XD) Qw1 Qw2 Qw3 Qff),FW]) (iU Qpi (dI Qw0 3952 [Qf,qb Qb (mk XD) Qw1 (iS Qw2 Qw3 Qk N8),FW])) (dQ (mG Zu) (pA N8) (dI Qw0 3952 [Qf,Gr Qb (cn (mk XD) (vv Qw1 Qw2 Qw3 Zu U0)),FW]) (iU Qpi (dI Qw0 3952 [Qf,qb Qb (mk XD) Qw1 (iS Qw2 Qw3 Zu N8),FW]))))) Qiz
abbrev Qw4:=dr 9100 Qj9
abbrev Qw5:=wy 3900 Qkb
abbrev Qw6:=fj 3900 Qkb
abbrev Qw7:=wy 4150 [bO]
abbrev Qw8:=gE 4150 [bO] 0 (rU Qf bP)
abbrev wG:=pr 9100 2
abbrev Qxa:=pr 9100 3
abbrev Fc:=mk Qxa
abbrev Z0:=pr 9100 4
abbrev wL:=mk Z0
abbrev Cu:Y:=.op .bit (nH 9100 Qj9 5) W
abbrev ZZ:=pr 9100 6
abbrev DJ:=mk ZZ
abbrev Qxh:=tA Cu DJ Qff
abbrev Qxi:=cn b! (tA Fc wL Qxh)
abbrev Qxj:=stx wG Qxi
abbrev Qxk:=ou [Qxj,W,W,W,W,W,W]
abbrev Qxl:=fX bP wG
abbrev Qxm:=wy 4400 [Qm,Qk]
abbrev UQ:=kG Qxa Qm
abbrev qL:=qG 3950 [Qo] [dr 3950 [Qo],Qm,Qk4,bP,wr bO,W,eg]
abbrev FP:=kG Qxa N5
abbrev BP a0 a1 a2:=xF wG a0 a1 a2
abbrev Qxq:=BP ER wL Qxh
abbrev pQ:=qG 3950 [Qo] [dr 3950 [Qo],W,W,W,W,W,W]
abbrev Qxs:=mb FP [Qxq,Qm,bO,bP,W,W,eg] pQ
abbrev Qxt:=mb UQ [BP EN wL Qxh,Qm,bO,bP,W,W,eg] qL
abbrev Qxu:=ou [Qxq,Qm,bO,bP,Q0,W,eg]
abbrev Qxv:=ou [Qxj,Qm,bO,bP,W,W,eg]
abbrev Qxw:=oe (dr 4400 [Qm,Qk])
abbrev Qxx:=vv wL Cu DJ Qm9 U0
abbrev Qxy:=wy 20000 [Qm]
abbrev Qxz:=fj 20000 [Qm]
abbrev Qx0:=lg wG Fc wL Cu DJ Qh U0
abbrev Qx1:=ou [Qx0,Qm,bO,bP,W,W,eg]
abbrev Z1:=nq Z0
abbrev Qx3:=tD Z0
abbrev ma a0 a1:=BP Fc a0 a1
abbrev Qx4:=ma (mk Qx3) Qxh
abbrev Qx5:=gp Z0 EL
abbrev Qx6:=vw Z0
abbrev Qx7:=ma Qx6 Qxh
abbrev Qx8:=fX EL wG
abbrev Qx9:=ou [oq wG EN Qxx,Qm,bO,bP,W,W,gW]
abbrev Qya:=rU wG EL
abbrev Qyb:=kG Qya Qm
abbrev Qyc:=ji wG (mk EL) wG EL gI EN
abbrev Qyd:=ou [oq Qyc Fc Qxx,Qm,bO,bP,W,W,gW]
abbrev Qye:=kG Qya N5
abbrev Qyf:=ji wG (mk EL) wG EL gI ER
abbrev Qyg:=gp ZZ K7
abbrev Qyh:=kG (kO Z0) EL
abbrev Qyi:=vw ZZ
abbrev Qyj:=gp ei ZZ
abbrev Qyk:=kq 9100 Qj9 5
abbrev Qyl:=AD ei (-1099511627776)
abbrev Qym:=gp Qmg ei
abbrev Qyn:=nI Z0 ei
abbrev Qyo:=oe Qyn
abbrev Qyp:=gp Qmg Qyn
abbrev Qyq:=nJ Z0
abbrev EK:=pr 9100 7
abbrev Qys:=cn DJ (tA Qk EK gI)
abbrev Qyt:=cn Cu Qys
abbrev Qyu:=cn b! (tA Fc wL Qyt)
abbrev Qyv:=stx wG Qyu
abbrev Qyw:=ou [Qyv,W,W,W,W,W,W]
abbrev Qyx:=BP ER wL Qyt
abbrev Qyy:=mb FP [Qyx,Qm,bO,bP,W,W,eg] pQ
abbrev Qyz:=mb UQ [BP EN wL Qyt,Qm,bO,bP,W,W,eg] qL
abbrev Qy0:=ou [Qyx,Qm,bO,bP,Q0,W,eg]
abbrev Qy1:=ou [Qyv,Qm,bO,bP,W,W,eg]
abbrev Qy2:=cn wL (iS Cu DJ Qm9 EK)
abbrev Qy3:=ou [ma wL (iS Cu DJ Qh EK),Qm,bO,bP,W,W,eg]
abbrev Qy4:=ma (mk Qx3) Qyt
abbrev Qy5:=ma Qx6 Qyt
abbrev ZY:=ln EK
abbrev Qy7:=oe (.sub ZY Q0)
abbrev Qy8:=gp ZY (xH Q0 ZY Q0)
abbrev Qy9:=tM .drop EK (xH Q0 ZY Q0) Q0
abbrev Qza:=cn Cu (tA DJ EK U0)
abbrev Qzb:=cn b! (tA Fc wL Qza)
abbrev Qzc:=stx wG Qzb
abbrev Qzd:=ou [Qzc,W,W,W,W,W,W]
abbrev Qze:=wy 4400 [Qm,EK]
abbrev Qzf:=BP ER wL Qza
abbrev Qzg:=ou [Qzf,Qm,bO,bP,W,W,eg]
abbrev Qzh:=mb UQ [BP EN wL Qza,Qm,bO,bP,W,W,eg] qL
abbrev Qzi:=ou [Qzf,Qm,bO,bP,Q0,W,eg]
abbrev Qzj:=ou [Qzc,Qm,bO,bP,W,W,eg]
abbrev Qzk:=oe (dr 4400 [Qm,EK])
abbrev Qzl:=wy 20050 [EK,Qm]
abbrev Qzm:=fj 20050 [EK,Qm]
abbrev Qzn:=kX 20050 [EK,Qm] 0
abbrev Qzo:=rr 20050 [EK,Qm] 3
abbrev Qzp:=nJ ZY
abbrev Qzq:=ma (mk Qx3) Qza
abbrev Qzr:=ma Qx6 Qza
abbrev Qzs:=nG Qzo Qlq
abbrev Qzt:=vv wL Cu DJ (Gr Qzo ER) U0
abbrev Qzu:=kO (jJ EK W)
abbrev Qzv:=pr 9100 8
abbrev Qzw:=cn Qzv gI
abbrev Qzx:=cn Cu (tA DJ EK Qzw)
abbrev Qzy:=cn b! (tA Fc wL Qzx)
abbrev Qzz:=stx wG Qzy
abbrev Qz0:=ou [Qzz,W,W,W,W,W,W]
abbrev Qz1:=BP ER wL Qzx
abbrev Qz2:=ou [Qz1,Qm,bO,bP,W,W,eg]
abbrev Qz3:=mb UQ [BP EN wL Qzx,Qm,bO,bP,W,W,eg] qL
abbrev Qz4:=ou [Qz1,Qm,bO,bP,Q0,W,eg]
abbrev Qz5:=ou [Qzz,Qm,bO,bP,W,W,eg]
abbrev Qz6:=lg wG Fc wL Cu DJ Qh Qzw
abbrev Qz7:=ma (mk Qx3) Qzx
abbrev Qz8:=ma Qx6 Qzx
abbrev Qz9:=xH Q0 (ln Qzv) Q0
abbrev Q0a:=vv wL Cu DJ Qm9 Qzw
abbrev Q0b:=vv wL Cu DJ (Gr Qzo ER) Qzw
abbrev Q0c:=ou [wG,W,W,W,W,W,W]
abbrev BN a0 a1 a2 a3:=cq a0 qL a1 a2 a3
abbrev oz a0 a1 a2:=BN UQ a0 a1 a2
def my:=mZ 9100 Qj9 (nJ Qw4) (qy Qw5 Qw6 Qki Qki (nh Qki Qk0 (iU Qw7 (rD Qw8 Qki)) Qki) Qki) (dF Qw4 Q0 (qy Qw5 Qw6 Qxk Qxk (nh Qxk Qk0 (dQ Qw7 Qw8 (iR Qxl Qxm (dM Qk2 UQ qL Qxs Qld Qxt (cq Qlg Qxt Qlh (sp FP Qxu Qxv) (cq Qll (cq FP Qxu Qlm pQ Qxv) Qlo (oz Qxw (mb FP [oq wG Fc Qxx,Qm,bO,bP,W,W,eg] pQ) qL) (dM Qlt Qxw qL (iR Qxy Qxz Qx1) Ql3 (oz Qxw Qxs qL) (mF Ql5 Z1 [Qx4,Qm,bO,bP,W,W,eg] pQ Ql8 (mb Z1 [Qx4,Qm,bO,bP,Q0,W,eg] Qxv) (mF Qmb Qx5 [Qx7,Qm,bO,bP,W,W,eg] qL Qmu (fU W EL (ou [lg wG Fc wL Cu DJ Qk Qnz,Qm,bO,bP,ei,W,eg]) pQ) (oU Qmw pQ Qmn [Qxj,Qm,bO,bP,Z0,W,eg] (cq Qmq (ou [ma Qmr Qxh,Qm,bO,bP,ei,W,eg]) Qmz (pq Qx8 (dM Zr UQ (iR Qxy Qxz Qx9) qL Qyb (iR Qxy Qxz Qyd) qL)) (cq Qnk Qxv Qnl Qx1 (dM Qno Qxw (pq Qx8 (oU Zr Qxs Qye [stx Qyf Qxi,Qm,bO,bP,W,W,eg] pQ)) pQ Qnq (sp Qyg (rS Qyh [I6 wG b! (vv Fc gI Cu Qyi Qff),Qm,bO,bP,ZZ,W,gW] [Qx7,Qm,bO,bP,ZZ,W,gW]) qL) (mF Qnt Qyj [Qxj,Qm,bO,bP,ei,W,eg] pQ Qnv (sp Qyk (oz FP Qxu pQ) Qxv) (mF Qnw UQ [I6 wG b! (vv EN wL Qh DJ Qff),Qm,bO,bP,W,W,eg] qL Qmf (BN Qyl Qym qL (BN Qyo Qyp qL (ou [ma (mk Qyn) Qxh,Qm,bO,bP,Qyn,W,eg]))) (mF Qmi Z1 [Qx4,Qm,bO,bP,Qx3,W,eg] qL Qml (sp Qyq Qxv pQ) pQ)))))))))))))) Qxk) Qxk) Qxk) Qw4 eg (qy Qw5 Qw6 Qyw Qyw (nh Qyw Qk0 (dQ Qw7 Qw8 (iR Qxl Qxm (dM Qk2 UQ qL Qyy Qld Qyz (cq Qlg Qyz Qlh (sp FP Qy0 Qy1) (cq Qll (cq FP Qy0 Qlm pQ Qy1) Qlo (oz Qxw (mb FP [oq wG Fc Qy2,Qm,bO,bP,W,W,eg] pQ) qL) (dM Qlt Qxw qL (iR Qxy Qxz Qy3) Ql3 (oz Qxw Qyy qL) (mF Ql5 Z1 [Qy4,Qm,bO,bP,W,W,eg] pQ Ql8 (mb Z1 [Qy4,Qm,bO,bP,Q0,W,eg] Qy1) (mF Qmb Qx5 [Qy5,Qm,bO,bP,W,W,eg] qL Qmu (fU ZY EL (qJ (gp ZY Qlq) [ma wL (iS Cu DJ Qk (Gr EK Qmr)),Qm,bO,bP,ei,W,eg]) pQ) (dM Qmw (nq ZY) (wc Qy7 Qy8 (ou [ma wL (iS Cu DJ Qk Qy9),Qm,bO,bP,jJ EK W,W,eg])) pQ Qmn (ou [Qyv,Qm,bO,bP,Z0,W,eg]) (cq Qmq (ou [ma Qmr Qyt,Qm,bO,bP,ei,W,eg]) Qmz (pq Qx8 (dM Zr UQ (iR Qxy Qxz (ou [oq wG EN Qy2,Qm,bO,bP,W,W,gW])) qL Qyb (iR Qxy Qxz (ou [oq Qyc Fc Qy2,Qm,bO,bP,W,W,gW])) qL)) (cq Qnk Qy1 Qnl Qy3 (dM Qno Qxw (pq Qx8 (oU Zr Qyy Qye [stx Qyf Qyu,Qm,bO,bP,W,W,eg] pQ)) pQ Qnq (sp Qyg (rS Qyh [ma gI (iS Cu Qyi Qk EK),Qm,bO,bP,ZZ,W,gW] [Qy5,Qm,bO,bP,ZZ,W,gW]) qL) (mF Qnt Qyj [Qyv,Qm,bO,bP,ei,W,eg] pQ Qnv (sp Qyk (oz FP Qy0 pQ) Qy1) (mF Qnw UQ [stx wG (vv b! EN wL Qh Qys),Qm,bO,bP,W,W,eg] qL Qmf (BN Qyl Qym qL (BN Qyo Qyp qL (ou [ma (mk Qyn) Qyt,Qm,bO,bP,Qyn,W,eg]))) (mF Qmi Z1 [Qy4,Qm,bO,bP,Qx3,W,eg] qL Qml (sp Qyq Qy1 pQ) pQ)))))))))))))) Qyw) Qyw) Qyw) (dF Qw4 gW (qy Qw5 Qw6 Qzd Qzd (nh Qzd Qk0 (dQ Qw7 Qw8 (iR Qxl Qze (cq Qk2 (oz FP Qzg pQ) Qld Qzh (cq Qlg Qzh Qlh (sp FP Qzi Qzj) (cq Qll (cq FP Qzi Qlm pQ Qzj) Qlo (oz Qzk (sp FP (qJ (gp ZY Qlq) [lg wG Fc wL Cu DJ (Gr EK ER) U0,Qm,bO,bP,W,W,eg]) pQ) qL) (dM Qlt Qzk qL (dQ Qzl Qzm Qx1 (qJ Qzn [lg wG Fc wL Cu DJ Qzo U0,Qm,bO,bP,W,W,eg])) Ql3 (oz Qzk (gU FP Qzp Qzg pQ pQ) qL) (mF Ql5 Z1 [Qzq,Qm,bO,bP,W,W,eg] pQ Ql8 (mb Z1 [Qzq,Qm,bO,bP,Q0,W,eg] Qzj) (mF Qmb Qx5 [Qzr,Qm,bO,bP,W,W,eg] qL Qmu (fU W EL (ou [lg wG Fc wL Cu DJ EK Qnz,Qm,bO,bP,ei,W,eg]) pQ) (oU Qmw pQ Qmn [Qzc,Qm,bO,bP,Z0,W,eg] (cq Qmq (ou [ma Qmr Qza,Qm,bO,bP,ei,W,eg]) Qmz (pq Qx8 (dM Zr UQ (dQ Qzl Qzm Qx9 (iR Qzn Qzs (ou [oq wG EN Qzt,Qm,bO,bP,W,W,gW]))) qL Qyb (dQ Qzl Qzm Qyd (iR Qzn Qzs (ou [oq Qyc Fc Qzt,Qm,bO,bP,W,W,gW]))) qL)) (dM Qnk Qzp Qzj (wc Qy7 Qy8 (ou [lg wG Fc wL Cu DJ Qy9 U0,Qm,bO,bP,Qzu,W,eg])) Qnl (ou [Qx0,Qm,bO,bP,ZY,W,eg]) (dM Qno Qzk (pq Qx8 (dM Zr FP Qzg pQ Qye (ou [stx Qyf Qzb,Qm,bO,bP,W,W,eg]) pQ)) pQ Qnq (sp Qyg (rS Qyh [lg wG Fc gI Cu Qyi EK U0,Qm,bO,bP,ZZ,W,gW] [Qzr,Qm,bO,bP,ZZ,W,gW]) qL) (mF Qnt Qyj [Qzc,Qm,bO,bP,ei,W,eg] pQ Qnv (sp Qyk (oz FP Qzi pQ) Qzj) (mF Qnw UQ [lg wG EN wL Qh DJ EK U0,Qm,bO,bP,W,W,eg] qL Qmf (BN Qyl Qym qL (BN Qyo Qyp qL (ou [ma (mk Qyn) Qza,Qm,bO,bP,Qyn,W,eg]))) (mF Qmi Z1 [Qzq,Qm,bO,bP,Qx3,W,eg] qL Qml (sp Qyq Qzj pQ) pQ)))))))))))))) Qzd) Qzd) Qzd) Qw4 iQ (qy Qw5 Qw6 Qz0 Qz0 (nh Qz0 Qk0 (dQ Qw7 Qw8 (iR Qxl Qze (cq Qk2 (oz FP Qz2 pQ) Qld Qz3 (cq Qlg Qz3 Qlh (sp FP Qz4 Qz5) (cq Qll (cq FP Qz4 Qlm pQ Qz5) Qlo (oz Qzk (sp FP (qJ (gp ZY Qlq) [lg wG Fc wL Cu DJ (Gr EK ER) Qzw,Qm,bO,bP,W,W,eg]) pQ) qL) (dM Qlt Qzk qL (rP Qzl Qzm [Qz6,Qm,bO,bP,W,W,eg] (qJ Qzn [lg wG Fc wL Cu DJ Qzo Qzw,Qm,bO,bP,W,W,eg])) Ql3 (oz Qzk (gU FP Qzp Qz2 pQ pQ) qL) (mF Ql5 Z1 [Qz7,Qm,bO,bP,W,W,eg] pQ Ql8 (mb Z1 [Qz7,Qm,bO,bP,Q0,W,eg] Qz5) (mF Qmb Qx5 [Qz8,Qm,bO,bP,W,W,eg] qL Qmu (fU (ln Qzv) EL (qJ (nG Qzv Qlq) [ma wL (iS Cu DJ EK (Gr Qzv Qmr)),Qm,bO,bP,ei,W,eg]) pQ) (dM Qmw (lK Qzv) (px (.sub (ln Qzv) Q0) (nG Qzv Qz9) (ou [ma wL (iS Cu DJ EK (tM .drop Qzv Qz9 Q0)),Qm,bO,bP,jJ Qzv W,W,eg])) pQ Qmn (ou [Qzz,Qm,bO,bP,Z0,W,eg]) (cq Qmq (ou [ma Qmr Qzx,Qm,bO,bP,ei,W,eg]) Qmz (pq Qx8 (dM Zr UQ (rP Qzl Qzm [oq wG EN Q0a,Qm,bO,bP,W,W,gW] (iR Qzn Qzs (ou [oq wG EN Q0b,Qm,bO,bP,W,W,gW]))) qL Qyb (rP Qzl Qzm [oq Qyc Fc Q0a,Qm,bO,bP,W,W,gW] (iR Qzn Qzs (ou [oq Qyc Fc Q0b,Qm,bO,bP,W,W,gW]))) qL)) (dM Qnk Qzp Qz5 (wc Qy7 Qy8 (ou [lg wG Fc wL Cu DJ Qy9 Qzw,Qm,bO,bP,Qzu,W,eg])) Qnl (ou [Qz6,Qm,bO,bP,ZY,W,eg]) (dM Qno Qzk (pq Qx8 (dM Zr FP Qz2 pQ Qye (ou [stx Qyf Qzy,Qm,bO,bP,W,W,eg]) pQ)) pQ Qnq (sp Qyg (rS Qyh [lg wG Fc gI Cu Qyi EK Qzw,Qm,bO,bP,ZZ,W,gW] [Qz8,Qm,bO,bP,ZZ,W,gW]) qL) (mF Qnt Qyj [Qzz,Qm,bO,bP,ei,W,eg] pQ Qnv (sp Qyk (oz FP Qz4 pQ) Qz5) (mF Qnw UQ [lg wG EN wL Qh DJ EK Qzw,Qm,bO,bP,W,W,eg] qL Qmf (BN Qyl Qym qL (BN Qyo Qyp qL (ou [ma (mk Qyn) Qzx,Qm,bO,bP,Qyn,W,eg]))) (mF Qmi Z1 [Qz7,Qm,bO,bP,Qx3,W,eg] qL Qml (sp Qyq Qz5 pQ) pQ)))))))))))))) Qz0) Qz0) Qz0) (dQ (kG Qw4 wM) IS (qy Qw5 Qw6 Q0c Q0c Q0c Q0c) (ot Qxl Qw5 Qw6 Q0c (TM Q0c (sp Qk0 (iU Qw7 (rD Qw8 Q0c)) Q0c) Q0c)))))
def ajd:=cq (p9 (.lit 64)) Qoj (gp Fe Qc) Qoj (ju 4051 (JR []))
abbrev Q0d:=[Qb,Qo,Q3,ga Q2,Q5,jK Q2,kr Q2]
def J!:=fU Qf Qc (rD Qol (gM 4200 Q0d 4200 Q0d Qoj (ju 4051 [Qoo,Qb,Qo]))) (ju 4052 [W,Qb,Qo])
abbrev ZG:=el Qo Qf
abbrev Q0f:=ln (ga ZG)
def J':=qz Qfk (rD Qol (cq (gp (.lit 120) Q0f) Qoj (fX (.lit 4000) (ce 2 ZG)) Qoj (ju 4053 [Qf,W,Qb,Qo,ce 0 ZG,ga ZG,ce 2 ZG])))
abbrev Q0g:=el ei Qb
abbrev Q0h:=[Qo,Qm,bO,bP,ei,eV Q0g,ku Q0g,gT Q0g,iE Q0g,kr Q0g,Pf 5 Q0g,jL Q0g]
def J_:=fU Qb Zv (qD (gM 4250 Q0h 4250 Q0h Qoj (ju 4054 [Qf,Qb,W,Qo,Qm,bO,bP,ei]))) (ju 4052 [Qoo,Qo,Qm])
abbrev Q0i:=el (jL (el fg Qb)) Qo
abbrev Q0j:=[eV Q0i,ga Q0i,gT Q0i,jK Q0i,Qmt]
abbrev Q0k:=[eV Q0i,ga Q0i,gT Q0i,jK Q0i,Zv]
def OE:=ot Jb (fX Qb fg) (fX Qo (jL (el fg Qb))) (np (mZ 4300 Q0j (gp Qqx (dr 4300 Q0j)) Qoj (gM 4350 Q0k 4350 Q0k Qoj (rT 4054 (zA [ei,fg]))))) (ju 4053 [Qf,pR,Qm,bO,bP,ei,fg])
abbrev Q0l:=ju 4101 [gN,Qf,W,Qb,Qo,Qm,bO,bP,ei,fg,fu,fv,fV]
abbrev Q0m:=oR Qou (ik (gp K7 fu) Qoz Q0l)
abbrev Q0n:=l9 Qox Xy Q0m
abbrev Q0o:=sp Qov Q0n Q0n
def I?:=sp UW (l9 Qos Qot (qz IS Q0o)) (cq Qo7 (l9 Qos Qot (dM IS Qov fc Q0n Qov fc Q0n)) Qo3 (l9 Qos Qot (sp IS Q0o Q0o)) (l9 Qos Qot (nh (zO Qov Qox (gU Qo4 Xy Q0m fc fc) (dM Xy Qou fc (zO (gp K7 fu) Qoz (qz Z8 Q0l) Q0l) Qo6 Q0m fc)) Qo6 (oR Qov (zO Qox Xy Q0m Q0m)) fc)))
abbrev Q0p:=jJ gN Qo
abbrev Q0q:=dF Qb gW (ik Qou (gp bO fu) ib) Qb wM (l9 Qou (gp fu bO) ib) (dF Qb Ja (ik Qou (gp Qmg fu) ib) Qb Zs ib (dM (kG Qb Qlf) A0 (oR (fX bO lz) ib) fc A0 ib fc))
def I!:=cq (gp Qo Qi6) (np (l9 (oe Q0p) (qB Q0p) (mZ 4400 [Q0p,.op .take gN Qo] (oe (dr 4400 [Q0p,.op .take gN Qo])) (rT 4101 (zA [ei,fg,fu,fv,fV,gN,lz])) fc))) Qp6 Q0q (l9 (nq Qi6) (nJ fv) Q0q)
def ajc:=gF Qf FT Z7 (dF Qf FQ Qps Qf (.lit 26) Qpt (qG 4450 Qj [dr 4450 Qj]))
def ajb:=gF Qo gW Qp2 (dF Qo Qlf Qp2 Qo wM Qp3 (dF Qo iQ Qp5 Qo Zs ib (l9 (gp Qo Q0) (gp Qo Zs) Qp1)))
abbrev Q0r:=gp ei Q0
abbrev Q0s:=gp Qmp ei
abbrev Q0u:=fj 4500 [fg,qk]
abbrev Q0v:=fj 4500 [fv,kO U1]
abbrev Q0w:=fj 4500 [fu,DK]
abbrev Q0x:=nZ 4600 [ei] (cq (fj 4600 [ei]) (kN fu N5 ib) Q0w fc ib)
def Jp:=nZ 4500 [fu,DK] (mZ 4500 [fv,kO U1] Qp7 (ik Q0r Q0s (dQ (wy 4500 [fg,qk]) Q0u fc (jM Qp6 Qqg (mZ 4450 [ei] (kG Qqh (dr 4450 [ei])) (mZ 4550 [ei] (kG Qi6 (dr 4550 [ei])) (gF ei Fe (oR Q0v Q0x) Q0x) fc) fc)))) (cq Qp8 (dQ (wy 4500 [fg,qk]) Q0u fc (jM Qp6 Qqg Qql)) Qp9 (oR Q0w Qqn) (dM Qqa Q0v fc Qqn Qqb (oR Q0v ib) (dM Qqc Q0w fc ib Qqd (ik Q0w Q0v ib) fc))))
def I':=mb Qix [.lit 10000] (ju 4301 [bO,Q0,W,Qf,Qb,Qo,Qm])
def I_:=fU Qo Zv (fU Qqx Qb Qiz (np (nZ 4300 Qi1 (ju 4301 [Qf,nI Qb (dr 4300 Qi1),FW,Qm,bO,bP,ei])))) Qiz
def aja:=ju 4351 [bO,W,Qf,Qb,Qo,Qm]
abbrev Q0y:=[Qwh,ga Rw,Qwi,jK Rw,Qf]
def H?:=lX (gp Qb XI) (qD (kM 4350 Q0y 4350 Q0y (ju 4351 (ajJ [bP])))) Qo Q0 (mH XI (kN Qtd gI (oR re ib)) fc) (dF Qo eg (mH XI (l9 re (qB bO) (kM 4650 [Qm] 4650 [Qm] ib)) fc) Qo gW (mH bO (dF XI Q0 (kN Qtd Qs7 ib) XI eg (gF Qtd Qs9 ib (dF Qtd Qs7 ib Qtd Qta ib (dF Qtd Qtb ib Qtd Qtc ib fc))) fc) fc) fc)
def ai9:=ju 4401 Qjf
abbrev Q0z:=kG (jJ Qb Qo) Qf
def H!:=gV Qjh (np (mb Q0z [Qo] (ju 4401 Qjk))) [N5]
def ai8:=sp Qo7 ib (pn Qo3 ib UU (cq UW ib Z8 Qpn (lX Qo6 Qpn Qf Ja Qpn (cq Qo4 Qpn Qpo Qpp (cq (lJ Z9) Qpp Qpq Qpp (s5 Qf 12 Z7 Qf (.lit 13) Z7 (s5 Qf 14 Z7 Qf Qnp Qps (cq (lJ Fe) Qpt Qpu Qpv (s5 Qf 18 Qpv Qf Qmk Qpv (cq (lJ Qmt) Qpw Qpx Qpw (lX Qpy Qpz Qf Qmp Qpz fc)))))))))))
def ai7:=l9 Qol (rR Qf) ib
def ai6:=pn UW ib Qpu (dF Qf Qmt ib Qf Qmp ib fc)
def ai5:=sp UU ib (pn UW ib Qpq (pn Qpx ib Qpy fc))
def ai4:=ox 4700 Z6 4700 Z6 6 (kN (dr 4700 Z6) eg (qz (kq 4700 Z6 4) (kN (rr 4700 Z6 5) qk ib))) fc
def H_:=vy 16384 qk Qss (cq Jb Qst (rR qk) Qst (ju 4701 [Qf,Qb,Qb]))
abbrev Q00:List Y:=[.op .sub Qf (tA IE (mk FW) gI)]
abbrev Q01:=ju 4702 [Qf,Qo,Q0,W]
def Vp:=sp K8 (qD (wc (rR FW) (gp qk FW) (gM 4850 Q00 4850 Q00 Q01 (ju 4701 Qjk)))) Q01
def G?:=lX (rR Qm) (xE Qq Qi2 Qqz Z9 (rT 4702 [Q1]) (ju 4702 Qje)) Qb qk (ou [wM,gI,W,Qo,Qb,Qb,W,W]) (tL 4703 [Qb,pR])
abbrev Q02:Y:=.op .sub Qf (tA IE ER gI)
abbrev Q03:=dr 4750 [Q02]
abbrev Q04:=ou (VF [.lit 100,Qo])
abbrev Q05:=wc (rR Qm) (gp qk Qm) (nZ 4750 [Q02] (lX (nJ Q03) Q04 Q03 Q0 (ox 22000 [Q02] 22000 [Q02] 1 Q04 (ou [Q03,gI,dr 22000 [Q02],Qo,Qb,Qm,W,W])) (ou [Q03,Q02,W,Qo,Qb,Qm,W,W])))
abbrev Q06:=nI Qb eg
abbrev Q07:List Y:=[.op .sub Qf (tA IE wj gI)]
abbrev Q08:=nq (dr 4750 Q07)
abbrev Q09:=kO bO
abbrev Q1a:=tL 4703 [bO,Q09]
def OD:=cq (gp qk bO) (qD Q05) (gp Q06 bO) (wc Jb (rR bO) (mZ 4750 Q07 Q08 Q1a Q05)) (wc Jb (rR bO) (mZ 4750 Q07 Q08 Q1a (tL 4703 [Qm,Q09])))
abbrev PM a0 a1 a2 a3 a4:=BO a0 a1 (BO a2 a3 a4)
abbrev nD a0 a1 a2 a3:=PM a0 a1 a2 a3 ow
abbrev Q1b:=[Qf,.eW (BO 48 49 (PM 50 51 52 53 (nD 54 55 56 57)))]
abbrev Q1c:Y:=.eW (BO 45 62 ow)
abbrev Q1d:=[nm N7,tK 60 (PM 43 45 42 40 (nD 41 123 125 59))]
abbrev Q1e:=gF Qpg Q1c Z7 (dF Qpg Qtb Z7 qk Q0 (kM 4950 Q1d 4950 Q1d Z7) fc)
def G!:=gF Qpg gI fc (gM 4900 Q1b 4900 Q1b (iU Qjp (gM 4950 [nm N7,.eW b2] 4950 [nm N7,.eW b2] Q1e (gM 4900 [Qf,.eW b3] 4900 [Qf,.eW b3] Q1e (gM 4800 Qj 4800 Qj Qpn Qpp)))) ib)
def ai3:=ju 4801 Z6
abbrev Q1f:=ju 4801 [Qf,pR]
abbrev oA a0 a1 a2 a3 a4 a5:=BO a0 a1 (nD a2 a3 a4 a5)
abbrev aso a0 a1 a2 a3:=gF a0 (.eW a1) a2 a3
abbrev asm a0 a1 a2:=aso Qpg a0 a1 a2
abbrev asl a0 a1:=asm a0 ib a1
abbrev oo a0:=asl a0 Q1f
abbrev oV a0 a1:=oo (qpx a0 a1)
def G_:=fU Qb (.lit 37) (qD (mH Qb (oV 97 (oA 99 113 117 105 114 101)) (dF Qb Q0 (oV 97 (BO 100 100 ow)) Qb eg (oo (oA 97 114 114 105 118 101)) (dF Qb gW (oV 98 (oA 97 114 114 105 101 114)) Qb iQ (oV 98 (PM 114 111 97 100 (nD 99 97 115 116))) (dF Qb wM (oo (nD 99 111 110 100)) Qb IF (oo (BO 100 111 ow)) (dF Qb Ja (oo (nD 100 111 110 101)) Qb Qlf (oo (nD 101 108 115 101)) (dF Qb Zs (oo (BO 105 102 ow)) Qb Z9 (oo (nD 108 111 99 107)) (s5 Qb 11 (oV 108 (oA 111 99 107 102 111 114)) Qb (.lit 12) (oo (nD 108 111 111 112)) (s5 Qb 13 (oV 109 (nD 117 116 101 120)) Qb (.lit 14) (oo (nD 111 110 99 101)) (dF Qb Qnp (oV 112 (BO 117 116 ow)) Qb Fe (oV 113 (nD 117 101 117 101)) (s5 Qb 17 (oo (nD 114 101 97 100)) Qb (.lit 18) (oV 114 (oA 101 108 101 97 115 101)) (dF Qb Qmk (oV 114 (nD 108 111 99 107)) Qb Qmt (oV 114 (oA 117 110 108 111 99 107)) (s5 Qb 21 (oo (oA 114 119 108 111 99 107)) Qb (.lit 22) (oV 115 (BO 101 109 ow)) (dF Qb Qmp (oV 115 (BO 101 116 ow)) Qb FT (oo (oA 115 105 103 110 97 108)) (dF Qb FQ (oo (nD 116 97 107 101)) Qb (.lit 26) (oo (oA 116 104 114 101 97 100)) (dF Qb Qk4 (oo (BO 116 114 (PM 121 97 99 113 (nD 117 105 114 101)))) Qb (.lit 28) (oV 116 (oA 114 121 108 111 99 107)) (s5 Qb 29 (oo (oA 117 110 108 111 99 107)) Qb (.lit 30) (oV 118 (BO 97 114 ow)) (s5 Qb 31 (oo (nD 119 97 105 116)) Qb (.lit 32) (oV 119 (oA 97 105 116 102 111 114)) (s5 Qb 33 (oo (oA 119 97 105 116 111 110)) Qb (.lit 34) (oV 119 (nD 108 111 99 107)) (s5 Qb 35 (oV 119 (nD 114 105 116 101)) Qpg (tK 119 (oA 117 110 108 111 99 107)) ib Q1f)))))))))))))))))))) fc
def F?:=ju 4851 Z6
abbrev Q1g:=nm Z2
abbrev Q1h:=ju 4851 [Qf,pR]
abbrev Q1i:=ju 4852 [Qf,pR]
abbrev Q1j:=[Q1g,.eW (nD 9 10 13 32)]
def Vo:=sp Qwp (qD (dF Q1g Z9 Q1h Q1g (.lit 35) Q1i (kM 4950 Q1j 4950 Q1j Q1h))) ib
def F!:=sp Qwp (qD (dF Q1g Z9 Q1h Q1g (.lit 35) Q1i Q1i)) ib
def ai2:=ju 4901 Qjf
def F_:=sp K8 (np (kM 4950 [Qjj,Qb] 4950 [Qjj,Qb] (ju 4901 Qjk))) ib
def ai1:=ju 4951 Qjf
def E?:=qz Qjh (np (qA Q0z ib 4951 Qjk))
def M?:=ju 22001 Qj
abbrev Q1k:=cn (mk qk) gI
abbrev Q1l:=ju 22002 [Qf,W,W]
def M!:=fU Q0 qk (gF (nm N7) (.lit 48) (rD (p9 qk) (ju 22001 [.op .sub Qf (cn Qh Q1k)])) (lX (p9 Qmk) Qp0 qk Qmk (mH (.op .slt (.eW b4) Qf) Q1l Qp0) Q1l)) Q1l
def Sm:=gV K8 (np (ju 22002 [Qf,nI (wr (.mul Z9 Qb)) (wr (.wrap .u8 (.sub Qjj (.lit 48)))),FW])) [Qb,Q0]
abbrev Q1m:=[dr 1450 yf,fA 1450 yf,dr 22150 yf,fA 22150 yf]
abbrev sF:=wy 22200 Zq
abbrev rA:=fj 22200 Zq
def M_:=gM 100 yf 100 yf (gM 22100 [Qo,Qm] 22100 [Qo,Qm] (nZ 1450 yf (mZ 22150 yf (gE 1450 yf 2 (rr 22150 yf 2)) (kM 2050 Q1m 2050 Q1m (nZ 1500 Zq (dQ sF (xD (xD Qtn rA) (xD (.not Qtn) (.not rA))) fc (ju 22051 [Qo,Qm,dr 1450 yf,fA 1450 yf,W,Qf,Qb,bO,bP])))) fc)) ib) ib
abbrev S4 (l:List Y):=W::Qf::Qb::Qo::Qm::bO::bP::ei::fg::fu::l
def LA:=fU bO eg (rD re (mH bO (ju 22052 (S4 [Qf,Qb])) (ju 22052 (S4 [Qo,Qm])))) ib
abbrev NT:=[ei,fg,dr 22250 [fV,gN],fA 22250 [fV,gN],jJ fu Qf]
abbrev Ry:=[ei,fg,fV,gN,jJ fu Qf]
abbrev Q1r:SB:=.not (kq 1800 NT 4)
abbrev Q1s:SB:=.not (kq 22350 Ry 4)
abbrev Q1t:=[dr 1850 NT,fA 1850 NT,dr 22400 Ry,fA 22400 Ry]
abbrev Q1u:SB:=.not (fj 1700 NT)
abbrev Q1v:SB:=.not (fj 22300 Ry)
abbrev Q1w:=[dr 22250 [fV,gN],fA 22250 [fV,gN],fV,gN]
abbrev Q1x:=ju 22053 [W,Qb,Qo,Qm,bO,bP,ei,fg,fu,fv,fV,gN]
abbrev aar (l:List Y):=Qoo::Qb::Qo::Qm::bO::bP::ei::fg::fu::fv::l
abbrev oC a0 a1:=ju a0 (aar a1)
def Lz:=sp (fX Qf fu) (fU Qf (.lit 60) (rD Qol (nZ 22250 [fV,gN] (nZ 1800 NT (nZ 22350 Ry (nZ 1850 NT (mZ 22400 Ry (.and (gE 1800 NT 0 (iT Ry 0)) (og 1800 NT 1 (iT Ry 1) (gE 1800 NT 2 (iT Ry 2)) (gE 1800 NT 3 (iT Ry 3)))) (oR (xD (.and Q1r Q1s) (xD Q1r Q1s)) (nZ 2050 Q1t (l9 (fj 2050 Q1t) (og 1850 NT 2 (rr 22400 Ry 2) (gE 1850 NT 3 (rr 22400 Ry 3)) (og 1850 NT 4 (rr 22400 Ry 4) (gE 1850 NT 5 (rr 22400 Ry 5)) (gE 1850 NT 6 (rr 22400 Ry 6)))) (kN (rr 1850 NT 7) (rr 22400 Ry 7) (nZ 1700 NT (kV 22300 Ry (xD (.and Q1u Q1v) (xD Q1u Q1v)) (kM 2050 Q1w 2050 Q1w (oC 22052 [dr 1850 NT,fA 1850 NT])))))))) fc)))))) Q1x) Q1x
abbrev Q1y:=el fv Qf
abbrev Q1z:=[ei,fg,fV,gN,eV Q1y,ku Q1y,gT Q1y,iE Q1y,kr Q1y]
abbrev Q10:=[dr 2000 Q1z,fA 2000 Q1z,dr 22450 Q1z,fA 22450 Q1z]
abbrev Q11:SB:=.not (kq 2000 Q1z 2)
abbrev Q12:SB:=.not (kq 22450 Q1z 2)
abbrev Q13:=ju 22051 [Qb,Qo,Qm,bO,Qi8,ei,fg,fu,fv]
def Ly:=sp (fX Qf fv) (fU Qf Qlf (rD Qol (nZ 2000 Q1z (nZ 22450 Q1z (nZ 2050 Q10 (ik (fj 2050 Q10) (xD (.and Q11 Q12) (xD Q11 Q12)) (oC 22053 [dr 2000 Q1z,fA 2000 Q1z])))))) Q13) Q13
def L?:=ju 22101 [Qc,Qc,W,Qf,Qb]
def Lx:=pn uQ (np (dI c_ 22101 [nI Qf (ln Qdm),Qb,FW,Qm,bO])) (qB (.lit 3000)) (kM 3800 [Qm] 3800 [Qm] ib)
def Sl:=dQ Qwj Qwk (nZ 3850 yf (ju 22151 [Qf,Qb,dr 3850 yf])) (ou [Qh,Qh,dr 4050 yf])
abbrev Q14:=ln (ga Qe0)
def Lw:=gV Qd (mH Q14 (ju 22152 [Q0,Qf,Qb,Qo,Qtg]) (dI (gp Q14 Qv) 22152 [Q0,Qf,Qb,Qo,nj gI (rpx Q14 gI) Qga])) [Qo,Qh,W]
def Lv:=sp Qfk (rD Qol (mH Q0f (dI Qth 22152 (GN [Qti])) (iU (gp Q0f Qv) (dI Qth 22152 (GN [qb bO gI (rpx Q0f gI) Qga]))))) Qtj
def L!:=iU Qw5 (lX Qw6 fc DK Qc (ju 22201 (JR [Qo,Qm])) fc)
abbrev Q15:=ju 22201 (GN [bO])
abbrev Q16:=l9 (oe Qds) (gp Qds Qc) (mZ 4150 [Qdr] (kG (rU Qb Qds) (dr 4150 [Qdr])) Q15 fc)
def Gh:=fU Qf U1 (ot Qol Qfk (oe Qdq) fc (lX (nG (ce 2 ZG) Qdq) fc (ln (ga Qdp)) Q0f (oR (oe Qdu) (zO (gp K7 Qdu) (nJ Qdr) (gU (nJ Qds) (nJ Qdt) Q15 fc fc) (dF Qdr FT Q16 Qdr FQ Q16 fc))) fc)) ib
def L_:=nZ 3950 Qj (ju 22251 [Qf,Qb,dr 3950 Qj])
abbrev Q17:=oB (mk Qe9) Qfa (mk (nm Qe1)) (mk (nm Qe2))
def Lu:=gV Qd (mH Q14 (ju 22252 [Q0,Qf,Qb,Qo,nj Qfc Qk Q17]) (dI (gp Q14 Qv) 22252 [Q0,Qf,Qb,Qo,nj Qfc (ga Qe0) Q17])) [Qo,Qh]
abbrev Q18:=iS (oh 2 ZG) (oh 3 ZG) (oh 4 ZG) (oh 5 ZG)
def Lt:=gV Qfk (rD Qol (mH Q0f (dI Qth 22252 (GN [qb bO (mk (eV ZG)) Qk Q18])) (iU (gp Q0f Qv) (dI Qth 22252 (GN [qb bO (mk (eV ZG)) (ga ZG) Q18]))))) uS
def Sj:=dQ sF rA fc (l9 re tW (dQ Qto Qtr Qtv fc))
abbrev Q19:=tE (jL Qtz)
abbrev Q2a:=[eV Q19,ga Q19,gT Q19,jK Q19,ga Qtp]
def w9:=dQ sF rA Qt4 (cq re Qt4 tW (dQ Qto Qtr (gF Qts Zp Qt4 (ot (oe Qts) (rQ Qts) Qt0 (gV (lK (jL Qtz)) (qG 22500 Q2a [Qt2,Qt3,dr 22500 Q2a,Qt1,Q0]) [Qt2,Qt3,W,Qt1,Q0]) Qt5)) Qt6) Qt4)
abbrev iq:=dr 9150 kT
abbrev mq:=qO kT 2
abbrev Q2d:=ou [mq,Qh,W,W,W,W,W,W]
abbrev Oe:=wy 22300 RV
abbrev Od:=fj 22300 RV
abbrev sO:=qO kT 3
abbrev zc:=qO kT 4
abbrev DN:=qO kT 5
abbrev Q2j:=qO kT 6
abbrev Q2k:=qO kT 7
abbrev Q2l:=qO kT 8
abbrev Q2m:=cn Qk (oB (mk DN) Q2j (mk Q2k) (mk Q2l))
abbrev Q2n:=Wz sO wj (mk zc) Q2m
abbrev Q2o:=ou [mq,Q2n,W,W,W,W,W,W]
abbrev XM:=[Qf,Qb,mq,Q2n,bO]
abbrev ZE:=fX bO sO
abbrev ZD:=el Qtt zc
abbrev vT:=eV ZD
abbrev Q2t:=lK (jL ZD)
abbrev Q2u:=tE (jL ZD)
abbrev Q2v:=[eV Q2u,ga Q2u,gT Q2u,jK Q2u,Qk]
abbrev ZC:=iE ZD
abbrev Q2x:=oe ZC
abbrev Q2y:=ou [mq,Wz sO wj (oh 4 ZD) Q2m,W,W,W,W,W,Q0]
abbrev Q2z:=vw zc
abbrev Q20:=ou [mq,Wz sO wj Q2z Q2m,W,W,W,W,W,Q0]
abbrev Cv:=[Qf,Qb,mq,sO,bO,iT XM 0,iT XM 1,iT XM 2,iT XM 3,zc,DN,Q2j,Q2k,Q2l]
abbrev Q22:=qO kT 9
abbrev ZF:=oB (mk Q2j) Q2k (mk Q2l) (mk Q22)
abbrev Q24:=pk sO (mk zc) DN ZF
abbrev Q25:=ou [mq,Q24,W,W,W,W,W,W]
abbrev IT:=[Qf,Qb,mq,Q24,bO]
abbrev Q27:=[eV Q2u,ga Q2u,gT Q2u,jK Q2u,DN]
abbrev Q28:=fX ZC DN
abbrev Q29:=ou [mq,pk sO (oh 4 ZD) DN ZF,W,W,W,W,W,Q0]
abbrev Q3a:=ou [mq,pk sO Q2z DN ZF,W,W,W,W,W,Q0]
abbrev A2:=[Qf,Qb,mq,sO,bO,iT IT 0,iT IT 1,iT IT 2,iT IT 3,zc,DN,Q2j,Q2k,Q2l,Q22]
abbrev Q3c:=ou [mq,sO,W,W,W,W,W,W]
abbrev Q3d:=rU sO bO
abbrev Q3e:=el Qtt Q3d
abbrev Q3f:=eV Q3e
abbrev Q3g:=lK (jL Q3e)
abbrev Q3h:=tE (jL Q3e)
abbrev Q3i:=ji sO wj sO bO gI (vw Q3d)
abbrev Q3j:=ga (el Q3i bO)
abbrev Q3k:=[eV Q3h,ga Q3h,gT Q3h,jK Q3h,Q3j]
abbrev Q3l:=iE Q3e
abbrev Q3m:=qH Q3l (fX Q3l Q3j) fl
abbrev Q3n:=ou [mq,ji Q3i wj Q3i bO gI (oh 4 Q3e),W,W,W,W,W,Q0]
abbrev Q3o:=ou [mq,Q3i,W,W,W,W,W,Q0]
def j8:=mZ 9150 kT (nJ iq) (dQ sF rA Q2d (cq re Q2d tW (dQ Oe Od (zM 22350 [Qf,Qb,mq,Qh,bO] (kq 22350 [Qf,Qb,mq,Qh,bO] 4) fl) (ou [mq,Qh,W,W,W,W,W,iQ])) Q2d)) (dF iq Q0 (dQ sF rA Q2o (cq re Q2o tW (dQ Oe Od (ox 22350 XM 22350 XM 4 (ni ZE (oe zc) (rQ zc) vT gW (iU Q2t (zM 22500 Q2v Q2x fl)) (dF vT iQ (iU Q2t (gM 22500 Q2v 22500 Q2v Q2y Q20)) vT wM Q2y (dF vT IF (iU Q2x fl) vT Ja (iU Q2x fl) Q20))) (lj 24000 Cv 24000 Cv (ou [Es Cv 15,pk sO (nH 24000 Cv 22) Qk (iS (nH 24000 Cv 23) (nH 24000 Cv 24) (nH 24000 Cv 25) (nH 24000 Cv 26)),Es Cv 16,Es Cv 17,Es Cv 18,Es Cv 19,Es Cv 20,Es Cv 21]))) (ou [mq,Q2n,W,W,W,W,W,iQ])) Q2o)) iq eg (dQ sF rA Q25 (cq re Q25 tW (dQ Oe Od (ox 22350 IT 22350 IT 4 (ni ZE (oe zc) (rQ zc) vT gW (iU Q2t (nZ 22500 Q27 (jM Q2x Q28 (ou [mq,pk sO Q2z (tI DN ZC (nH 22500 Q27 0)) ZF,W,W,W,W,W,Q0])))) (dF vT iQ (iU Q2t (gM 22500 Q27 22500 Q27 Q29 Q3a)) vT wM Q29 (dF vT IF (jM Q2x Q28 (ou [mq,pk sO Q2z (tI DN ZC (oh 5 ZD)) ZF,W,W,W,W,W,Q0])) vT Ja (ot Q2x Q28 (nq (jJ DN ZC)) (ou [mq,pk sO Q2z (tI DN ZC (mk (tD (jJ DN ZC)))) ZF,W,W,W,W,W,Q0]) Q29) Q3a))) (lj 24050 A2 24050 A2 (ou [BR A2 16,pk sO (nH 24050 A2 23) (BR A2 24) (iS (nH 24050 A2 25) (nH 24050 A2 26) (nH 24050 A2 27) (nH 24050 A2 28)),BR A2 17,BR A2 18,BR A2 19,BR A2 20,BR A2 21,BR A2 22]))) (ou [mq,Q24,W,W,W,W,W,iQ])) Q25)) (lh (tC iq) sF rA Q3c (cq re Q3c tW (dQ Oe Od (zM 22350 [Qf,Qb,mq,sO,bO] (kq 22350 [Qf,Qb,mq,sO,bO] 4) (ni ZE (oe Q3d) (rQ Q3d) Q3f gW (iU Q3g (nZ 22500 Q3k Q3m)) (dF Q3f iQ (iU Q3g (gM 22500 Q3k 22500 Q3k Q3n Q3o)) Q3f wM Q3n (dF Q3f IF Q3m Q3f Ja (qH Q3l (fX Q3l Q3j) (rD (nq (jJ Q3j Q3l)) Q3n)) Q3o)))) (ou [mq,sO,W,W,W,W,W,iQ])) Q3c)))
abbrev Q3p:=ou [mq,Qh,W]
abbrev Q3q:=ou [mq,Q2n,W]
abbrev Q3r:=ou [mq,Q24,W]
abbrev Q3s:=ou [mq,sO,W]
def Af:=mZ 9150 kT (nJ iq) (dQ sF rA Q3p (im re Q3p tW 22451 (S4 [mq]) Q3p)) (dF iq Q0 (dQ sF rA Q3q (im re Q3q tW 22452 (S4 [mq,sO,bO,zc,DN,Q2j,Q2k,Q2l]) Q3q)) iq eg (dQ sF rA Q3r (im re Q3r tW 22453 (S4 [mq,sO,bO,zc,DN,Q2j,Q2k,Q2l,Q22]) Q3r)) (lh (tC iq) sF rA Q3s (im re Q3s tW 22454 (S4 [mq,sO]) Q3s)))
abbrev IH:=qB (.lit 20000)
abbrev Ld:=qG 22250 uS [dr 22250 uS,fA 22250 uS,W]
abbrev Q3v:=[Qb,Qo,fV,Qh,bP]
abbrev Q3w:=lJ (.lit 20000)
abbrev Q3x:=[bP,Qb,Qo,fV,Qh,bP]
abbrev Q3y:=dr 9200 Q3x
abbrev qI a0 a1:=rr 9200 a0 a1
abbrev Q3z:=qI Q3x 2
abbrev Q30:=qI Q3x 3
abbrev Q31:=iR ye A0 fl
abbrev ajI (l:List Y):=Q3z::Q30::(rr 9200 Q3x 10)::(rr 9200 Q3x 11)::(rr 9200 Q3x 12)::(rr 9200 Q3x 13)::(rr 9200 Q3x 14)::(rr 9200 Q3x 15)::l
def am4:=sp IH Ld (ox 22350 Q3v 22350 Q3v 4 (sp Q3w Ld (gM 22300 Q3v 22300 Q3v (mZ 9200 Q3x (nJ Q3y) (oC 22451 [Q3z]) (dF Q3y Q0 (oC 22452 (ajI [])) Q3y eg (oC 22453 (ajI [qI Q3x 16])) (dI (tC Q3y) 22454 (aar [Q3z,Q30])))) Ld)) (iU (gE 22350 Q3v 0 iQ) Q31))
abbrev Q32:=uJ gN US (mk jo) Qk Qv7
abbrev DM:=[Qb,Qo,fV,Q32,bP]
abbrev Q34:=[bP,Qb,Qo,fV,Q32,bP]
abbrev Q35:=dr 9200 Q34
abbrev Q36:=qI Q34 2
abbrev Q37:=qI Q34 3
abbrev Q38:=iT DM 0
abbrev O0 (l:List Y):=Qb::Qo::fV::gN::bP::l
abbrev wu:List Y:=O0 [Q38,iT DM 1,iT DM 2,K7,lz,jo,iN,sN,UX,Rx]
abbrev jD:List Y:=O0 [Q38,iT DM 1,iT DM 2,W,lz,jo,iN,sN,UX,Rx]
abbrev tO a0 a1:=nH 24100 a0 a1
abbrev Q4b:=lj 24100 jD 24100 jD (oU (kq 24100 jD 23) Ld (og 24100 jD 18 bP (gE 24100 jD 19 ei) (og 24100 jD 20 fg (gE 24100 jD 21 fu) (gE 24100 jD 22 fv))) [rr 24100 jD 16,uJ (rr 24100 jD 17) US (tO jD 24) Qk (iS (tO jD 25) (tO jD 26) (tO jD 27) (tO jD 28)),Q0] Ld)
abbrev ajH (l:List Y):=Q36::Q37::(rr 9200 Q34 10)::(rr 9200 Q34 11)::(rr 9200 Q34 12)::(rr 9200 Q34 13)::(rr 9200 Q34 14)::(rr 9200 Q34 15)::l
def tl:=sp IH Ld (nZ 22350 DM (lX (kq 22350 DM 4) (sp Q3w Ld (gM 22300 DM 22300 DM (mZ 9200 Q34 (nJ Q35) (oC 22451 [Q36]) (dF Q35 Q0 (oC 22452 (ajH [])) Q35 eg (oC 22453 (ajH [qI Q34 16])) (dI (tC Q35) 22454 (aar [Q36,Q37])))) Ld)) Q38 iQ (gU ye A0 (lj 24100 wu 24100 wu (oU (kq 24100 wu 23) Ld (og 24100 wu 18 bP (gE 24100 wu 19 ei) (og 24100 wu 20 fg (gE 24100 wu 21 fu) (gE 24100 wu 22 fv))) [rr 24100 wu 16,uJ (rr 24100 wu 17) US (tO wu 24) Qk (iS (tO wu 25) (tO wu 26) (tO wu 27) (tO wu 28)),Q0] Ld)) Q4b Q4b) Q4b))
abbrev Q4c:=uJ gN US (mk jo) iN (oB (mk sN) UX (mk Rx) (mk (.dN 18)))
abbrev DL:=[Qb,Qo,fV,Q4c,bP]
abbrev Q4e:=[bP,Qb,Qo,fV,Q4c,bP]
abbrev Q4f:=dr 9200 Q4e
abbrev Q4g:=qI Q4e 2
abbrev Q4h:=qI Q4e 3
abbrev Q4i:=iT DL 0
abbrev uT:List Y:=O0 [Q4i,iT DL 1,iT DL 2,K7,lz,jo,iN,sN,UX,Rx,.dN 18]
abbrev jq:List Y:=O0 [Q4i,iT DL 1,iT DL 2,W,lz,jo,iN,sN,UX,Rx,.dN 18]
abbrev tN a0 a1:=nH 24150 a0 a1
abbrev Q4l:=lj 24150 jq 24150 jq (oU (kq 24150 jq 24) Ld (og 24150 jq 19 bP (gE 24150 jq 20 ei) (og 24150 jq 21 fg (gE 24150 jq 22 fu) (gE 24150 jq 23 fv))) [rr 24150 jq 17,uJ (rr 24150 jq 18) US (tN jq 25) (rr 24150 jq 26) (iS (tN jq 27) (tN jq 28) (tN jq 29) (tN jq 30)),Q0] Ld)
abbrev ajG (l:List Y):=Q4g::Q4h::(rr 9200 Q4e 10)::(rr 9200 Q4e 11)::(rr 9200 Q4e 12)::(rr 9200 Q4e 13)::(rr 9200 Q4e 14)::(rr 9200 Q4e 15)::l
def tk:=sp IH Ld (nZ 22350 DL (lX (kq 22350 DL 4) (sp Q3w Ld (gM 22300 DL 22300 DL (mZ 9200 Q4e (nJ Q4f) (oC 22451 [Q4g]) (dF Q4f Q0 (oC 22452 (ajG [])) Q4f eg (oC 22453 (ajG [qI Q4e 16])) (dI (tC Q4f) 22454 (aar [Q4g,Q4h])))) Ld)) Q4i iQ (gU ye A0 (lj 24150 uT 24150 uT (oU (kq 24150 uT 24) Ld (og 24150 uT 19 bP (gE 24150 uT 20 ei) (og 24150 uT 21 fg (gE 24150 uT 22 fu) (gE 24150 uT 23 fv))) [rr 24150 uT 17,uJ (rr 24150 uT 18) US (tN uT 25) (rr 24150 uT 26) (iS (tN uT 27) (tN uT 28) (tN uT 29) (tN uT 30)),Q0] Ld)) Q4l Q4l) Q4l))
abbrev Q4m:List Y:=O0 []
abbrev Q4n:=[bP,Qb,Qo,fV,gN,bP]
abbrev Q4o:=dr 9200 Q4n
abbrev Q4p:=qI Q4n 2
abbrev Q4q:=qI Q4n 3
abbrev ajF (l:List Y):=Q4p::Q4q::(rr 9200 Q4n 10)::(rr 9200 Q4n 11)::(rr 9200 Q4n 12)::(rr 9200 Q4n 13)::(rr 9200 Q4n 14)::(rr 9200 Q4n 15)::l
def am3:=sp IH Ld (ox 22350 Q4m 22350 Q4m 4 (sp Q3w Ld (gM 22300 Q4m 22300 Q4m (mZ 9200 Q4n (nJ Q4o) (oC 22451 [Q4p]) (dF Q4o Q0 (oC 22452 (ajF [])) Q4o eg (oC 22453 (ajF [qI Q4n 16])) (dI (tC Q4o) 22454 (aar [Q4p,Q4q])))) Ld)) (iU (gE 22350 Q4m 0 iQ) Q31))
abbrev Q4r:=dr 22500 Qvq
abbrev Q4s:=dr 22500 Qvt
abbrev Q4t:=kN Qg Qtc (fU Q4r Q4s ib fc)
def Ls:=mb Qo7 [Qo] (cq Qo3 Qvo UU (ik (gp DK Q0) (gp eg DK) (mZ 22500 Qvq (kG DK Q0) (mb Qs8 [BQ W Q4r] fc) (nZ 22500 Qvt (oU (kG Qg Qs9) (ou [nI Q4r Q4s]) Qs8 [BQ Q4r Q4s] (dF Qg Qta (ou [wr (.mul Q4r Q4s)]) Qg Qtb (gF Q4r Q4s ib Q4t) Q4t))))) fc)
def ai0:=mZ 5400 Zq (oe (rr 5400 Zq 3)) (ou [dr 5400 Zq,fA 5400 Zq,rr 5400 Zq 2,W]) (ou [dr 5400 Zq,fA 5400 Zq,rr 5400 Zq 2,Q0])
abbrev Q4u:=tD bP
def aiZ:=oU (oe Q4u) (ou [Q4u,ei,W]) (gp Qmt bO) [Q4u,ei,W] (ju 5051 [bO,Qm,DK,W,Q4u,ei,Qf,Qb,Qo])
abbrev aam (l:List Y):=Qfl::(ce 1 Qs)::Qfn::(ce 3 Qs)::l
abbrev Q4v:List Y:=aam [Qoo,bO,bP]
abbrev Q4w:=tG fg
abbrev f_:=ou [bO,bP,W]
abbrev Q4y:=ou [bO,bP,Q0]
def E!:=lX Qp (qF (ox 5050 Q4v 5050 Q4v 2 (ou [dr 5050 Q4v,fA 5050 Q4v,W]) (tL 5051 [Q1,dr 5050 Q4v,fA 5050 Q4v,ei,fg,fu]))) ei Q0 (mH Qc (gF Q4w gI (sp Qou f_ Q4y) f_) f_) (dF ei eg (mH Qc (cq Qou f_ (gp fu bP) (gM 12900 [fg,W] 12900 [fg,W] f_ (iU (kX 12900 [fg,W] 0) Q4y)) f_) f_) ei gW (sp A0 (dF Qc Q0 (gF Q4w Qs7 Q4y f_) Qc eg (gF Q4w Qs9 Q4y (dF Q4w Qs7 Q4y Q4w Qta Q4y (dF Q4w Qtb Q4y Q4w Qtc Q4y f_))) f_) f_) f_)
def aiY:=ju 5101 yf
def aqx:=ou [Qb]
def aiX:=ju 5151 yf
def aqw:=ou [Qf,Qb,Q0]
def aiW:=ju 5201 yf
def aqv:=ou [Q0,Qf,Qb,Q0]
def aiV:=ju 5251 [Qb,Qf,qk,W,Qo]
abbrev Q4z:=wy 1150 (aam [])
abbrev Q40:=fj 1150 (aam [])
abbrev Q41:=wy 5450 [jK Qs,Qoo,Q09]
abbrev Q42:List Y:=D7 [Q1,dr 5450 [jK Qs,Qoo,Q09]]
def E_:=gV Qp (qF (rD (gp Qqx Q09) (jM (qB Qmt) Q4z (rD Q40 (dI Q41 5251 Q42))))) [bO,Qb]
def aiU:=ju 5301 [Qf,W,Qb,Qo,Qm]
abbrev Q43:=[Qwr,Qm,bO]
abbrev Q44:=ox 5500 Q43 5500 Q43 2 (ou [Qo,dr 5500 Q43,fA 5500 Q43,W]) (ju 5301 [Qf,pR,Qo,dr 5500 Q43,fA 5500 Q43])
def D?:=gV Quw (xE Jb Qux Qwm eg (oU (nJ (.op .EX bO UR)) (ou [Qo,Qm,bO,W]) (nJ (nm (.op .EY bO UR))) [Qo,Qm,bO,W] Q44) Q44) [Qo,Qm,bO,Q0]
def aiT:=ju 5351 [Qf,W,Qb,Q0,Qo,Qm]
abbrev Q45:=ou [Qo,Qm,bO,bP,W]
abbrev Q46:=[Qwr,Qm,bO,bP]
abbrev Q47:=ox 5600 Q46 5600 Q46 3 (ou [Qo,dr 5600 Q46,fA 5600 Q46,rr 5600 Q46 2,W]) (ju 5351 [Qf,pR,Qo,dr 5600 Q46,fA 5600 Q46,rr 5600 Q46 2])
def D!:=gV Quw (xE Jb Qux Qwm eg (cq (nJ (.op .EX bP UR)) Q45 (nJ (nm (.op .EY bP UR))) Q45 Q47) Q47) [Qo,Qm,bO,bP,Q0]
def aiS:=ju 5401 [Qf,qk,W,Qb,Qo,Qm]
def D':=gV uQ (oW K8 (gM 800 [XD,Rv,Qj0,Qj3,U1] 800 [XD,Rv,Qj0,Qj3,U1] (ou (zA [Qo])) (rT 5401 (zA [])))) (zA [N5])
def aiR:=ju 5451 [Qb,Qf,qk,W,Qo]
def aiQ:=gV Qp (qF (rD (gp Qqx Q09) (jM (qB Qmt) Q4z (rD Q40 (dI Q41 5451 Q42))))) [bO]
def aiP:=ju 5501 [Qf,qk,W,Qb,Qo]
abbrev Q48:=[Qj3,Qm,bO]
abbrev Q49:=ox 5500 Q48 5500 Q48 2 (ou [dr 5500 Q48,fA 5500 Q48,W]) (rT 5501 [dr 5500 Q48,fA 5500 Q48])
def aiO:=gV uQ (xE Zz K8 XD eg (cq (nJ (.op .EX bO Rv)) Qtj (nJ (nm (.op .EY bO Rv))) Qtj Q49) Q49) [Qm,bO,Q0]
def aqu:=ju 5551 [Qf,qk,W,Q0,Qb,Qo]
abbrev Q5a:=nJ (.op .EX bP Rv)
abbrev Q5b:=ou (zA [W])
abbrev Q5c:=nJ (nm (.op .EY bP Rv))
abbrev Q5d:=[Qj3,Qm,bO,bP]
abbrev Q5e:=kq 5600 Q5d 3
abbrev Q5f:=ou [dr 5600 Q5d,fA 5600 Q5d,rr 5600 Q5d 2,W]
abbrev Q5g:List Y:=pf [dr 5600 Q5d,fA 5600 Q5d,rr 5600 Q5d 2]
abbrev Q5h:=mZ 5600 Q5d Q5e Q5f (ju 5551 Q5g)
def aqt:=gV uQ (xE Zz K8 XD eg (cq Q5a Q5b Q5c Q5b Q5h) Q5h) (zA [Q0])
def aiN:=ju 5601 [Qf,qk,W,Qb,Qo,Qm]
abbrev Q5i:=mZ 5600 Q5d Q5e Q5f (ju 5601 Q5g)
def aiM:=gV uQ (xE Zz K8 XD eg (cq Q5a Q5b Q5c Q5b Q5i) Q5i) (zA [Q0])
abbrev Q5j:List Y:=D7 [bO,bP,ei,fg,fu]
abbrev Q5k:=wy 4000 Q5j
abbrev IG:=rr 4000 Q5j 6
abbrev aua (l:List Y):=W::Qf::Qb::Qo::Qm::bO::bP::ei::fg::fu::fv::fV::gN::lz::jo::l
abbrev fo a0:=ou (aua a0)
abbrev Q5n:=fo [Qo,W,W,W,W,W,W,fv,fV,gN,lz,jo]
abbrev Q5o:=el Qtt fv
abbrev Lb:=rr 4000 Q5j 2
abbrev Q5s:=kG Lb Fe
abbrev yg:=rr 4000 Q5j 4
abbrev Q5u:=kG yg Q0
abbrev Q5w:=oe (iE Q5o)
abbrev NS:=tC IG
abbrev Oa:=dr 4000 Q5j
abbrev N9:=fA 4000 Q5j
abbrev tX:=rr 4000 Q5j 3
abbrev Oc:=rr 4000 Q5j 5
abbrev Ob:=kO fv
abbrev GO (l:List Y):=Oa::N9::Lb::tX::yg::Oc::IG::l
abbrev Q53:=fo (GO [Ob,FT,tX,lz,W])
abbrev Q54:=fo (GO [Ob,fV,gN,lz,W])
abbrev Q55:=kr Q5o
abbrev Q56:=fo (GO [Q55,FT,tX,lz,W])
abbrev Q57:=fo (GO [Q55,fV,gN,lz,W])
abbrev R3:=kG Lb Qnp
abbrev Q59:=gU NS R3 (fo (GO [Ob,FQ,tX,yg,W])) Q53 Q54
abbrev oy a0 a1 a2:=dQ a0 NS a1 a2
def CJ:=iU Q5k (jM re Qto (dM (nJ IG) Qqa (fU jo K7 (fo [Qo,W,W,W,W,W,W,fv,fV,gN,lz,kO jo]) Q5n) Q5n (nJ fV) (ni tW Qpc (rQ fv) (eV Q5o) Q0 (gF (ku Q5o) Fe (gU Q5s Q5u (oy Q5w Q53 Q54) (oy Q5w Q56 Q57) (oy Q5w (sp R3 (fo (GO [Q55,FQ,tX,yg,W])) Q56) Q57)) (iU Q5w Q59)) Q59) (fo (GO [fv,W,W,W,W]))))
abbrev Q6a:=kO iN
abbrev Q6b:=fo [iN,Qo,W,W,W,W,W,W,fv,fV,gN,lz,jo,iN]
abbrev at5 (l:List Y):=iN::Oa::N9::Lb::tX::yg::Oc::IG::l
abbrev pz a0:=fo (at5 a0)
abbrev Q6c:=pz [Ob,fV,FT,tX,jo,W]
abbrev Q6d:=pz [Ob,fV,gN,lz,jo,W]
abbrev Q6e:=fX (iE Q5o) fV
abbrev Q6f:=I6 fV (oh 3 Q5o) (mk yg)
abbrev Q6g:=pz [Ob,Q6f,FT,tX,jo,W]
abbrev Q6h:=pz [Ob,Q6f,gN,lz,jo,W]
abbrev Q6i:=pz [Q55,fV,FT,tX,jo,W]
abbrev Q6j:=pz [Q55,fV,gN,lz,jo,W]
abbrev Q6k:=pz [Q55,Q6f,FT,tX,jo,W]
abbrev Q6l:=pz [Q55,Q6f,gN,lz,jo,W]
abbrev Q6m:=gU NS R3 (pz [Ob,fV,FQ,tX,yg,W]) Q6c Q6d
def CI:=iU Q5k (jM re Qto (dM (nJ IG) Qqa (fU iN K7 (fo [iN,Qo,W,W,W,W,W,W,fv,fV,gN,lz,jo,Q6a]) Q6b) Q6b Qpd (ni tW Qpc (rQ fv) (eV Q5o) Q0 (cq (kG (ku Q5o) Fe) (cq Q5s (dM Q5u Q5w (sp NS Q6c Q6d) (oy Q6e Q6g Q6h) Q5w (sp NS Q6i Q6j) (oy Q6e Q6k Q6l)) Q5w (gU NS R3 (pz [Q55,fV,FQ,tX,yg,W]) Q6i Q6j) (oy Q6e (sp R3 (pz [Q55,Q6f,FQ,tX,yg,W]) Q6k) Q6l)) Q5w Q6m (oy Q6e (sp R3 (pz [Ob,Q6f,FQ,tX,yg,W]) Q6g) Q6h)) Q6m) (pz [fv,fV,W,W,W,W])))
abbrev S3 (l:List Y):=Qf::Qb::Qo::Qm::bO::bP::ei::fg::fu::fv::fV::gN::lz::l
abbrev e!:List Y:=S3 []
abbrev Q6o:=rr 12050 e! 14
abbrev sZ a0:=ou (S4 a0)
abbrev Q6p:=sZ [fv,fV,gN,lz]
def SA:=nZ 12050 e! (dQ (fj 12050 e!) (kG Q6o N5) Q6p (ju 12001 (S3 [Qf,Q6o,kO Q6o])))
abbrev Q6q:=kG (jJ jo sN) Qb
abbrev Q6r:=kO sN
abbrev Q6s:List Y:=S3 [jo,iN,Q6r]
abbrev Q6t:=oe iN
abbrev Q6u:List Y:=S3 [tI jo iN (mk (jJ jo sN)),Q6a,Q6r]
abbrev O1 (l:List Y):=Q0::Qf::Qb::Qo::Qm::bO::bP::ei::l
abbrev Q6v:=wc Q6t (gp Qpb iN) (qH (.sub Qpb iN) (kG (xH iN Qpb iN) Qpb) (ou (O1 [fg,fu,fv,fV,gN,lz,iN,.op .fill jo (cn (mk iN) gI),Qpb])))
def LG:=fU sN Qpb (rD (oe sN) (sp Q6q (ju 12001 Q6s) (rD Q6t (dI (gp iN Qpb) 12001 Q6u)))) Q6v
abbrev Q6w:List Y:=S3 [qk,W]
def V_:=ju 12051 Q6w
abbrev Q6x:=kG (jJ Qf iN) Qb
abbrev Q6y:=sZ [fv,fV,gN,lz,iN]
abbrev Q6z:List Y:=S3 [jo,Q6a]
abbrev Q60:=sZ [fv,fV,gN,lz,N5]
def LF:=fU iN jo (ot Q6t (p9 iN) Q6x Q6y (ju 12051 Q6z)) Q60
abbrev Q61:=rr 12150 e! 14
def Sz:=nZ 12150 e! (dQ (fj 12150 e!) (kG Q61 N5) Q6p (ju 12101 (S3 [Qf,Q61,kO Q61])))
def LD:=fU sN Qpb (rD (oe sN) (sp Q6q (ju 12101 Q6s) (rD Q6t (dI (gp iN Qpb) 12101 Q6u)))) Q6v
def U?:=ju 12151 Q6w
def LC:=fU iN jo (ot Q6t (p9 iN) Q6x Q6y (ju 12151 Q6z)) Q60
def U!:=lj 12250 e! 12250 e! Q6p
def U':=ju 12251 e!
def U_:=sZ [fv,fV,gN,lz]
def T?:=lj 12350 e! 12350 e! Q6p
def T!:=ju 12351 e!
def T_:=sZ [fv,fV,gN,lz]
abbrev Q62:=wy 1400 [Qf,Qrk,Qb,gI,Qo]
abbrev Q63:=fj 1400 [Qf,Qrk,Qb,gI,Qo]
abbrev e?:=xG [Qo,Qm,bO,bP,ei]
abbrev Q65:=gp Qmp bO
abbrev Q67:=wy 1250 [bO]
abbrev Q68:=fj 1250 [bO]
abbrev Q69:=wy 1300 [bO]
abbrev Q7a:=fj 1300 [bO]
abbrev Q7c:=qJ (wy 5100 [eg,Q0]) (O1 [])
abbrev Q7d:=wy 1000 [gI]
abbrev Q7e:=fj 1000 [gI]
def S?:=iU Q62 (cq Q63 e? Qix e? (cq Q65 e? (nJ bP) (dQ Q67 Q68 (dQ Q69 Q7a Q7c (dQ Q7d Q7e e? Q7c)) e?) e?))
abbrev Q7f:=tK 98 ow
abbrev Q7g:=wy 1400 [Q0,Q7f,Qf,gI,Qb]
abbrev Q7h:=fj 1400 [Q0,Q7f,Qf,gI,Qb]
abbrev XL:=sZ []
abbrev Q7j:=wy 1400 [Qo,Qrk,Qm,Q7f,bO]
abbrev Q7k:=fj 1400 [Qo,Qrk,Qm,Q7f,bO]
abbrev Q7l:=wy 1250 [ei]
abbrev Q7m:=fj 1250 [ei]
abbrev Q7n:=wy 1300 [ei]
abbrev Q7o:=fj 1300 [ei]
abbrev Q7p:=qJ (wy 5100 [eg,Q0]) (O1 [fg,fu])
def S!:=dQ Q7g Q7h XL (iU Q7j (cq Q7k XL Q0r XL (cq Q0s XL Xy (dQ Q7l Q7m (dQ Q7n Q7o Q7p (dQ Q7d Q7e XL Q7p)) XL) XL)))
def S_:=iU Q62 (cq Q63 e? Qix e? (cq Q65 e? (nJ bP) (dQ Q67 Q68 (dQ Q69 Q7a e? Q7c) e?) e?))
def R?:=dQ Q7g Q7h XL (iU Q7j (cq Q7k XL Q0r XL (cq Q0s XL Xy (dQ Q7l Q7m (dQ Q7n Q7o XL Q7p) XL) XL)))
abbrev e_:=xG [Qo,Qm,bO,bP,ei,fg]
abbrev Q7r:=kG Zv (dr 1250 [bO])
abbrev Q7s:=qG 5250 [ei,eg,Q0] (O1 [fg,Zv,fA 5250 [ei,eg,Q0]])
def Sy:=iU Q62 (cq Q63 e_ Qix e_ (cq Q65 e_ (nJ bP) (dQ Q67 Q7r (dQ Q69 Q7a Q7s (dQ Q7d Q7e e_ Q7s)) e_) e_))
abbrev XK:=sZ [fv]
abbrev Q7u:=kG (ln fu) (dr 1250 [ei])
abbrev Q7v:=qG 5250 [fu,eg,Q0] (O1 [fg,fu,fv,ln fu,fA 5250 [fu,eg,Q0]])
def Sv:=dQ Q7g Q7h XK (iU Q7j (cq Q7k XK Q0r XK (cq Q0s XK Xy (dQ Q7l Q7u (dQ Q7n Q7o Q7v (dQ Q7d Q7e XK Q7v)) XK) XK)))
def Su:=iU Q62 (cq Q63 e_ Qix e_ (cq Q65 e_ (nJ bP) (dQ Q67 Q7r (dQ Q69 Q7a e_ Q7s) e_) e_))
def Ss:=dQ Q7g Q7h XK (iU Q7j (cq Q7k XK Q0r XK (cq Q0s XK Xy (dQ Q7l Q7u (dQ Q7n Q7o XK Q7v) XK) XK)))
def Sr:=ju 12801 [Qf,Qb,Qb]
abbrev Q7w:=PL .idx .sub Qf (cn AP Q1k) Z9
def LB:=gV K8 (np (qH Qjj (gp Qjj Qsz) (dF (AB b0 Qjj) Q0 (ju 12801 Qjk) (AB b0 Qjj) eg (rD (p9 qk) (mb (oe Q7w) (JR [qk]) (ju 12801 [Qf,Qb,nI Qo Q7w]))) (xG [Qo])))) (JR [Qo])
abbrev Q7x:=tG (.op .sub Qf (cn IE Q1k))
abbrev Q7y:=xG [kO pR]
abbrev Q7z:=tG (.op .sub Qf (tA IE (mk Q06) gI))
def Sq:=jM Jb Qwp (xE (oe Q1g) (gp Q1g Qsz) (AB b0 Q1g) wM (fU qk Q06 (rD (p9 qk) (dF Q7x Q1c Q7y Q7x Qtb Q7y (xG [pR]))) (rD (rR Q06) (dF Q7z Q1c Q7y Q7z Qtb Q7y (xG [pR])))) (ju 12851 [Qf,Qb,AB b0 Q1g,pR]))
abbrev Q70:=xG [Qm]
def Gj:=sp Qi2 (rD Qq (qH Qqz (gp Qqz Qsz) (dF (AB b0 Qqz) gW (ju 12851 Qje) (AB b0 Qqz) iQ (gF Qo iQ (ju 12851 Qje) Q70) Q70))) Q70
abbrev Q71:=ce 2 (el Qb Qo)
abbrev Q72:=el Q71 bP
abbrev Q73:=eV Q72
abbrev Q74:=lK (jL Q72)
abbrev Q75:=tE (jL Q72)
abbrev Q76:=[eV Q75,ga Q75,gT Q75,jK Q75,ei]
abbrev Q77:=wy 1950 Q76
abbrev Q78:=iE Q72
abbrev Q79:=fj 1950 Q76
abbrev Q8a:=sZ [fv,fV,kr Q72,ei]
def CL:=oW c_ (iU Qjh (jM IS (fX bP Q71) (dF Q73 gW (iR Q74 Q77 (qH Q78 (gp Q78 Zv) (sZ [fv,fV,Qi8,tI ei Q78 (nH 1950 Q76 0)]))) Q73 iQ (lh Q74 Q77 Q79 Q8a (sZ [fv,fV,Qi8,ei])) (dF Q73 wM Q8a Q73 IF (qH Q78 (gp Q78 Zv) (sZ [fv,fV,Qi8,tI ei Q78 (oh 5 Q72)])) (iU (kG Q73 Ja) (ot (oe Q78) (gp Q78 Zv) (nq (jJ ei Q78)) (sZ [fv,fV,Qi8,tI ei Q78 (mk (tD (jJ ei Q78)))]) Q8a))))))
abbrev Q8b:=[Qf,Qb,fg,Qo,Qm,bO,bP,ei]
abbrev Q8c:=rr 400 Q8b 6
abbrev Q8d:=el Q71 fv
abbrev Q8g:=rr 400 Q8b 2
abbrev Q8h:=rr 400 Q8b 4
abbrev Q8j:=oe (iE Q8d)
abbrev d?:=tC Q8c
abbrev Q8l:=fA 400 Q8b
abbrev ZB:=rr 400 Q8b 3
abbrev Q8n:=rr 400 Q8b 5
abbrev Q8o:=dr 400 Q8b
abbrev at7 (l:List Y):=iN::Q8l::Q8g::ZB::Q8h::Q8n::Q8c::Q8o::l
abbrev nF a0:=fo (at7 a0)
abbrev Q8p:=nF [Ob,fV,FT,ZB,jo,W]
abbrev Q8q:=nF [Ob,fV,gN,lz,jo,W]
abbrev Q8r:=fX (iE Q8d) fV
abbrev Q8s:=I6 fV (oh 3 Q8d) (mk Q8h)
abbrev Q8t:=nF [Ob,Q8s,FT,ZB,jo,W]
abbrev Q8u:=nF [Ob,Q8s,gN,lz,jo,W]
abbrev Q8v:=kr Q8d
abbrev Q8w:=nF [Q8v,fV,FT,ZB,jo,W]
abbrev Q8x:=nF [Q8v,fV,gN,lz,jo,W]
abbrev Q8y:=nF [Q8v,Q8s,FT,ZB,jo,W]
abbrev Q8z:=nF [Q8v,Q8s,gN,lz,jo,W]
abbrev Q80:=kG Q8g Qnp
abbrev Q81:=gU d? Q80 (nF [Ob,fV,FQ,ZB,Q8h,W]) Q8p Q8q
abbrev JS (l:List Y):=iN::W::W::W::W::W::Q8c::fg::fv::l
def j9:=nZ 400 Q8b (oW (fX Qo fu) (cq (nJ Q8c) (gF Qm iQ (fU K7 Q6a (fo (JS [fV,gN,lz,jo,K7])) (fo (JS [fV,gN,lz,jo,Q6a]))) (fo (JS [fV,gN,lz,jo,iN]))) Qpd (ni Qjh Qpc (fX fv Q71) (eV Q8d) Q0 (cq (kG (ku Q8d) Fe) (cq (kG Q8g Fe) (dM (kG Q8h Q0) Q8j (sp d? Q8p Q8q) (dQ Q8r d? Q8t Q8u) Q8j (sp d? Q8w Q8x) (dQ Q8r d? Q8y Q8z)) Q8j (gU d? Q80 (nF [Q8v,fV,FQ,ZB,Q8h,W]) Q8w Q8x) (dQ Q8r d? (sp Q80 (nF [Q8v,Q8s,FQ,ZB,Q8h,W]) Q8y) Q8z)) Q8j Q81 (dQ Q8r d? (sp Q80 (nF [Ob,Q8s,FQ,ZB,Q8h,W]) Q8t) Q8u)) Q81) (nF [fv,fV,W,W,W,W])))
abbrev Q82:=sZ [fv,fV,kr Q72]
def Sp:=oW c_ (ni Qjh IS (fX bP Q71) Q73 gW (iR Q74 Q77 fl) (dF Q73 iQ (lh Q74 Q77 Q79 Q82 (sZ [fv,fV,Qi8])) Q73 wM Q82 (jM (kG Q73 IF) (kG Q73 Ja) fl)))
abbrev Q83:=nF [Ob,FT,ZB,jo,W]
abbrev Q84:=nF [Ob,gN,lz,jo,W]
abbrev Q85:=nF [Q8v,FT,ZB,jo,W]
abbrev Q86:=nF [Q8v,gN,lz,jo,W]
abbrev Q87:=gU d? Q80 (nF [Ob,FQ,ZB,Q8h,W]) Q83 Q84
def oY:=nZ 400 Q8b (oW (fX Qo fu) (cq (nJ Q8c) (gF Qm iQ (fU K7 Q6a (fo (JS [gN,lz,jo,K7])) (fo (JS [gN,lz,jo,Q6a]))) (fo (JS [gN,lz,jo,iN]))) Qpd (ni Qjh Qpc (fX fv Q71) (eV Q8d) Q0 (gF (ku Q8d) Fe (gF Q8g Fe (gF Q8h Q0 (dQ Q8j d? Q83 Q84) (dQ Q8j d? Q85 Q86)) (dQ Q8j d? (sp Q80 (nF [Q8v,FQ,ZB,Q8h,W]) Q85) Q86)) (iU Q8j Q87)) Q87) (nF [fv,W,W,W,W])))
def O_:=ju 20001 Qj
def N?:=ou [W,Qf]
def N!:=ju 20051 Qjf
def So:=sp K8 (np (gF Qjj Qb (ju 20051 Qjk) (ju 20052 [Qf,Qb,Gr gI (mk Qjj),FW]))) Qbb
def Sn:=gV Qi2 (rD Qq (gF Qqz Qb (ju 20052 Qje) (dI (gp Qcl Qlq) 20052 [Qf,Qb,Gr Qo (mk Qqz),Q1]))) [Q0,Qf,Qb,Qo]
abbrev Q88:=om fv
abbrev Q89:=fo [iN,Qo,Qm,W,W,W,W,W,W,fV,gN,lz,jo,iN]
abbrev Q9a:=we Qm wj Qtp RZ (vw Qt1)
abbrev Q9b:=el Qtt fV
abbrev Q9f:=oe (iE Q9b)
abbrev Q9g:=kO fV
abbrev GP (l:List Y):=iN::Oa::Qm::N9::Lb::tX::yg::Oc::IG::l
abbrev Q9h:=fo (GP [Q9g,FT,tX,jo,W])
abbrev Q9i:=fo (GP [Q9g,gN,lz,jo,W])
abbrev Q9j:=kr Q9b
abbrev Q9k:=fo (GP [Q9j,FT,tX,jo,W])
abbrev Q9l:=fo (GP [Q9j,gN,lz,jo,W])
abbrev Q9m:=gU NS R3 (fo (GP [Q9g,FQ,tX,yg,W])) Q9h Q9i
abbrev Q9n:=we Qm wj Qtp RZ gI
abbrev Q9o:=el Q9n bO
abbrev Q9q:=eV Q9o
abbrev Q9r:=el Qtt Q9q
abbrev Q9v:=oe (iE Q9r)
abbrev Q9w:=we Q9n wj Q9o gI (vw Q9q)
abbrev Q9x:=ji Q9w wj Q9w bO Qk (rV 24)
abbrev Q9y:=cn (rV 3) (mk tX)
abbrev Q9z:=j3 Q9x wj Q9x bO Q9y
abbrev Q90:=fo [iN,Oa,Q9z,N9,Lb,tX,yg,Oc,IG,fV,gN,lz,jo,iN]
abbrev Q91:=fo [iN,Oa,Q9w,N9,Lb,tX,yg,Oc,IG,fV,gN,lz,jo,iN]
abbrev Q92:=iU (fX (iE Q9r) (ga (el Q9w bO))) fl
abbrev Q93:=ji Q9w wj Q9w bO gI (oh 4 Q9r)
abbrev Q94:=ji Q93 wj Q93 bO Qk (rV 24)
abbrev Q95:=j3 Q94 wj Q94 bO Q9y
abbrev Q96:=fo [iN,Oa,Q95,N9,Lb,tX,yg,Oc,IG,fV,gN,lz,jo,iN]
abbrev Q97:=fo [iN,Oa,Q93,N9,Lb,tX,yg,Oc,IG,fV,gN,lz,jo,iN]
abbrev Q98:=iU (fX (iE Q9r) (ga (el Q93 bO))) fl
abbrev Q99:=ji Q95 wj Q95 bO Qk (rV 25)
abbrev att:=ji Q99 wj Q99 bO Qbd (mk yg)
abbrev atr:=ji Q9z wj Q9z bO Qk (rV 25)
abbrev atq:=ji atr wj atr bO Qbd (mk yg)
abbrev atp:=gU NS R3 (fo [iN,Oa,atq,N9,Lb,tX,yg,Oc,IG,fV,gN,lz,jo,iN]) Q90 Q91
abbrev ato:=oX Q9n wj Q9o U0
abbrev atn:=ji ato wj ato bO (rV 3) gI
abbrev atl:=ji atn wj atn bO Qbd gI
def CH:=iU Q5k (ot re Qto (nJ IG) (sp Qqa (dM Q88 (gp iN K7) (fo [iN,Qo,Qm,W,W,W,W,W,W,fV,gN,lz,jo,Q6a]) Q89 (gp Qt1 K7) (fo [iN,Qo,Q9a,W,W,W,W,W,W,fV,gN,lz,jo,iN]) Q89) Q89) (dM Q88 Qpd (ni tW (oe fV) (rQ fV) (eV Q9b) Q0 (gF (ku Q9b) Fe (gU Q5s Q5u (oy Q9f Q9h Q9i) (oy Q9f Q9k Q9l) (oy Q9f (sp R3 (fo (GP [Q9j,FQ,tX,yg,W])) Q9k) Q9l)) (iU Q9f Q9m)) Q9m) (fo (GP [fV,W,W,W,W])) (nJ (gT Q9o)) (ni tW (oe Q9q) (rQ Q9q) (eV Q9r) Q0 (cq (kG (ku Q9r) Fe) (cq Q5s (dM Q5u Q9v (sp NS Q90 Q91) Q92 Q9v (sp NS Q96 Q97) Q98) Q9v (gU NS R3 (fo [iN,Oa,att,N9,Lb,tX,yg,Oc,IG,fV,gN,lz,jo,iN]) Q96 Q97) Q98) Q9v atp Q92) atp) (fo [iN,Oa,atl,N9,Lb,tX,yg,Oc,IG,fV,gN,lz,jo,iN])))
abbrev aoW:=fo [iN,sN,Qo,Qm,W,W,W,W,W,W,fV,gN,lz,jo,iN,sN]
abbrev at6 (l:List Y):=iN::sN::Oa::Qm::N9::Lb::tX::yg::Oc::IG::l
abbrev py a0:=fo (at6 a0)
abbrev atk:=py [Q9g,gN,FT,tX,iN,W]
abbrev atj:=py [Q9g,gN,lz,jo,iN,W]
abbrev agJ:=gp (iE Q9b) Qi6
abbrev ZA:=I6 gN (oh 3 Q9b) (mk yg)
abbrev ati:=py [Q9g,ZA,FT,tX,iN,W]
abbrev ath:=py [Q9g,ZA,lz,jo,iN,W]
abbrev atg:=py [Q9j,gN,FT,tX,iN,W]
abbrev atf:=py [Q9j,gN,lz,jo,iN,W]
abbrev ate:=py [Q9j,ZA,FT,tX,iN,W]
abbrev atd:=py [Q9j,ZA,lz,jo,iN,W]
abbrev atc:=gU NS R3 (py [Q9g,gN,FQ,tX,yg,W]) atk atj
abbrev atb:=fo [iN,sN,Oa,Q9z,N9,Lb,tX,yg,Oc,IG,fV,gN,lz,jo,iN,sN]
abbrev ata:=fo [iN,sN,Oa,Q9w,N9,Lb,tX,yg,Oc,IG,fV,gN,lz,jo,iN,sN]
abbrev as9:=fo [iN,sN,Oa,Q95,N9,Lb,tX,yg,Oc,IG,fV,gN,lz,jo,iN,sN]
abbrev as8:=fo [iN,sN,Oa,Q93,N9,Lb,tX,yg,Oc,IG,fV,gN,lz,jo,iN,sN]
abbrev as7:=gU NS R3 (fo [iN,sN,Oa,atq,N9,Lb,tX,yg,Oc,IG,fV,gN,lz,jo,iN,sN]) atb ata
def CG:=iU Q5k (ot re Qto (nJ IG) (sp Qqa (dM Q88 (gp sN K7) (fo [iN,sN,Qo,Qm,W,W,W,W,W,W,fV,gN,lz,jo,iN,Q6r]) aoW (gp Qt1 K7) (fo [iN,sN,Qo,Q9a,W,W,W,W,W,W,fV,gN,lz,jo,iN,sN]) aoW) aoW) (dM Q88 (nJ lz) (ni tW (oe fV) (rQ fV) (eV Q9b) Q0 (cq (kG (ku Q9b) Fe) (cq Q5s (dM Q5u Q9f (sp NS atk atj) (oy agJ ati ath) Q9f (sp NS atg atf) (oy agJ ate atd)) Q9f (gU NS R3 (py [Q9j,gN,FQ,tX,yg,W]) atg atf) (oy agJ (sp R3 (py [Q9j,ZA,FQ,tX,yg,W]) ate) atd)) Q9f atc (oy agJ (sp R3 (py [Q9g,ZA,FQ,tX,yg,W]) ati) ath)) atc) (py [fV,gN,W,W,W,W]) (nJ (gT Q9o)) (ni tW (oe Q9q) (rQ Q9q) (eV Q9r) Q0 (cq (kG (ku Q9r) Fe) (cq Q5s (dM Q5u Q9v (sp NS atb ata) Q92 Q9v (sp NS as9 as8) Q98) Q9v (gU NS R3 (fo [iN,sN,Oa,att,N9,Lb,tX,yg,Oc,IG,fV,gN,lz,jo,iN,sN]) as9 as8) Q98) Q9v as7 Q92) as7) (fo [iN,sN,Oa,atl,N9,Lb,tX,yg,Oc,IG,fV,gN,lz,jo,iN,sN])))
def R!:=gM 1000 Qj 1000 Qj Qbb Qd2
end
theorem acn:S.tree 9000=OC:=cL
theorem WR:S.tree 9001=vX:=cL
theorem akf:S.tree 9002=aiL:=cL
theorem ake:S.tree 9003=aiK:=cL
theorem acm:S.tree 9004=C?:=cL
theorem ack:S.tree 9005=C!:=cL
theorem acj:S.tree 9006=C_:=cL
theorem aci:S.tree 9007=B?:=cL
theorem ach:S.tree 9050=ud:=cL
theorem acg:S.tree 9051=B!:=cL
theorem acf:S.tree 9052=B':=cL
theorem ace:S.tree 9053=B_:=cL
theorem akd:S.tree 9054=aiJ:=cL
theorem akc:S.tree 9055=aqn:=cL
theorem akb:S.tree 9056=aqm:=cL
theorem aka:S.tree 9057=aiI:=cL
theorem aj9:S.tree 9058=aql:=cL
theorem aj8:S.tree 9059=aqk:=cL
theorem QS:S.tree 9060=Gg:=cL
theorem aj7:S.tree 9061=aiH:=cL
theorem aj6:S.tree 9062=aiG:=cL
theorem QQ:S.tree 9063=Gf:=cL
theorem aj5:S.tree 9064=aiF:=cL
theorem aj4:S.tree 9065=aiE:=cL
theorem QP:S.tree 9066=Ge:=cL
theorem aj3:S.tree 9067=aiD:=cL
theorem aj2:S.tree 9068=aiC:=cL
theorem acd:S.tree 9069=A?:=cL
theorem acb:S.tree 9070=A!:=cL
theorem aca:S.tree 9071=A_:=cL
theorem ab9:S.tree 9072=z?:=cL
theorem ab8:S.tree 9073=z!:=cL
theorem ab7:S.tree 9074=z_:=cL
theorem ab6:S.tree 9100=y?:=cL
theorem ab5:S.tree 9101=Vn:=cL
theorem ab4:S.tree 9102=y!:=cL
theorem ab3:S.tree 9103=y_:=cL
theorem ab2:S.tree 9104=x?:=cL
theorem ab1:S.tree 9105=x!:=cL
theorem QO:S.tree 9106=Vm:=cL
theorem WQ:S.tree 9150=Vl:=cL
theorem WO:S.tree 9151=Jo:=cL
theorem ab0:S.tree 9152=Vk:=cL
theorem abZ:S.tree 9153=Vj:=cL
theorem QN:S.tree 9154=Jn:=cL
theorem abY:S.tree 9200=w8:=cL
theorem asO:S.tree 100=t100:=cL
theorem agk:S.tree 101=t101:=cL
theorem agj:S.tree 102=t102:=cL
theorem aoJ:S.tree 103=t103:=cL
theorem aoI:S.tree 150=t150:=cL
theorem agi:S.tree 151=t151:=cL
theorem aoH:S.tree 200=t200:=cL
theorem Nf:S.tree 201=t201:=cL
theorem agh:S.tree 202=t202:=cL
theorem aoE:S.tree 250=t250:=cL
theorem agf:S.tree 251=t251:=cL
theorem age:S.tree 300=ae2:=cL
theorem aoD:S.tree 301=X1:=cL
theorem aoC:S.tree 302=am2:=cL
theorem agd:S.tree 350=ae1:=cL
theorem agc:S.tree 351=ae0:=cL
theorem aoB:S.tree 400=jA:=cL
theorem asK:S.tree 450=aqy:=cL
theorem aoA:S.tree 451=am1:=cL
theorem aoz:S.tree 452=am0:=cL
theorem aoy:S.tree 453=amZ:=cL
theorem aox:S.tree 454=amY:=cL
theorem aow:S.tree 455=amX:=cL
theorem aov:S.tree 456=amW:=cL
theorem aou:S.tree 500=aeZ:=cL
theorem acv:S.tree 501=X0:=cL
theorem asJ:S.tree 550=aeY:=cL
theorem aot:S.tree 551=amV:=cL
theorem asI:S.tree 552=atK:=cL
theorem asH:S.tree 553=atJ:=cL
theorem asE:S.tree 600=aqs:=cL
theorem aos:S.tree 650=amU:=cL
theorem asD:S.tree 700=aqr:=cL
theorem aco:S.tree 750=D_:=cL
theorem asC:S.tree 800=aqq:=cL
theorem asB:S.tree 850=aqp:=cL
theorem aor:S.tree 851=aeX:=cL
theorem asA:S.tree 900=aqo:=cL
theorem asz:S.tree 950=aqj:=cL
theorem agb:S.tree 951=aeW:=cL
theorem aga:S.tree 952=aeV:=cL
theorem abX:S.tree 953=OB:=cL
theorem abW:S.tree 954=OA:=cL
theorem aln:S.tree 1000=ajy:=cL
theorem WW:S.tree 1050=Vv:=cL
theorem alm:S.tree 1100=ajx:=cL
theorem alk:S.tree 1101=aqI:=cL
theorem adE:S.tree 1102=V':=cL
theorem alj:S.tree 1150=ajw:=cL
theorem ali:S.tree 1200=ajv:=cL
theorem alh:S.tree 1250=aju:=cL
theorem alg:S.tree 1300=ajt:=cL
theorem alf:S.tree 1350=ajs:=cL
theorem WV:S.tree 1400=Vu:=cL
theorem adk:S.tree 1450=R_:=cL
theorem adi:S.tree 1451=Vt:=cL
theorem adh:S.tree 1452=Vs:=cL
theorem ale:S.tree 1500=ajr:=cL
theorem adf:S.tree 1501=Q?:=cL
theorem ald:S.tree 1550=ajq:=cL
theorem alc:S.tree 1600=ajp:=cL
theorem alb:S.tree 1650=ajo:=cL
theorem ade:S.tree 1700=Q!:=cL
theorem ala:S.tree 1750=Jq:=cL
theorem adb:S.tree 1751=Q':=cL
theorem ada:S.tree 1800=Q_:=cL
theorem ak9:S.tree 1850=DU:=cL
theorem ak8:S.tree 1900=zw:=cL
theorem ac9:S.tree 1901=P?:=cL
theorem ac8:S.tree 1902=P!:=cL
theorem ac7:S.tree 1903=P_:=cL
theorem ak7:S.tree 1904=ajn:=cL
theorem ak6:S.tree 1905=aqH:=cL
theorem ak5:S.tree 1906=aqG:=cL
theorem ak4:S.tree 1907=ajm:=cL
theorem ak3:S.tree 1908=aqF:=cL
theorem ak2:S.tree 1909=aqE:=cL
theorem ac6:S.tree 1910=O?:=cL
theorem ak1:S.tree 1911=aqD:=cL
theorem ak0:S.tree 1912=aqC:=cL
theorem ac5:S.tree 1913=O!:=cL
theorem akZ:S.tree 1914=ajl:=cL
theorem akY:S.tree 1915=ajk:=cL
theorem ac4:S.tree 1916=O':=cL
theorem akX:S.tree 1917=ajj:=cL
theorem akW:S.tree 1918=aji:=cL
theorem EC:S.tree 1950=zu:=cL
theorem akV:S.tree 2000=Gi:=cL
theorem asN:S.tree 2001=aqB:=cL
theorem asM:S.tree 2002=aqA:=cL
theorem asL:S.tree 2003=aqz:=cL
theorem akU:S.tree 2004=OG:=cL
theorem akT:S.tree 2005=OF:=cL
theorem akS:S.tree 2050=ajh:=cL
theorem ac0:S.tree 2051=N':=cL
theorem acZ:S.tree 2052=N_:=cL
theorem akR:S.tree 3800=ajg:=cL
theorem acQ:S.tree 3801=K?:=cL
theorem WU:S.tree 3850=Vr:=cL
theorem acP:S.tree 3851=K!:=cL
theorem acO:S.tree 3852=K':=cL
theorem akQ:S.tree 3900=ajf:=cL
theorem acN:S.tree 3901=Vq:=cL
theorem akP:S.tree 3950=aje:=cL
theorem akO:S.tree 3951=K_:=cL
theorem acM:S.tree 3952=J?:=cL
theorem mK:S.tree 4000=my:=cL
theorem akN:S.tree 4050=ajd:=cL
theorem acL:S.tree 4051=J!:=cL
theorem acK:S.tree 4052=J':=cL
theorem acJ:S.tree 4053=J_:=cL
theorem acI:S.tree 4054=OE:=cL
theorem akM:S.tree 4100=I?:=cL
theorem acH:S.tree 4101=I!:=cL
theorem akL:S.tree 4150=ajc:=cL
theorem akK:S.tree 4200=ajb:=cL
theorem KP:S.tree 4250=Jp:=cL
theorem acG:S.tree 4300=I':=cL
theorem acF:S.tree 4301=I_:=cL
theorem akJ:S.tree 4350=aja:=cL
theorem acE:S.tree 4351=H?:=cL
theorem akI:S.tree 4400=ai9:=cL
theorem acD:S.tree 4401=H!:=cL
theorem akH:S.tree 4450=ai8:=cL
theorem akG:S.tree 4500=ai7:=cL
theorem akF:S.tree 4550=ai6:=cL
theorem akE:S.tree 4600=ai5:=cL
theorem akD:S.tree 4650=ai4:=cL
theorem acC:S.tree 4700=H_:=cL
theorem WT:S.tree 4701=Vp:=cL
theorem acB:S.tree 4702=G?:=cL
theorem QT:S.tree 4703=OD:=cL
theorem akC:S.tree 4750=G!:=cL
theorem akB:S.tree 4800=ai3:=cL
theorem acA:S.tree 4801=G_:=cL
theorem acz:S.tree 4850=F?:=cL
theorem WS:S.tree 4851=Vo:=cL
theorem acy:S.tree 4852=F!:=cL
theorem akA:S.tree 4900=ai2:=cL
theorem acx:S.tree 4901=F_:=cL
theorem akz:S.tree 4950=ai1:=cL
theorem acw:S.tree 4951=E?:=cL
theorem acY:S.tree 22000=M?:=cL
theorem acX:S.tree 22001=M!:=cL
theorem Us:S.tree 22002=Sm:=cL
theorem acW:S.tree 22050=M_:=cL
theorem Nd:S.tree 22051=LA:=cL
theorem Nb:S.tree 22052=Lz:=cL
theorem M9:S.tree 22053=Ly:=cL
theorem acV:S.tree 22100=L?:=cL
theorem Ur:S.tree 22101=Lx:=cL
theorem Uq:S.tree 22150=Sl:=cL
theorem acU:S.tree 22151=Lw:=cL
theorem Up:S.tree 22152=Lv:=cL
theorem acT:S.tree 22200=L!:=cL
theorem Uo:S.tree 22201=Gh:=cL
theorem acS:S.tree 22250=L_:=cL
theorem acR:S.tree 22251=Lu:=cL
theorem Un:S.tree 22252=Lt:=cL
theorem Um:S.tree 22300=Sj:=cL
theorem Ul:S.tree 22350=w9:=cL
theorem DA:S.tree 22400=j8:=cL
theorem M8:S.tree 22450=Af:=cL
theorem aoG:S.tree 22451=am4:=cL
theorem M7:S.tree 22452=tl:=cL
theorem M6:S.tree 22453=tk:=cL
theorem aoF:S.tree 22454=am3:=cL
theorem M5:S.tree 22500=Ls:=cL
theorem aky:S.tree 5000=ai0:=cL
theorem akx:S.tree 5050=aiZ:=cL
theorem acu:S.tree 5051=E!:=cL
theorem akw:S.tree 5100=aiY:=cL
theorem akv:S.tree 5101=aqx:=cL
theorem aku:S.tree 5150=aiX:=cL
theorem akt:S.tree 5151=aqw:=cL
theorem akr:S.tree 5200=aiW:=cL
theorem akq:S.tree 5201=aqv:=cL
theorem akp:S.tree 5250=aiV:=cL
theorem acs:S.tree 5251=E_:=cL
theorem ako:S.tree 5300=aiU:=cL
theorem acr:S.tree 5301=D?:=cL
theorem akn:S.tree 5350=aiT:=cL
theorem acq:S.tree 5351=D!:=cL
theorem akm:S.tree 5400=aiS:=cL
theorem acp:S.tree 5401=D':=cL
theorem akl:S.tree 5450=aiR:=cL
theorem akk:S.tree 5451=aiQ:=cL
theorem akj:S.tree 5500=aiP:=cL
theorem aki:S.tree 5501=aiO:=cL
theorem asG:S.tree 5550=aqu:=cL
theorem asF:S.tree 5551=aqt:=cL
theorem akh:S.tree 5600=aiN:=cL
theorem akg:S.tree 5601=aiM:=cL
theorem M4:S.tree 24000=CJ:=cL
theorem M3:S.tree 24050=CI:=cL
theorem UB:S.tree 12000=SA:=cL
theorem Ni:S.tree 12001=LG:=cL
theorem adD:S.tree 12050=V_:=cL
theorem UA:S.tree 12051=LF:=cL
theorem Uz:S.tree 12100=Sz:=cL
theorem Nh:S.tree 12101=LD:=cL
theorem adC:S.tree 12150=U?:=cL
theorem Uy:S.tree 12151=LC:=cL
theorem adB:S.tree 12200=U!:=cL
theorem adA:S.tree 12250=U':=cL
theorem adz:S.tree 12251=U_:=cL
theorem ady:S.tree 12300=T?:=cL
theorem adx:S.tree 12350=T!:=cL
theorem adw:S.tree 12351=T_:=cL
theorem adv:S.tree 12400=S?:=cL
theorem adu:S.tree 12450=S!:=cL
theorem adt:S.tree 12500=S_:=cL
theorem ads:S.tree 12550=R?:=cL
theorem adr:S.tree 12600=Sy:=cL
theorem adq:S.tree 12650=Sv:=cL
theorem adp:S.tree 12700=Su:=cL
theorem ado:S.tree 12750=Ss:=cL
theorem Ux:S.tree 12800=Sr:=cL
theorem Uw:S.tree 12801=LB:=cL
theorem Uv:S.tree 12850=Sq:=cL
theorem Ng:S.tree 12851=Gj:=cL
theorem adm:S.tree 14000=CL:=cL
theorem adj:S.tree 14500=j9:=cL
theorem adl:S.tree 14050=Sp:=cL
theorem adg:S.tree 14550=oY:=cL
theorem ac3:S.tree 20000=O_:=cL
theorem ac2:S.tree 20001=N?:=cL
theorem ac1:S.tree 20050=N!:=cL
theorem Uu:S.tree 20051=So:=cL
theorem Ut:S.tree 20052=Sn:=cL
theorem M0:S.tree 24100=CH:=cL
theorem MZ:S.tree 24150=CG:=cL
theorem adn:S.tree 12900=R!:=cL
end Go.As.Try
end
section
namespace Go.As.Try
open Go hiding Stat Spec shape
open Go.As Go.Proofs
set_option maxRecDepth 100000
structure PT where
 j:Nat
 t:T Lf
 e:S.tree j=t
def pT {j:Nat} {t:T Lf} (e:S.tree j=t):PT:=⟨j,t,e⟩
noncomputable def trees:List PT:=[pT acn,pT WR,pT akf,pT ake,pT acm,pT ack,pT acj,pT aci,pT ach,pT acg,pT acf,pT ace,pT akd,pT akc,pT akb,pT aka,pT aj9,pT aj8,pT QS,pT aj7,pT aj6,pT QQ,pT aj5,pT aj4,pT QP,pT aj3,pT aj2,pT acd,pT acb,pT aca,pT ab9,pT ab8,pT ab7,pT ab6,pT ab5,pT ab4,pT ab3,pT ab2,pT ab1,pT QO,pT WQ,pT WO,pT ab0,pT abZ,pT QN,pT abY,pT asO,pT agk,pT agj,pT aoJ,pT aoI,pT agi,pT aoH,pT Nf,pT agh,pT aoE,pT agf,pT age,pT aoD,pT aoC,pT agd,pT agc,pT aoB,pT asK,pT aoA,pT aoz,pT aoy,pT aox,pT aow,pT aov,pT aou,pT acv,pT asJ,pT aot,pT asI,pT asH,pT asE,pT aos,pT asD,pT aco,pT asC,pT asB,pT aor,pT asA,pT asz,pT agb,pT aga,pT abX,pT abW,pT aln,pT WW,pT alm,pT alk,pT adE,pT alj,pT ali,pT alh,pT alg,pT alf,pT WV,pT adk,pT adi,pT adh,pT ale,pT adf,pT ald,pT alc,pT alb,pT ade,pT ala,pT adb,pT ada,pT ak9,pT ak8,pT ac9,pT ac8,pT ac7,pT ak7,pT ak6,pT ak5,pT ak4,pT ak3,pT ak2,pT ac6,pT ak1,pT ak0,pT ac5,pT akZ,pT akY,pT ac4,pT akX,pT akW,pT EC,pT akV,pT asN,pT asM,pT asL,pT akU,pT akT,pT akS,pT ac0,pT acZ,pT akR,pT acQ,pT WU,pT acP,pT acO,pT akQ,pT acN,pT akP,pT akO,pT acM,pT mK,pT akN,pT acL,pT acK,pT acJ,pT acI,pT akM,pT acH,pT akL,pT akK,pT KP,pT acG,pT acF,pT akJ,pT acE,pT akI,pT acD,pT akH,pT akG,pT akF,pT akE,pT akD,pT acC,pT WT,pT acB,pT QT,pT akC,pT akB,pT acA,pT acz,pT WS,pT acy,pT akA,pT acx,pT akz,pT acw,pT acY,pT acX,pT Us,pT acW,pT Nd,pT Nb,pT M9,pT acV,pT Ur,pT Uq,pT acU,pT Up,pT acT,pT Uo,pT acS,pT acR,pT Un,pT Um,pT Ul,pT DA,pT M8,pT aoG,pT M7,pT M6,pT aoF,pT M5,pT aky,pT akx,pT acu,pT akw,pT akv,pT aku,pT akt,pT akr,pT akq,pT akp,pT acs,pT ako,pT acr,pT akn,pT acq,pT akm,pT acp,pT akl,pT akk,pT akj,pT aki,pT asG,pT asF,pT akh,pT akg,pT M4,pT M3,pT UB,pT Ni,pT adD,pT UA,pT Uz,pT Nh,pT adC,pT Uy,pT adB,pT adA,pT adz,pT ady,pT adx,pT adw,pT adv,pT adu,pT adt,pT ads,pT adr,pT adq,pT adp,pT ado,pT Ux,pT Uw,pT Uv,pT Ng,pT adm,pT adj,pT adl,pT adg,pT ac3,pT ac2,pT ac1,pT Uu,pT Ut,pT M0,pT MZ,pT adn]
theorem v!:trees.all (fun p=>RL [] p.t)=true:=aa
theorem aoQ:alp (Kk 484 feT) 484 (trees.map PT.j)=true:=aa
theorem aeM (j:Nat):RL [] (S.tree j)=true:=by
 cases h:wi St.t j with
 |none=>exact XW (S:=St) h
 |some e=> obtain⟨p,hp,rfl⟩:=aW.1 (cov aoQ (fun k hk=>aaR hk) h);rw [p.e];exact aP.1 v! p hp
noncomputable def L:qq:=qX S.tree
theorem bK (j:Nat) (xs:List Int):L j xs=fin L (dV (cN L (low xs)) (S.tree j)):=anu aeM j xs
end Go.As.Try
end
section
namespace Go.As.Try
open Go hiding Stat
open Go.As Go.Proofs Go.RowKit Go.ChangeShapes Go.WideShapes Go.ChangeAt
open Go.Proofs.YteclpbehflfjiaaGreatDoor
set_option maxRecDepth 100000
theorem own:ownKnob Tryz.prog.godebug=none:=aa
theorem laidOut:laidOutB Tryz.prog=true:=aa
def aft:TypeId->Option Nat:=Ev (arb.take 12)
def ownB (P:Program) (own:TypeId->Option Nat) (l:List (Nat×Nat)):Bool:=l.all fun p=>match P.underlying p.1 with
 |some (.slice e)=>decide (wg P own 8 e=some (l7 p.2))&&Nat.beq (P.cellsOf e) (l7 p.2).length&&Nat.ble (nU p.2) (P.bytesOf e)&&Nat.ble 1 (l7 p.2).length
 |_=>false
theorem KD {t i:Nat}: ∀{l:List (Nat×Nat)},Ev l t=some i->(t,i)∈l
 |[],h=>by simp [Ev] at h
 |(a,k)::l,h=>by
  unfold Ev at h;split at h
  ·rename_i hb;have:=ay hb;simp only [ah] at h;subst this h;simp
  ·exact awf _ (KD h)
theorem afv {P:Program} {l:List (Nat×Nat)} (h:ownB P (Ev l) l=true):aeq P (Ev l):=by
 intro t i iH;have:=aP.1 h _ (KD iH);simp only at this;split at this
 ·rename_i e he;simp only [aq,decide_eq_true_eq] at this;exact⟨e,8,he,this.1.1.1,ay this.1.1.2,avU this.1.2,avU this.2⟩
 ·simp at this
theorem afs:aeq Tryz.prog aft:=afv aa
theorem afY {Z!:World} (h:Z!.ShapedOpen Tryz.prog):base.ok (SQ Z!) Z!.heap:=by obtain⟨m,hm⟩:=LaysM.n144.s1_3 Tryz.laysM144 Z! h;exact⟨Xm hm,m,by rw [<- qj]; exact hm⟩
def V0:DataW Unit->Value
 | .lit (.int k n)=> .int k n
 |_=>undef
def aoR:DataW Unit->Array Value
 | .agg l=>(l.map V0).toArray
 |d=> #[V0 d]
def arv (d:DataW Unit):Obj->Obj
 | .cells _ t f=> .cells (aoR d) t f
 |o=>o
noncomputable def anv (h:Array Obj) (x:String×DataW Unit):Array Obj:=match Tryz.prog.globalNamed x.1 with
 |some g=>h.modify g (arv x.2)
 |none=>h
noncomputable def Dg (os:Os):World:=
 { World.holding Tryz.prog os ⟨#[],#[],[]⟩ with heap:=Rows.machineTellsRow.laid.foldl anv (World.holding Tryz.prog os ⟨#[],#[],[]⟩).heap }
theorem uN {ro:Nat->Prop} {h:Array Obj} {i:Nat} {d:D} {v:Value} (r:Rd ro h (.sl i) d v):yj ro h (.sl i) (enc d) v:=by show Rd ro h (.sl i) (dec (enc d)) v;rw [bG];exact r
theorem aei {ro:Nat->Prop} {h:Array Obj} {u:Value} (a:agL [.one .bool] [1] ro h u):u= .bool true:=by
 obtain⟨us,fl,hs,hc,hu⟩:=a
 cases hs with
 |one c v hs=> cases hs;simp only [qP,RK.flat,av4,aG,ax] at hc;obtain⟨n,ns',u',iI,U,Z,h3,h4⟩:=hc;simp only [List.cons.injEq] at U Z;obtain⟨rfl,_⟩:=U;obtain⟨rfl,_⟩:=Z;rw [hu];exact h3
theorem ad0 {g j:Nat} {e:ES} (hn:j∈S.EW g) (he:S.cG j=some e) (hp:e.pat=none) (hr:e.mw= [.one .bool]) {xs:List Int} (hL:L j xs=some [1]) {Z!:World} (AT:Z!.ShapedOpen Tryz.prog) {vals fl:List Value} (U:Shape e.Ix vals fl) (Z:iC (SQ Z!) Z!.heap (qP e.Ix) xs fl) :
 Calls Tryz.prog g vals.toArray Z! fun en W'=>en= .returned (.bool true)/\Below Z!.heap.size Z! W':=by
 obtain⟨n,mY⟩:=L8 hL;refine (V! am5 hn he hp n xs [1] mY (SQ Z!) Z! vals fl (fun _ h=>h) (afY AT) U Z).mono fun en W' ⟨u,hu,hb,pH,_,_,_,ha⟩=>?_;rw [hr] at ha;rw [aei ha] at hu;exact⟨hu,hb⟩
end Go.As.Try
end
section
namespace Go.As
def prune (Z' N:List SB):T Lf->T Lf
 | .fail=> .fail
 | .ret l=> .ret l
 | .split c x y=>match Z'.contains c with
   |true=>prune Z' N x
   |false=>match N.contains c with
    |true=>prune Z' N y
    |false=> .split c (prune Z' N x) (prune Z' N y)
def zY (ρ:Nat->Int):List SB->Prop
 |[]=>True
 |c::l=>c.den ρ=true/\zY ρ l
def zW (ρ:Nat->Int):List SB->Prop
 |[]=>True
 |c::l=> ¬c.den ρ=true/\zW ρ l
theorem p_ {ρ:Nat->Int}: ∀{l:List SB},zY ρ l->∀c∈l,c.den ρ=true
 |[],_,c,h=>by simp at h
 |a::l,hz,c,h=>by
  rcases aH.1 h with rfl|h
  ·exact hz.1
  ·exact p_ hz.2 c h
theorem q_ {ρ:Nat->Int}: ∀{l:List SB},zW ρ l->∀c∈l,c.den ρ=false
 |[],_,c,h=>by simp at h
 |a::l,hz,c,h=>by
  rcases aH.1 h with rfl|h
  ·simpa using hz.1
  ·exact q_ hz.2 c h
theorem p! {ρ:Nat->Int}: ∀{a b:List SB},zY ρ a->zY ρ b->zY ρ (a++b)
 |[],_,_,h=>h
 |_::_,_,h,h'=> ⟨h.1,p! h.2 h'⟩
theorem q' {ρ:Nat->Int}: ∀{a b:List SB},zW ρ a->zW ρ b->zW ρ (a++b)
 |[],_,_,h=>h
 |_::_,_,h,h'=> ⟨h.1,q' h.2 h'⟩
theorem dU {ρ:Nat->Int} {Z' N:List SB} (h:zY ρ Z'/\zW ρ N): ∀t,dV ρ (prune Z' N t)=dV ρ t
 | .fail=>rfl
 | .ret l=>rfl
 | .split c x y=>by
   simp only [prune,dV];split
   ·rename_i h';rw [p_ h.1 c (axK.1 h'),ag rfl];exact dU h x
   ·split
    ·rename_i h';rw [q_ h.2 c (axK.1 h'),af ad];exact dU h y
    ·simp only [dV,dU h x,dU h y]
theorem bA {ρ:Nat->Int} (Z' N:List SB) {t:T Lf} {R:RS} (u:T Lf) (h:zY ρ Z'/\zW ρ N) (k:prune Z' N t=u) (h':dV ρ u=R):dV ρ t=R:=by rw [<- dU h t,k,h']
theorem zz :
 (∀{ρ:Nat->Int} (c:SB) (a b:T Lf),dV ρ (sp c a b)=if c.den ρ=true then dV ρ a else dV ρ b)/\
 (∀{ρ:Nat->Int} (l:List Y),dV ρ (ou l)= .out (l.map (Y.den ρ)))/\
 (∀{ρ:Nat->Int} (j:Nat) (l:List Y),dV ρ (ju j l)= .jump j (l.map (Y.den ρ)))/\
 (∀{ρ:Nat->Int},dV ρ fl= .no)/\
 (∀{ρ:Nat->Int} (a b:Y),((SB.lt a b).den ρ=true)=(a.den ρ<b.den ρ))/\
 (∀{ρ:Nat->Int} (a b:Y),((SB.eq a b).den ρ=true)=(a.den ρ=b.den ρ))/\
 (∀(F:qq) (lo:Nat->Int),(Y.dN 0).den (cN F lo)=lo 0)/\
 (∀(F:qq) (lo:Nat->Int),(Y.dN 1).den (cN F lo)=lo 1)/\
 (∀(F:qq) (lo:Nat->Int),(Y.dN 2).den (cN F lo)=lo 2)/\
 (∀(F:qq) (lo:Nat->Int),(Y.dN 3).den (cN F lo)=lo 3)/\
 (∀(F:qq) (lo:Nat->Int),(Y.dN 4).den (cN F lo)=lo 4)/\
 (∀(F:qq) (lo:Nat->Int),(Y.dN 5).den (cN F lo)=lo 5)/\
 (∀(F:qq) (lo:Nat->Int),(Y.dN 6).den (cN F lo)=lo 6)/\
 (∀(F:qq) (lo:Nat->Int),(Y.dN 7).den (cN F lo)=lo 7)/\
 (∀(F:qq) (lo:Nat->Int),(Y.dN 8).den (cN F lo)=lo 8)/\
 (∀(F:qq) (lo:Nat->Int),(Y.dN 9).den (cN F lo)=lo 9)/\
 (∀(F:qq) (lo:Nat->Int),(Y.dN 10).den (cN F lo)=lo 10)/\
 (∀(F:qq) (lo:Nat->Int),(Y.dN 11).den (cN F lo)=lo 11)/\
 (∀(F:qq) (lo:Nat->Int),(Y.dN 12).den (cN F lo)=lo 12)/\
 (∀(F:qq) (lo:Nat->Int),(Y.dN 13).den (cN F lo)=lo 13)/\
 (∀(F:qq) (lo:Nat->Int),(Y.dN 14).den (cN F lo)=lo 14)/\
 (∀(F:qq) (lo:Nat->Int),(Y.dN 15).den (cN F lo)=lo 15)/\
 (∀(F:qq) (lo:Nat->Int),(Y.dN 16).den (cN F lo)=lo 16)/\
 (∀(F:qq) (lo:Nat->Int),(Y.dN 17).den (cN F lo)=lo 17)/\
 (∀(F:qq) (lo:Nat->Int),(Y.dN 18).den (cN F lo)=lo 18)/\
 (∀(F:qq) (lo:Nat->Int),(Y.dN 19).den (cN F lo)=lo 19)/\
 (∀(F:qq) (lo:Nat->Int),(Y.dN 20).den (cN F lo)=lo 20)/\
 (∀(F:qq) (lo:Nat->Int),(Y.dN 21).den (cN F lo)=lo 21)/\
 (∀(F:qq) (lo:Nat->Int),(Y.dN 22).den (cN F lo)=lo 22)/\
 (∀(F:qq) (lo:Nat->Int),(Y.dN 23).den (cN F lo)=lo 23)/\
 (∀(F:qq) (lo:Nat->Int),(Y.dN 24).den (cN F lo)=lo 24)/\
 (∀(F:qq) (lo:Nat->Int),(Y.dN 25).den (cN F lo)=lo 25)/\
 (∀{ρ:Nat->Int} (n:Int),(Y.lit n).den ρ=n)/\
 (∀{ρ:Nat->Int} (d:D),(Y.eW d).den ρ=enc d)/\
 (∀{ρ:Nat->Int} (a:Y),(ln a).den ρ=((dec (a.den ρ)).l.length:Int))/\
 (∀{ρ:Nat->Int} (a:Y),(nm a).den ρ=(dec (a.den ρ)).n)/\
 (∀{ρ:Nat->Int} (j:Nat) (a:Y),(ce j a).den ρ=enc ((dec (a.den ρ)).V j))/\
 (∀{ρ:Nat->Int} (a b:Y),(el a b).den ρ=enc ((dec (a.den ρ)).at (b.den ρ)))/\
 (∀{ρ:Nat->Int} (a b:Y),(cn a b).den ρ=enc (.p (dec (a.den ρ)) (dec (b.den ρ))))/\
 (∀{ρ:Nat->Int} (a:Y),(mk a).den ρ=enc (.i (a.den ρ)))/\
 (∀{ρ:Nat->Int} (a:Y),(wr a).den ρ=IntKind.i64.wrap (a.den ρ))/\
 (∀{ρ:Nat->Int} (a b:Y),(Y.add a b).den ρ=a.den ρ+b.den ρ)/\
 (∀{ρ:Nat->Int} (a b:Y),(Y.sub a b).den ρ=a.den ρ-b.den ρ)/\
 (∀{ρ:Nat->Int} (o:gX) (a b:Y),(Y.op o a b).den ρ=o.den (a.den ρ) (b.den ρ))/\
 (∀{F:qq} {lo:Nat->Int} (j:Nat) (l:List Y),(a0 j l).den (cN F lo)=if (F j (l.map (Y.den (cN F lo)))).isSome=true then 1 else 0)/\
 (∀{F:qq} {lo:Nat->Int} (j:Nat) (l:List Y) (i:Nat),(rr j l i).den (cN F lo)=low ((F j (l.map (Y.den (cN F lo)))).getD []) i)/\
 (∀{x:Int} {xs:List Int},low (x::xs) 0=x)/\
 (∀{x:Int} {xs:List Int} {i:Nat},low (x::xs) (i+1)=low xs i)/\
 (∀{f:Y->Int},List.map f []= [])/\
 (∀{f:Y->Int} {a:Y} {l:List Y},List.map f (a::l)=f a::List.map f l)/\
 (∀d:D,dec (enc d)=d)/\
 (∀n:Int,(D.i n).n=n)/\
 (∀{α:Type} (a:α),(some a).isSome=true)/\
 (∀{α:Type} (a b:α),(some a).getD b=a)/\
 (∀{α:Type} {_:Decidable True} (a b:α),ite True a b=a)/\
 (∀{α:Type} {_:Decidable False} (a b:α),ite False a b=b)/\
 (∀{ρ:Nat->Int},zY ρ []=True)/\
 (∀{ρ:Nat->Int} (c:SB) (l:List SB),zY ρ (c::l)=(c.den ρ=true/\zY ρ l))/\
 (∀{ρ:Nat->Int},zW ρ []=True)/\
 (∀{ρ:Nat->Int} (c:SB) (l:List SB),zW ρ (c::l)=(¬c.den ρ=true/\zW ρ l))/\
 (∀x y:Int,gX.den .len x y=((dec x).l.length:Int))/\
 (∀x y:Int,gX.den .at x y=enc ((dec x).at y))/\
 (∀(x y:Int) (j:Nat),gX.den (.cell j) x y=enc ((dec x).V j))/\
 (∀x y:Int,gX.den .num x y=(dec x).n)/\
 (∀x y:Int,gX.den .mk x y=enc (.i x))/\
 (∀x y:Int,gX.den .cons x y=enc (.p (dec x) (dec y)))/\
 (∀x y:Int,gX.den .snoc x y=enc (dL ((dec x).l++ [dec y])))/\
 (∀x y:Int,gX.den .cat x y=enc (dL ((dec x).l++(dec y).l)))/\
 (∀x y:Int,gX.den .take x y=enc (gq (dec x) ((dec x).l.take y.toNat)))/\
 (∀x y:Int,gX.den .drop x y=enc (gq (dec x) ((dec x).l.drop y.toNat)))/\
 (∀(x:Int) (q v:D),gX.den .set x (enc (.p q v))=enc (dL (dC (dec x).l q.n v)))/\
 (∀x y:Int,gX.den .bit x y=enc (.i (if (dec x).n=0 then 0 else 1)))/\
 (∀x y:Int,gX.den .norm x y=enc (dec x))/\
 (∀x y:Int,gX.den .EX x y=if (lG (dec x).l (dec y)).isSome then 1 else 0)/\
 (∀x y:Int,gX.den .EY x y=enc ((lG (dec x).l (dec y)).getD (.i 0)))/\
 (∀(x:Int) (k v:D),gX.den .zh x (enc (.p k v))=enc (dL (wA (dec x).l k v)))/\
 (∀x y:Int,gX.den .rep x y=enc (dL (List.replicate x.toNat (dec y))))/\
 (∀(x:Int) (q v:D),gX.den .fill x (enc (.p q v))=enc (dL ((dec x).l.take q.n.toNat++List.replicate ((dec x).l.length-q.n.toNat) v)))/\
 (∀x y:Int,gX.den .sub x y=enc (dL (((dec x).l.take ((dec y).V 1).n.toNat).drop ((dec y).V 0).n.toNat)))/\
 (∀x y:Int,gX.den .idx x y=Ig (dec x).l y)/\
 (∀x y:Int,gX.den .cnt x y=adQ (dec x).l y)/\
 (∀x y:Int,gX.den .con x y=if Cb (dec x).l (dec y).l then 1 else 0)/\
 (∀x y:Int,gX.den .slt x y=if QV (dec x).l (dec y).l then 1 else 0)/\
 (∀x y:Int,gX.den .Tc x y=enc (dL (L3 (dec x).l (dec y))))/\
 (∀p:Prop,(p/\True)=p)/\(∀p:Prop,(True/\p)=p)/\(¬False)=True:=
 ⟨eR,oZ,mf,CM,uo,pV,fun _ _=>cC ae,fun _ _=>cC ae,fun _ _=>cC ae,fun _ _=>cC ae,fun _ _=>cC ae,fun _ _=>cC ae,fun _ _=>cC ae,fun _ _=>cC ae,fun _ _=>cC ae,fun _ _=>cC ae,fun _ _=>cC ae,fun _ _=>cC ae,fun _ _=>cC ae,fun _ _=>cC ae,fun _ _=>cC ae,fun _ _=>cC ae,fun _ _=>cC ae,fun _ _=>cC ae,fun _ _=>cC ae,fun _ _=>cC ae,fun _ _=>cC ae,fun _ _=>cC ae,fun _ _=>cC ae,fun _ _=>cC ae,fun _ _=>cC ae,fun _ _=>cC ae,e9,mP,k7,H6,adI,H8,Np,Nn,xS,den_add,agr,Nl,sg,pD,cM _,cV _ _,rfl,rfl,bG,Br,fun _=>rfl,fun _ _=>rfl,fun _ _=>ag trivial,fun _ _=>af id,rfl,fun _ _=>rfl,rfl,fun _ _=>rfl,fun _ _=>rfl,fun _ _=>rfl,fun _ _ _=>rfl,fun _ _=>rfl,fun _ _=>rfl,fun _ _=>rfl,fun _ _=>rfl,fun _ _=>rfl,fun _ _=>rfl,fun _ _=>rfl,fun _ _ _=>by show (match dec (enc _) with | .p q v=>_|_=>_)=_; rw [bG],fun _ _=>rfl,fun _ _=>rfl,fun _ _=>rfl,fun _ _=>rfl,fun _ _ _=>by show (match dec (enc _) with | .p q v=>_|_=>_)=_; rw [bG],fun _ _=>rfl,fun _ _ _=>by show (match dec (enc _) with | .p q v=>_|_=>_)=_; rw [bG],fun _ _=>rfl,fun _ _=>rfl,fun _ _=>rfl,fun _ _=>rfl,fun _ _=>rfl,fun _ _=>rfl,and_true,true_and,not_false_eq_true⟩
theorem zg:(∀(l:List D) (j:Nat),(dL l).V j=(l[j]?).getD (.i 0))/\(∀(a:D) (l:List D),(a::l)[0]?=some a)/\(∀(a:D) (l:List D) (i:Nat),(a::l)[i+1]?=l[i]?):=⟨eh,fun _ _=>rfl,fun _ _ _=>rfl⟩
end Go.As
end
section
namespace Go.As.Try
open Go hiding Stat Spec shape
open Go.As
set_option maxRecDepth 100000
section
variable {p:List Int->Prop} {j:Nat} {xs:List Int} {a b:Int}
def Ends (p:List Int->Prop) (R:RS):Prop:= ∃ys,fin L R=some ys/\p ys
def bL (j:Nat) (xs:List Int) (p:List Int->Prop):Prop:= ∃ys,L j xs=some ys/\p ys
theorem bL.of (h:Ends p (dV (cN L (low xs)) (S.tree j))):bL j xs p:=by obtain⟨ys,U,Z⟩:=h;exact⟨ys,by rw [bK]; exact U,Z⟩
theorem Ends.ite {c:Prop} [Decidable c] {a b:RS} (U:c->Ends p a) (Z: ¬c->Ends p b):Ends p (if c then a else b):=by
 grind
theorem Ends.out {ys:List Int} (h:p ys):Ends p (.out ys):=⟨ys,rfl,h⟩
theorem Ends.jump (h:bL j xs p):Ends p (.jump j xs):=h
def wB (ys:List Int):Prop:= ∃c:Int,ys= [c]/\(c=0\/c=1)
theorem Ay:wB [0]:=⟨0,rfl,.inl rfl⟩
theorem tw:wB [1]:=⟨1,rfl,.inr rfl⟩
def fy (x:D):D:=dL [.i (-1),.i (if (x.V 0).n=3\/(x.V 0).n=9 then (x.V 2).n else 0),.i 0,.i 0,.i 1,.i 1]
theorem Iv (d0:D) (hlen:d0.l.length<=64): ∀(k i:Nat) (acc:List D),i+k=d0.l.length->acc.length=i->
 L 302 [enc (dL acc),enc d0,(d0.l.length:Int),(i:Int)]=some [enc (dL (acc++(d0.l.drop i).map fy))]
 |0,i,acc,U,Z=>by
  rw [bK,aoC];simp only [am2,eR,oZ,uo,cC,cM,cV,Nat.reduceLT,fin,List.map]
  grind
 |k+1,i,acc,U,Z=>by
  have hi:i<d0.l.length:=J
  have V:d0.l.drop i=d0.l[i]::d0.l.drop (i+1):=aM hi;have ih:=fun x=>Iv d0 hlen k (i+1) (acc++ [x]) J (by simp [Z]);rw [bK,aoC,V];simp only [am2,eR,oZ,mf,CM,uo,pV,cC,k7,e9,H6,adI,H8,Nl,Np,Nn,mP,xS,den_add,cM,cV,Nat.reduceLT,List.map,bG,bF,bI hi];have w:=bB (n:=i) J;have c1:(i:Int)<(d0.l.length:Int):=J
  have c2: ¬((i:Int)<0):=J
  have c3:(acc.length:Int)<1759218604440:=J
  simp only [c1,c2,c3,w,if_true,if_false,fin,gX.den,bG,bF];by_cases h3:(d0.l[i].V 0).n=3
  ·simp only [h3,if_true,fin];have:=ih (fy d0.l[i]);simp only [fy,h3,true_or,if_true,dL] at this ⊢
   grind
  ·by_cases h9:(d0.l[i].V 0).n=9
   ·simp only [af h3,ag h9,fin];have:=ih (fy d0.l[i]);simp only [fy,ag (Or.inr h9:(d0.l[i].V 0).n=3\/(d0.l[i].V 0).n=9),dL] at this ⊢
    grind
   ·simp only [af h3,af h9,fin];have:=ih (fy d0.l[i]);simp only [fy,h3,h9,or_self,if_false,dL] at this ⊢
    grind
end
section
variable {d:D} {l:List D}
def Bs (d:D):Prop:=d=dL d.l/\∀(i:Nat) (h:i<d.l.length),0<=(d.l[i]).n/\(d.l[i]).n<256
theorem Eb (d:D) (hb:Bs d) (hlen:d.l.length<=1000000): ∀(k i:Nat) (n:Int),i+k=d.l.length->∃a b,L 1102 [n,enc d,(d.l.length:Int),(i:Int)]=some [a,b]
 |0,i,n,U=>by rw [bK,adE];simp only [V',eR,oZ,uo,cC,cM,cV,Nat.reduceLT,List.map,e9];rw [af J];exact⟨_,_,rfl⟩
 |k+1,i,n,U=>by
  have hi:i<d.l.length:=J
  have ih:=fun x=>Eb d hb hlen k (i+1) x J;rw [bK,adE];have w:=bB (n:=i) J;have c1:(i:Int)<(d.l.length:Int):=J
  have c2: ¬((i:Int)<0):=J
  simp only [V',eR,oZ,mf,CM,uo,cC,cM,cV,Nat.reduceLT,List.map,e9,k7,bG,c1,c2,if_true,if_false,xS,den_add,w];split
  ·exact⟨_,_,rfl⟩
  ·exact ih _
theorem S8 (d:D) (hb:Bs d) (hlen:d.l.length<=1000000): ∃a b,L 1100 [enc d]=some [a,b]:=by
 rw [bK,alm];simp only [ajx,eR,mf,pV,cC,cM,cV,Nat.reduceLT,List.map,e9,k7,bG];split
 ·show ∃a b,L 1101 []=some [a,b];rw [bK,alk];exact⟨_,_,rfl⟩
 ·exact Eb d hb hlen d.l.length 0 _ J
theorem KU (z:Int): ∀(l:List D) (i:Nat),s8 z l (i:Int)= -1\/((i:Int)<=s8 z l i/\s8 z l i<(i:Int)+l.length)
 |[],i=> .inl rfl
 |d::l,i=>by
  have ih:=KU z l (i+1);have hc:((i+1:Nat):Int)=(i:Int)+1:=J
  rw [hc] at ih;have hl:((d::l).length:Int)=(l.length:Int)+1:=ad
  cases d with
  |i n=>
   simp only [s8]
   grind
  |p a b=>
   simp only [s8]
   grind
theorem adP {z:Int} (h:d≠.i z) (h0: ¬Ig (d::l) z<0):1<=Ig (d::l) z/\Ig (d::l) z<(l.length:Int)+1:=by
 have U:=KU z l 1
 have key:Ig (d::l) z=s8 z l ((1:Nat):Int):=by
  unfold Ig
  cases d with
  |i n=>
   simp only [s8]
   grind
  |p a b=>rfl
 grind
theorem asR:(b0.at 10).n=1:=by show (b0.at ((10:Nat):Int)).n=1;kernel_rfl
theorem xY (d:D) (hb:Bs d) (hlen:d.l.length<=1000000) (x1:Int): ∀(k i:Nat),d.l.length-i<=k->i<=d.l.length->∃p:Nat,p<=d.l.length/\L 12801 [enc d,x1,(i:Int)]=some [0,enc d,x1,(p:Int)]
 |k,i,U,Z=>by
  rw [bK,Uw];have c2: ¬((i:Int)<0):=J
  by_cases hi:i<d.l.length
  ·have c1:(i:Int)<(d.l.length:Int):=J
   have w:=bB (n:=i) J;obtain⟨b1,b2⟩:=hb.2 i hi;have b1: ¬(d.l[i]).n<0:=J
   obtain⟨k,rfl⟩ : ∃k',k=k'+1:=⟨k-1,J⟩;have Dn:(d.l.take d.l.length).drop i=d.l[i]::d.l.drop (i+1):=by rw [awO,aM hi]
   simp only [LB,eR,oZ,mf,CM,uo,pV,cC,cM,cV,Nat.reduceLT,List.map,e9,mP,k7,bG,c1,c2,if_true,if_false,xS,den_add,w,H6,H8,bI hi,b1,b2];by_cases q1:(b0.at (d.l[i]).n).n=1
   ·simp only [q1,if_true];exact xY d hb hlen x1 k (i+1) J J
   ·by_cases q2:(b0.at (d.l[i]).n).n=2
    ·simp only [af q1,ag q2]
     have kg:d.l[i]≠.i 10:=by intro h;rw [h] at q1;exact q1 asR
     simp only [aL,if_false,Nl,gX.den,Np,Nn,mP,k7,cC,e9,cM,cV,Nat.reduceLT,bG,D.V,ZT,sK,Br,aA,aC,az,aQ,bF,Dn];split
     ·exact⟨d.l.length,aw _,by simp [fin]⟩
     ·rename_i h0;obtain⟨g1,g2⟩:=adP kg h0;rw [bp] at g2;obtain⟨m,hm⟩ : ∃m:Nat,Ig (d.l[i]::d.l.drop (i+1)) 10=(m:Int):=⟨(Ig (d.l[i]::d.l.drop (i+1)) 10).toNat,J⟩;have w2:IntKind.i64.wrap ((i:Int)+(m:Int))=((i+m:Nat):Int):=by rw [fB J J]; omega
      simp only [hm,w2,fin];exact xY d hb hlen x1 k (i+m) J J
    ·simp only [af q1,af q2];exact⟨i,J,rfl⟩
  ·have c1: ¬(i:Int)<(d.l.length:Int):=J
   simp only [LB,eR,oZ,uo,cC,cM,cV,Nat.reduceLT,List.map,e9,k7,bG,c1,if_false];exact⟨i,J,rfl⟩
theorem UJ (d:D) (hb:Bs d) (hlen:d.l.length<=1000000) (i:Nat) (hi:i<=d.l.length): ∃p:Nat,p<=d.l.length/\L 12800 [enc d,(i:Int)]=some [0,enc d,(i:Int),(p:Int)]:=by rw [bK,Ux];simp only [Sr,mf,cC,cM,cV,Nat.reduceLT,List.map];exact xY d hb hlen _ _ i (aw _) hi
theorem KN (d:D) (hb:Bs d) (hlen:d.l.length<=1000000) (x1 x2:Int): ∀(k i:Nat),d.l.length-i<=k->i<=d.l.length->∃p:Nat,i<=p/\p<=d.l.length/\L 12851 [enc d,x1,x2,(i:Int)]=some [0,enc d,x1,(p:Int)]
 |k,i,U,Z=>by
  rw [bK,Ng];have c2: ¬((i:Int)<0):=J
  by_cases hi:i<d.l.length
  ·have c1:(i:Int)<(d.l.length:Int):=J
   have w:=bB (n:=i) J;obtain⟨b1,b2⟩:=hb.2 i hi;have b1: ¬(d.l[i]).n<0:=J
   obtain⟨k,rfl⟩ : ∃k',k=k'+1:=⟨k-1,J⟩
   have ih: ∃p:Nat,i<=p/\p<=d.l.length/\L 12851 [enc d,x1,x2,((i+1:Nat):Int)]=some [0,enc d,x1,(p:Int)]:=by
    obtain⟨p,q1,q2,q3⟩:=KN d hb hlen x1 x2 k (i+1) J J
    grind
   simp only [Gj,eR,oZ,mf,CM,uo,pV,cC,cM,cV,Nat.reduceLT,List.map,e9,mP,k7,bG,c1,c2,if_true,if_false,xS,den_add,w,H6,H8,bI hi,b1,b2];split
   ·exact ih
   ·split
    ·split
     ·exact ih
     ·exact j!
    ·exact j!
  ·have c1: ¬(i:Int)<(d.l.length:Int):=J
   simp only [Gj,eR,oZ,uo,cC,cM,cV,Nat.reduceLT,List.map,e9,k7,bG,c1,if_false];exact j!
theorem afI {a b:D} (h:enc (dL l)=enc (.p a (.p b (.i 0)))):l.length=2:=by have:=congrArg (fun d=>d.l.length) (fY h);simpa [D.l] using this
theorem abR (d:D) (hb:Bs d) (hlen:d.l.length<=1000000) (i:Nat) (hi:i<d.l.length): ∃p:Nat,i<p/\p<=d.l.length/\L 12850 [enc d,(i:Int)]=some [0,enc d,(i:Int),(p:Int)]:=by
 have c2: ¬((i:Int)<0):=J
 have c1:(i:Int)<(d.l.length:Int):=J
 have w:=bB (n:=i) J;have w1:=bB (n:=i+1) J;have w2:IntKind.i64.wrap ((i:Int)+2)=((i+2:Nat):Int):=by rw [fB J J]; omega
 obtain⟨b1,b2⟩:=hb.2 i hi;have b1: ¬(d.l[i]).n<0:=J
 have c3: ¬(((i+2:Nat):Int)<(i:Int)):=J
 rw [bK,Uv];simp only [Sq,eR,oZ,mf,CM,uo,pV,cC,cM,cV,Nat.reduceLT,List.map,e9,k7,bG,c1,c2,c3,if_true,if_false,xS,den_add,w,w1,w2,H6,H8,bI hi,b1,b2,aL,Nl,gX.den,Np,Nn,mP,D.V,ZT,sK,Br,aA,aC,az,aQ];split
 ·split
  ·rename_i h5;split
   ·rename_i h6;exact ahq
   ·split
    ·rename_i h6;exact ahq
    ·exact⟨i+1,J,J,rfl⟩
  ·rename_i h5;split
   ·exact⟨i+1+1,J,J,rfl⟩
   ·split
    ·exact⟨i+1+1,J,J,rfl⟩
    ·exact⟨i+1,J,J,rfl⟩
 ·obtain⟨p,q1,q2,q3⟩:=KN d hb hlen (i:Int) ((b0.at (d.l[i]).n).n) _ (i+1) (aw _) J;exact⟨p,J,q2,q3⟩
end
theorem qZ {kids:D} (h:Wd (.sl 6) kids) {i:Nat} (hi:i<kids.l.length): ∃k s n ks,kids.l[i]=dL [.i k,s,.i n,ks]/\gb .u8 k/\Wd .str s/\gb .i64 n/\Wd (.sl 6) ks:=by
 obtain⟨r,U,hl,hc⟩:=h.elN (cs:=[.int .u8,.str,.int .i64,.sl 6]) rfl _ (au hi)
 match r,hl with
 |[a,b,c,d],_=> obtain⟨k,rfl,hk⟩:=(hc 0 _ _ rfl rfl).i;obtain⟨n,rfl,hn⟩:=(hc 2 _ _ rfl rfl).i;exact⟨k,b,n,d,U,hk,hc 1 _ _ rfl rfl,hn,hc 3 _ _ rfl rfl⟩
section
variable {l:List Int}
def E1:D:=.p (.i 1) (.p (.i 0) (.p (.i 0) (.p (.i 1) (.i 0))))
theorem agE:L 1150 [1,enc (.i 0),0,enc (.i 1)]=some [1]:=by rw [bK,alj];simp only [ajw,zz,sK,bj,Int.reduceLT,Int.reduceEq];rfl
theorem Y5 (a b:Int):L 5450 [enc (.i 1),a,b]=some [b]:=by rw [bK,akl];simp only [aiR,zz,sK,bj,fin];rw [bK,akk];simp only [aiQ,zz];rfl
theorem yO:L 5250 [enc (dL [E1]),2,1]=some [2,enc (dL [E1])]:=by have U:=agE;have Z:=Y5 3 2;have w1:IntKind.i64.wrap (1+1)=2:=fB J J;have w2:IntKind.i64.wrap (2+1)=3:=fB J J;have w3:IntKind.i64.wrap (0+1)=1:=fB J J;have ha:(dL [E1]).at 0=E1:=rfl;have g0:E1.V 0= .i 1:=rfl;have g1:E1.V 1= .i 0:=rfl;have g2:E1.V 2= .i 0:=rfl;have g3:E1.V 3= .i 1:=rfl;rw [bK,akp];simp only [aiV,zz,bF,aT,bj,aK,fin];rw [bK,acs];simp only [E_,zz,bF,aT,bj,aK,ha,g0,g1,g2,g3,w1,w2,w3,U,Z,Int.reduceLT,Int.reduceEq,fin,bo,aL];rw [bK,acs];simp only [E_,zz,aL];rfl
theorem XY (k m:Int):L 5500 [enc (.i 1),k,m]=some [k,m,1]:=by rw [bK,akj];simp only [aiP,zz,sK,bj,fin];rw [bK,aki];simp only [aiO,zz];rfl
theorem XX (a k m:Int):L 5600 [enc (.i 1),a,k,m]=some [a,k,m,1]:=by rw [bK,akh];simp only [aiN,zz,sK,bj,fin];rw [bK,akg];simp only [aiM,zz];rfl
theorem Lp (k m:Int):L 5150 [k,m]=some [k,m,1]:=by rw [bK,aku];simp only [aiX,zz,fin];rw [bK,akt];rfl
theorem Lo (k m:Int):L 5200 [k,m]=some [1,k,m,1]:=by rw [bK,akr];simp only [aiW,zz,fin];rw [bK,akq];rfl
theorem FG (k m:Int):L 5100 [k,m]=some [m]:=by rw [bK,akw];simp only [aiY,zz,fin];rw [bK,akv];rfl
theorem qu (k m:Int):L 5300 [1,enc (dL [E1]),k,m]=some [enc (dL [E1]),k,m,1]:=by have Z:=XY k m;have w3:IntKind.i64.wrap (0+1)=1:=fB J J;have ha:(dL [E1]).at 0=E1:=rfl;have g0:E1.V 0= .i 1:=rfl;have g1:E1.V 1= .i 0:=rfl;have g3:E1.V 3= .i 1:=rfl;rw [bK,ako];simp only [aiU,zz,fin];rw [bK,acr];simp only [D?,zz,bF,aT,bj,aK,ha,g0,g1,g3,w3,Z,Int.reduceLT,Int.reduceEq,fin,bo,aL];rw [bK,acr];simp only [D?,zz,aL];rfl
theorem qt (k m:Int):L 5350 [1,enc (dL [E1]),k,m]=some [enc (dL [E1]),1,k,m,1]:=by have Z:=XX 1 k m;have w3:IntKind.i64.wrap (0+1)=1:=fB J J;have ha:(dL [E1]).at 0=E1:=rfl;have g0:E1.V 0= .i 1:=rfl;have g1:E1.V 1= .i 0:=rfl;have g3:E1.V 3= .i 1:=rfl;rw [bK,akn];simp only [aiT,zz,fin];rw [bK,acq];simp only [D!,zz,bF,aT,bj,aK,ha,g0,g1,g3,w3,Z,Int.reduceLT,Int.reduceEq,fin,bo,aL];rw [bK,acq];simp only [D!,zz,aL];rfl
def isR (ys:List Int):Prop:= ∃b l,ys=b::l/\(b=0\/b=1)
def jG (m:Nat):D:=dL (List.replicate m E1)
theorem uB (m:Nat):(jG m).l.length=m:=by unfold jG; rw [bF,aww]
end
section
variable {p:Prop} {d:D} {i:Nat}
def f? (d0:D) (nl nc:Nat) (dx op ob iX to:Int) (na:Nat):Prop:=
 (dx=1/\0<=ob/\ob<(d0.l.length:Int)/\(iX= -1\/0<=iX/\iX<(nl:Int))/\(op=16->0<=to/\to<=(nc:Int)))\/
 (dx=2/\0<=ob/\ob<(d0.l.length:Int))\/(dx=3/\0<=iX/\iX<(nl:Int)/\(na:Int)=1)\/(dx=4/\0<=to/\to<=(nc:Int)/\(na:Int)=1)\/
 (dx=5/\0<=to/\to<=(nc:Int))\/(dx=6/\0<=iX/\iX<(nl:Int))\/(dx=7/\0<=iX/\iX<(nl:Int)/\0<=to/\to<=(nc:Int))
def OkO (d0:D) (k n:Int):Prop:=1<=k/\k<=9/\(k=1\/k=2\/k=6\/k=7->n=0)/\(k=3\/k=8->1<=n/\n<=1048576)/\(k=5->1<=n/\n<=16)/\(k=4->0<=n/\n<(d0.l.length:Int)/\((d0.at n).V 0).n=1)
def Bk (d0:D) (x:D):Prop:=OkO d0 (x.V 0).n (x.V 2).n
def An (d0 d1:D):Prop:=d0.l.length<=64/\d1.l.length<=16/\∀x∈d0.l,Bk d0 x
def ajR (d0 x:D):Prop:= ∀y∈(x.V 2).l,f? d0 (x.V 1).l.length (x.V 2).l.length (y.V 0).n (y.V 1).n (y.V 2).n (y.V 3).n (y.V 4).n (y.V 6).l.length
def arE (d0 d1:D) (ys:List Int):Prop:= ∃b:Int,ys= [b]/\(b=0\/b=120)/\(b=0->An d0 d1/\∀x∈d1.l,ajR d0 x)
theorem qT (h:Wd (.sl 4) d) (hi:i<d.l.length): ∃sJ lc cd,d.l[i]=dL [sJ,lc,cd]/\Wd .str sJ/\Wd (.sl 2) lc/\Wd (.sl 5) cd:=by
 obtain⟨r,U,hl,hc⟩:=h.elN (cs:=[.str,.sl 2,.sl 5]) rfl _ (au hi)
 match r,hl with
 |[a,b,c],_=>exact⟨a,b,c,U,hc 0 _ _ rfl rfl,hc 1 _ _ rfl rfl,hc 2 _ _ rfl rfl⟩
theorem Ts (h:Wd (.sl 5) d) (hi:i<d.l.length): ∃a b c e f g qR,d.l[i]=dL [.i a,.i b,.i c,.i e,.i f,.i g,qR]/\gb .u8 a/\gb .u8 b/\gb .i64 c/\gb .i64 e/\gb .i64 f/\gb .i64 g/\Wd (.sl 6) qR:=by
 obtain⟨r,U,hl,hc⟩:=h.elN (cs:=[.int .u8,.int .u8,.int .i64,.int .i64,.int .i64,.int .i64,.sl 6]) rfl _ (au hi)
 match r,hl with
 |[a,b,c,e,f,g,qR],_=> obtain⟨a,rfl,ha⟩:=(hc 0 _ _ rfl rfl).i;obtain⟨b,rfl,hb⟩:=(hc 1 _ _ rfl rfl).i;obtain⟨c,rfl,hc'⟩:=(hc 2 _ _ rfl rfl).i;obtain⟨e,rfl,he⟩:=(hc 3 _ _ rfl rfl).i;obtain⟨f,rfl,hf⟩:=(hc 4 _ _ rfl rfl).i;obtain⟨g,rfl,hg⟩:=(hc 5 _ _ rfl rfl).i;exact⟨a,b,c,e,f,g,qR,U,ha,hb,hc',he,hf,hg,hc 6 _ _ rfl rfl⟩
end
section
variable {p q:Prop} {a l b:List Int}
def cw (p:Prop) (ys:List Int):Prop:= ∃c:Int,ys= [c]/\(c=0\/c=1)/\(c=1↔p)
theorem dW (h: ¬p):cw p [0]:=⟨0,rfl,.inl rfl,fun h'=>absurd h' J,fun h'=>absurd h' h⟩
theorem e8 (h:p):cw p [1]:=⟨1,rfl,.inr rfl,fun _=>h,fun _=>rfl⟩
theorem cw.eq (h:cw p a) (h':cw p b):a=b:=by
 obtain⟨c,rfl,c1,c2⟩:=h;obtain⟨e,rfl,e1,e2⟩:=h'
 grind
theorem cw.of (h:cw p a) (hpq:p↔q):cw q a:=by
 grind
theorem bL.iff {j:Nat} {xs:List Int} (h:bL j xs (cw p)) (hpq:p↔q):bL j xs (cw q):=by
 grind
theorem oE (a b:D):(enc a=enc b)=(a=b):=propext ⟨fun h=>fY h,fun h=>by rw [h]⟩
def bD (l:List Int):D:=dL (l.map .i)
def NV (l:List Int):Prop:= ∀b∈l,0<=b/\b<256
theorem aeb {d:D} (h:Wd .str d): ∃l,d=bD l/\NV l:=by
 obtain⟨s,rfl⟩:=h.s;refine⟨s.data.toList.map fun b=>(b.toNat:Int),?_,fun b hb=>?_⟩
 ·unfold wF si bD;rw [awg];rfl
 ·obtain⟨c,_,rfl⟩:=aW.1 hb;have:=c.toNat_lt;omega
theorem Rm (l:List Int):(bD l).l=l.map .i:=by unfold bD; rw [bF]
theorem eK (l:List Int):(bD l).l.length=l.length:=by rw [Rm,bc]
theorem zX {i:Nat} (h:i<l.length):((bD l).at (i:Int)).n=l[i]:=by rw [bI (by rw [eK]; exact h)];simp only [Rm,axz,D.n]
theorem alv (h:NV l):Bs (bD l):=⟨by rw [Rm]; rfl,fun i hi=>by
 simp only [Rm,bc,axz,D.n] at hi ⊢
 exact h _ (au hi)⟩
theorem tc (l:List Int) (a b:Nat):dL (((bD l).l.take b).drop a)=bD ((l.take b).drop a):=by rw [Rm,bD,awz,awr]
theorem NV.part (h:NV l) (a b:Nat):NV ((l.take b).drop a):=fun x hx=>h x (avV (bu hx))
def isLt (b:Int):Bool:=decide (97<=b/\b<=122\/65<=b/\b<=90\/b=95)
def IZ (b:Int):Bool:=decide (48<=b/\b<=57)
def zi (b:Int):Bool:=isLt b||IZ b
theorem NK {p:Int->Bool} (h:(List.range 256).all (fun k=>p (k:Int))=true) {b:Int} (h0:0<=b) (U:b<256):p b=true:=by
 have:=aP.1 h b.toNat (av2.2 J)
 grind
def auo:List D:=[.p (.i 97) (.p (.i 99) (.p (.i 113) (.p (.i 117) (.p (.i 105) (.p (.i 114) (.p (.i 101) (.i 0))))))),.p (.i 97) (.p (.i 100) (.p (.i 100) (.i 0))),.p (.i 97) (.p (.i 114) (.p (.i 114) (.p (.i 105) (.p (.i 118) (.p (.i 101) (.i 0)))))),.p (.i 98) (.p (.i 97) (.p (.i 114) (.p (.i 114) (.p (.i 105) (.p (.i 101) (.p (.i 114) (.i 0))))))),.p (.i 98) (.p (.i 114) (.p (.i 111) (.p (.i 97) (.p (.i 100) (.p (.i 99) (.p (.i 97) (.p (.i 115) (.p (.i 116) (.i 0))))))))),.p (.i 99) (.p (.i 111) (.p (.i 110) (.p (.i 100) (.i 0)))),.p (.i 100) (.p (.i 111) (.i 0)),.p (.i 100) (.p (.i 111) (.p (.i 110) (.p (.i 101) (.i 0)))),.p (.i 101) (.p (.i 108) (.p (.i 115) (.p (.i 101) (.i 0)))),.p (.i 105) (.p (.i 102) (.i 0)),.p (.i 108) (.p (.i 111) (.p (.i 99) (.p (.i 107) (.i 0)))),.p (.i 108) (.p (.i 111) (.p (.i 99) (.p (.i 107) (.p (.i 102) (.p (.i 111) (.p (.i 114) (.i 0))))))),.p (.i 108) (.p (.i 111) (.p (.i 111) (.p (.i 112) (.i 0)))),.p (.i 109) (.p (.i 117) (.p (.i 116) (.p (.i 101) (.p (.i 120) (.i 0))))),.p (.i 111) (.p (.i 110) (.p (.i 99) (.p (.i 101) (.i 0)))),.p (.i 112) (.p (.i 117) (.p (.i 116) (.i 0))),.p (.i 113) (.p (.i 117) (.p (.i 101) (.p (.i 117) (.p (.i 101) (.i 0))))),.p (.i 114) (.p (.i 101) (.p (.i 97) (.p (.i 100) (.i 0)))),.p (.i 114) (.p (.i 101) (.p (.i 108) (.p (.i 101) (.p (.i 97) (.p (.i 115) (.p (.i 101) (.i 0))))))),.p (.i 114) (.p (.i 108) (.p (.i 111) (.p (.i 99) (.p (.i 107) (.i 0))))),.p (.i 114) (.p (.i 117) (.p (.i 110) (.p (.i 108) (.p (.i 111) (.p (.i 99) (.p (.i 107) (.i 0))))))),.p (.i 114) (.p (.i 119) (.p (.i 108) (.p (.i 111) (.p (.i 99) (.p (.i 107) (.i 0)))))),.p (.i 115) (.p (.i 101) (.p (.i 109) (.i 0))),.p (.i 115) (.p (.i 101) (.p (.i 116) (.i 0))),.p (.i 115) (.p (.i 105) (.p (.i 103) (.p (.i 110) (.p (.i 97) (.p (.i 108) (.i 0)))))),.p (.i 116) (.p (.i 97) (.p (.i 107) (.p (.i 101) (.i 0)))),.p (.i 116) (.p (.i 104) (.p (.i 114) (.p (.i 101) (.p (.i 97) (.p (.i 100) (.i 0)))))),.p (.i 116) (.p (.i 114) (.p (.i 121) (.p (.i 97) (.p (.i 99) (.p (.i 113) (.p (.i 117) (.p (.i 105) (.p (.i 114) (.p (.i 101) (.i 0)))))))))),.p (.i 116) (.p (.i 114) (.p (.i 121) (.p (.i 108) (.p (.i 111) (.p (.i 99) (.p (.i 107) (.i 0))))))),.p (.i 117) (.p (.i 110) (.p (.i 108) (.p (.i 111) (.p (.i 99) (.p (.i 107) (.i 0)))))),.p (.i 118) (.p (.i 97) (.p (.i 114) (.i 0))),.p (.i 119) (.p (.i 97) (.p (.i 105) (.p (.i 116) (.i 0)))),.p (.i 119) (.p (.i 97) (.p (.i 105) (.p (.i 116) (.p (.i 102) (.p (.i 111) (.p (.i 114) (.i 0))))))),.p (.i 119) (.p (.i 97) (.p (.i 105) (.p (.i 116) (.p (.i 111) (.p (.i 110) (.i 0)))))),.p (.i 119) (.p (.i 108) (.p (.i 111) (.p (.i 99) (.p (.i 107) (.i 0))))),.p (.i 119) (.p (.i 114) (.p (.i 105) (.p (.i 116) (.p (.i 101) (.i 0))))),.p (.i 119) (.p (.i 117) (.p (.i 110) (.p (.i 108) (.p (.i 111) (.p (.i 99) (.p (.i 107) (.i 0)))))))]
def Pr (z:Int):D:=(auo[z.toNat]?).getD (.i 0)
def isKey (d:D):Prop:= ∃k:Nat,k<37/\d=Pr (k:Int)
theorem aaV (d:D) (z:Int) (h0:0<=z) (U:z<37):(d=Pr z->L 4801 [enc d,z]=some [1])/\(d≠Pr z->L 4801 [enc d,z]=L 4801 [enc d,z+1]):=by
 have w:IntKind.i64.wrap (z+1)=z+1:=fB J J;rw [bK,acA];have:z=0\/z=1\/z=2\/z=3\/z=4\/z=5\/z=6\/z=7\/z=8\/z=9\/z=10\/z=11\/z=12\/z=13\/z=14\/z=15\/z=16\/z=17\/z=18\/z=19\/z=20\/z=21\/z=22\/z=23\/z=24\/z=25\/z=26\/z=27\/z=28\/z=29\/z=30\/z=31\/z=32\/z=33\/z=34\/z=35\/z=36:=J
 rcases this with rfl|rfl|rfl|rfl|rfl|rfl|rfl|rfl|rfl|rfl|rfl|rfl|rfl|rfl|rfl|rfl|rfl|rfl|rfl|rfl|rfl|rfl|rfl|rfl|rfl|rfl|rfl|rfl|rfl|rfl|rfl|rfl|rfl|rfl|rfl|rfl|rfl<;>
 ·simp only [G_,zz,oE,Int.reduceLT,Int.reduceEq,w];split
  ·rename_i h;exact⟨fun _=>rfl,fun h'=>absurd h h'⟩
  ·rename_i h;exact⟨fun h'=>absurd h' h,fun _=>rfl⟩
theorem Pq (d:D): ∀(m n:Nat),n+m=37->bL 4801 [enc d,(n:Int)] (cw (∃k:Nat,n<=k/\k<37/\d=Pr (k:Int)))
 |0,n,h=>by
  refine bL.of ?_;rw [acA];have c1: ¬(n:Int)<37:=J
  simp only [G_,zz,c1];exact .out (dW fun⟨k,a,b,_⟩=>by omega)
 |m+1,n,h=>by
  obtain⟨s1,s2⟩:=aaV d (n:Int) J J;by_cases V:d=Pr (n:Int)
  ·exact⟨_,s1 V,e8 ⟨n,aw _,J,V⟩⟩
  ·obtain⟨ys,U,Z⟩:=Pq d m (n+1) J;refine⟨ys,(s2 V).trans U,Z.of ⟨fun⟨k,a,b,c⟩=> ⟨k,J,b,c⟩,fun⟨k,a,b,c⟩=>?_⟩⟩
   grind
theorem anx (d:D):bL 4800 [enc d] (cw (isKey d)):=by refine bL.of ?_;rw [akB];simp only [ai3,zz];exact .jump ((Pq d 37 0 J).iff ⟨fun⟨k,_,b,c⟩=> ⟨k,b,c⟩,fun⟨k,b,c⟩=> ⟨k,J,b,c⟩⟩)
theorem Iw (x:Int) (k:D) (hk:k.l.length<=1000): ∀(j i:Nat),i+j=k.l.length->bL 4951 [x,enc k,(i:Int)] (cw (x∈(k.l.drop i).map D.n))
 |0,i,h=>by
  have c1: ¬(i:Int)<(k.l.length:Int):=J
  refine bL.of ?_;rw [acw];simp only [E?,zz,c1];refine .out (dW ?_)
  grind
 |j+1,i,h=>by
  have hi:i<k.l.length:=J
  have c1:(i:Int)<(k.l.length:Int):=J
  have c2: ¬((i:Int)<0):=J
  have w:=bB (n:=i) J;have ih:=Iw x k hk j (i+1) J;refine bL.of ?_;rw [acw,aM hi];simp only [E?,zz,c1,c2,bI hi,w];refine .ite (fun h=> .out (e8 ?_)) fun h=> .jump (ih.iff ?_)
  all_goals grind
theorem yb (x:Int) (k:D) (hk:k.l.length<=1000):bL 4950 [x,enc k] (cw (x∈k.l.map D.n)):=by refine bL.of ?_;rw [akz];simp only [ai1,zz];exact .jump (Iw x k hk k.l.length 0 J)
def Hk (k:D) (p:Int->Bool):Bool:=(List.range 256).all fun z=>(k.l.map D.n).contains (z:Int) == p (z:Int)
theorem NJ {k:D} {p:Int->Bool} (h:Hk k p=true) {x:Int} (h0:0<=x) (U:x<256):x∈k.l.map D.n↔p x=true:=by
 have:=NK (p:=fun z=>(k.l.map D.n).contains z == p z) h h0 U
 grind
theorem J3 (l:List Int) (hb:NV l) (k:D) (hk:k.l.length<=1000) (hl:l.length<=100000) (p:Int->Bool) (hp:Hk k p=true): ∀(j i:Nat),i+j=l.length->bL 4901 [enc (bD l),enc k,(i:Int)] (cw (∀b∈l.drop i,p b=true))
 |0,i,h=>by
  have c1: ¬(i:Int)<(l.length:Int):=J
  refine bL.of ?_;rw [acx];simp only [F_,zz,eK,c1];refine .out (e8 ?_)
  grind
 |j+1,i,h=>by
  have hi:i<l.length:=J
  have c1:(i:Int)<(l.length:Int):=J
  have c2: ¬((i:Int)<0):=J
  have w:=bB (n:=i) J;have ih:=J3 l hb k hk hl p hp j (i+1) J;obtain⟨b1,b2⟩:=hb _ (au hi);obtain⟨ys,hA,c,rfl,hc,hx⟩:=yb l[i] k hk;rw [NJ hp b1 b2] at hx;refine bL.of ?_;rw [acx,aM hi];simp only [F_,zz,eK,c1,c2,zX hi,w,hA];refine .ite (fun h=> .out (dW ?_)) fun h=> .jump (ih.iff ?_)
  all_goals grind
theorem VM (l:List Int) (hb:NV l) (k:D) (hk:k.l.length<=1000) (hl:l.length<=100000) (p:Int->Bool) (hp:Hk k p=true):bL 4900 [enc (bD l),enc k] (cw (∀b∈l,p b=true)):=by refine bL.of ?_;rw [akA];simp only [ai2,zz];exact .jump (J3 l hb k hk hl p hp l.length 0 J)
theorem arI:Hk b2 isLt=true:=aa
theorem arH:Hk b3 zi=true:=aa
end
def Kb (l:List Int):Prop:=l.length<=16384/\(∃h:0<l.length,isLt l[0]=true)/\(∀b∈l,zi b=true)/\¬isKey (bD l)
def dgD:D:=.p (.i 48) (.p (.i 49) (.p (.i 50) (.p (.i 51) (.p (.i 52) (.p (.i 53) (.p (.i 54) (.p (.i 55) (.p (.i 56) (.p (.i 57) (.i 0))))))))))
def sgD:D:=.p (.i 60) (.p (.i 43) (.p (.i 45) (.p (.i 42) (.p (.i 40) (.p (.i 41) (.p (.i 123) (.p (.i 125) (.p (.i 59) (.i 0)))))))))
theorem arG:Hk dgD IZ=true:=aa
def anB (b:Int):Bool:=(sgD.l.map D.n).contains b
theorem arF:Hk sgD anB=true:=aa
theorem ajM {b:Int} (h:isLt b=true) (h0:0<=b) (U:b<256):IZ b=false/\anB b=false/\b≠61/\b≠45/\b≠35/\b≠10:=by have:=NK (p:=fun k=>!(isLt k)||!(IZ k)&&!(anB k)) aa h0 U;rw [h] at this;simp only [awQ,awB,aq,awe] at this;refine⟨this.1,this.2,?_⟩;simp only [isLt,decide_eq_true_eq] at h;omega
theorem Bx (l:List Int) (hb:NV l) (hl:l.length<=100000): ∃k:Int,L 4750 [enc (bD l)]=some [k]/\0<=k/\(k=2->∃h:0<l.length,isLt l[0]=true)/\
 (∀h:0<l.length,isLt l[0]=true->(k=0↔¬∀b∈l,zi b=true)/\(k=2↔(∀b∈l,zi b=true)/\¬isKey (bD l))/\k≠1):=by
 rw [bK,akC];by_cases h0:l.length=0
 ·obtain rfl:l= []:=av9.1 h0;have:bD []= .i 0:=rfl;simp only [G!,zz,oE,this];exact⟨0,rfl,J,fun h=>absurd h J,fun h=>absurd h ad⟩
 ·have RP:0<l.length:=J
  have kg: ¬bD l= .i 0:=fun h=>by have:=congrArg (fun d=>d.l.length) h;simp only [eK,D.l,bj] at this;omega
  obtain⟨b1,b2⟩:=hb _ (au RP);obtain⟨ys,hD,c,rfl,hc,hx⟩:=VM l hb dgD (avU aa) hl IZ arG;obtain⟨ys,hL,e,rfl,he,hy⟩:=yb l[0] As.Try.b2 (avU aa);rw [NJ arI b1 b2] at hy;obtain⟨ys,hO,f,rfl,hf,hz⟩:=VM l hb b3 (avU aa) hl zi arH;obtain⟨ys,hK,g,rfl,hg,hk⟩:=anx (bD l);obtain⟨ys,hS,u,rfl,hu,hs⟩:=yb l[0] sgD (avU aa);rw [NJ arF b1 b2] at hs;have gD:((bD l).at 0).n=l[0]:=zX RP;have cl:(0:Int)<(l.length:Int):=J
  unfold dgD at hD;unfold sgD at hS;simp only [G!,zz,oE,kg,hD,gD,hL,hO,hK,hS,eK,cl]
  have asu:isLt l[0]=true->(¬bD l= .p (.i 45) (.p (.i 62) (.i 0)))/\(¬bD l= .p (.i 61) (.p (.i 61) (.i 0)))/\c=0/\u=0:=fun q=>by
   obtain⟨q1,q2,q3,q4,_⟩:=ajM q b1 b2;refine⟨fun h=>?_,fun h=>?_,?_,?_⟩
   ·rw [h] at gD; exact q4 gD.symm
   ·rw [h] at gD; exact q3 gD.symm
   all_goals grind
  split
  ·rename_i Ml;split
   ·rename_i he0;have nl: ¬isLt l[0]=true:=fun h=>by have:=hy.2 h; omega
    repeat' first
     |exact⟨_,rfl,J,fun h=>absurd h J,fun _ h=>absurd h nl⟩
     |split
   ·rename_i TD;have yl:isLt l[0]=true:=hy.1 J;obtain⟨n1,n2,_,n4⟩:=asu yl;split
    ·rename_i hf0;have nw: ¬∀b∈l,zi b=true:=fun h=>by have:=hz.2 h; omega
     repeat' first
      |exact⟨0,rfl,J,fun h=>absurd h J,fun _ _=> ⟨⟨fun _=>nw,fun _=>rfl⟩,⟨fun h=>absurd h J,fun h=>absurd h.1 nw⟩,J⟩⟩
      |split
    ·rename_i hf1;have yw:=hz.1 J;split
     ·rename_i hg0;have nk: ¬isKey (bD l):=fun h=>by have:=hk.2 h; omega
      exact⟨2,rfl,J,fun _=> ⟨RP,yl⟩,fun _ _=> ⟨⟨fun h=>absurd h J,fun h=>absurd yw h⟩,⟨fun _=> ⟨yw,nk⟩,fun _=>rfl⟩,J⟩⟩
     ·rename_i hg1;have yk:=hk.1 J;exact⟨3,rfl,J,fun h=>absurd h J,fun _ _=> ⟨⟨fun h=>absurd h J,fun h=>absurd yw h⟩,⟨fun h=>absurd h J,fun h=>absurd yk h.2⟩,J⟩⟩
  ·rename_i Ml;exact⟨1,rfl,J,fun h=>absurd h J,fun _ h=>absurd (asu h).2.2.1 Ml⟩
theorem GS (l:List Int) (hb:NV l) (hl:l.length<=100000): ∀(j i:Nat),i+j=l.length->bL 4851 [enc (bD l),(i:Int)] wB/\bL 4852 [enc (bD l),(i:Int)] wB
 |0,i,h=>by
  have c1: ¬(i:Int)<(l.length:Int):=J
  constructor
  ·refine bL.of ?_;rw [WS];simp only [Vo,zz,eK,c1];exact .out tw
  ·refine bL.of ?_;rw [acy];simp only [F!,zz,eK,c1];exact .out tw
 |j+1,i,h=>by
  have hi:i<l.length:=J
  have c1:(i:Int)<(l.length:Int):=J
  have c2: ¬((i:Int)<0):=J
  have w:=bB (n:=i) J;obtain⟨i1,i2⟩:=GS l hb hl j (i+1) J;obtain⟨ys,hA,c,rfl,hc,hx⟩:=yb l[i] (.p (.i 9) (.p (.i 10) (.p (.i 13) (.p (.i 32) (.i 0))))) (avU aa);constructor
  ·refine bL.of ?_;rw [WS];simp only [Vo,zz,eK,c1,c2,zX hi,w,hA];exact ahU
  ·refine bL.of ?_;rw [acy];simp only [F!,zz,eK,c1,c2,zX hi,w,hA];exact ahU
theorem aas (l:List Int) (hb:NV l) (hl:l.length<=100000):bL 4850 [enc (bD l)] wB:=by refine bL.of ?_;rw [acz];simp only [F?,zz];exact .jump (GS l hb hl l.length 0 J).1
theorem asX:(List.range 256).all (fun k=>!(isLt (k:Int))||!(((.p (.i 9) (.p (.i 10) (.p (.i 13) (.p (.i 32) (.i 0)))):D).l.map D.n).contains (k:Int)))=true:=aa
theorem aat (b:Int) (h:isLt b=true) (h0:0<=b) (U:b<256):L 4850 [enc (bD [b])]=some [0]:=by
 obtain⟨_,_,_,_,n5,n6⟩:=ajM h h0 U;obtain⟨ys,hA,c,rfl,hc,hx⟩:=yb b (.p (.i 9) (.p (.i 10) (.p (.i 13) (.p (.i 32) (.i 0))))) (avU aa)
 have Ml:c=0:=by
  have:=NK (p:=fun k=>!(isLt k)||!(((.p (.i 9) (.p (.i 10) (.p (.i 13) (.p (.i 32) (.i 0)))):D).l.map D.n).contains k)) asX h0 U
  grind
 subst Ml;have gD:((bD [b]).at 0).n=b:=zX (l:=[b]) (i:=0) ad;rw [bK,acz];simp only [F?,zz,fin];rw [bK,WS];simp only [Vo,zz,eK,gD,n5,n6,hA,aT,bj,aL,aK,bo,Int.reduceLT,fin]
def is2 (ys:List Int):Prop:= ∃a b:Int,ys= [a,b]
theorem Pb (l:List Int) (hl:l.length<=100000): ∀(j i:Nat) (n:Int),i+j=l.length->bL 22002 [enc (bD l),n,(i:Int)] is2
 |0,i,n,h=>by
  have c1: ¬(i:Int)<(l.length:Int):=J
  refine bL.of ?_;rw [Us];simp only [Sm,zz,eK,c1];exact .out ⟨_,_,rfl⟩
 |j+1,i,n,h=>by
  have c1:(i:Int)<(l.length:Int):=J
  have c2: ¬((i:Int)<0):=J
  have w:=bB (n:=i) J;refine bL.of ?_;rw [Us];simp only [Sm,zz,eK,c1,c2,w];exact .jump (Pb l hl j (i+1) _ J)
theorem VQ: ∀(m:Nat) (l:List Int),l.length<=m->l.length<=100000->bL 22001 [enc (bD l)] is2
 |m,l,hm,hl=>by
  have e:=Pb l hl l.length 0 0 J;have e':bL 22002 [enc (bD l),0,0] is2:=e;refine bL.of ?_;rw [acX];simp only [M!,zz,eK,aL,zg,D.V,ZT,sK,az,Br,aQ,tc];refine .ite (fun U=> .ite (fun _=>?_) fun _=>?_) fun _=> .jump e'
  ·obtain⟨m,rfl⟩ : ∃k,m=k+1:=⟨m-1,J⟩;exact .jump (VQ m _ (by simp only [bp,aZ,Int.toNat]; omega) (by simp only [bp,aZ]; omega))
  ·repeat' first |exact .jump e'|exact .out ⟨_,_,rfl⟩|refine .ite (fun _=>?_) (fun _=>?_)
theorem Pa (l:List Int) (hl:l.length<=100000):bL 22000 [enc (bD l)] is2:=by refine bL.of ?_;rw [acY];simp only [M?,zz];exact .jump (VQ l.length l (aw _) hl)
theorem PR (l:List Int) (hb:NV l) (hl:l.length<=16384): ∀(j i:Nat),i+j=l.length->∃p:Nat,i<=p/\p<=l.length/\L 4701 [enc (bD l),0,(i:Int)]=L 4702 [enc (bD l),(p:Int),1,0]
 |0,i,h=>by
  have c1: ¬(i:Int)<(l.length:Int):=J
  refine⟨i,aw _,J,?_⟩;rw [bK,WT];simp only [Vp,zz,eK,c1,fin]
 |j+1,i,h=>by
  have c1:(i:Int)<(l.length:Int):=J
  have c2: ¬(((i+1:Nat):Int)<0):=J
  have c3: ¬(l.length:Int)<((i+1:Nat):Int):=J
  have w:=bB (n:=i) J;obtain⟨p,p1,p2,p3⟩:=PR l hb hl j (i+1) J;obtain⟨ys,hO,c,rfl,hc⟩:=aas ((l.take (i+1)).drop 0) (hb.part _ _) (by simp only [bp,aZ]; omega);rw [bK,WT];simp only [Vp,zz,eK,c1,c2,c3,w,aL,D.V,ZT,sK,aA,aC,az,Br,aQ,tc,awU,hO];rcases hc with rfl|rfl
  ·exact⟨i,aw _,J,rfl⟩
  ·exact⟨p,J,p2,p3⟩
theorem af0 (l:List Int) (hb:NV l) (h0:0<l.length) (hl:isLt l[0]=true):L 4701 [enc (bD l),0,0]=L 4702 [enc (bD l),0,1,0]:=by
 obtain⟨b1,b2⟩:=hb _ (au h0);have hO:=aat _ hl b1 b2;have c1:(0:Int)<(l.length:Int):=J
 have c3: ¬(l.length:Int)<1:=J
 have w:IntKind.i64.wrap (0+1)=1:=fB J J
 have hp:(l.take 1).drop 0= [l[0]]:=by
  cases l with
  |nil=>simp at h0
  |cons a t=>simp
 rw [bK,WT];simp only [Vp,zz,eK,c1,c3,w,aL,Int.reduceLT,D.V,ZT,sK,aA,aC,az,Br,tc,awU,Int.toNat_one,hp,hO,fin]
theorem Bv (l:List Int) (hb:NV l) (hl:l.length<=16384) (p:Nat) (hp:p<=l.length): ∀(j i:Nat) (n:Int),i+j=p->∃n':Int,L 4702 [enc (bD l),(p:Int),n,(i:Int)]=if p=l.length then some [5,enc (.i 0),0,n',(p:Int),(p:Int),0,0] else L 4703 [enc (bD l),(p:Int),n',(p:Int),((p+1:Nat):Int)]
 |0,i,n,h=>by
  have c1: ¬(i:Int)<(p:Int):=J
  have w:=bB (n:=p) J;have c2:((p:Int)=(l.length:Int))=(p=l.length):=by rw [awH]
  refine⟨n,?_⟩;rw [bK,acB];simp only [G?,zz,eK,c1,w,c2];split<;>rfl
 |j+1,i,n,h=>by
  have hi:i<l.length:=J
  have c1:(i:Int)<(p:Int):=J
  have c2: ¬((i:Int)<0):=J
  have c3:(i:Int)<(l.length:Int):=J
  have w:=bB (n:=i) J;rw [bK,acB];simp only [G?,zz,eK,c1,c2,c3,w,zX hi];split
  ·exact Bv l hb hl p hp j (i+1) _ J
  ·exact Bv l hb hl p hp j (i+1) _ J
def arC (l:List Int) (p:Nat) (ys:List Int):Prop:= ∃k s n L5 a e er ZW:Int,ys= [k,s,n,L5,a,e,er,ZW]/\(er=0->a=p/\∃E:Nat,E<=l.length/\e=E/\L 4750 [enc (bD ((l.take E).drop p))]=some [k])
theorem Lq (l:List Int) (hb:NV l) (hl:l.length<=16384) (p:Nat) (L5:Int): ∀(j e to:Nat),to+j=l.length+1->p<=e->e<to->p<to->bL 4703 [enc (bD l),(p:Int),L5,(e:Int),(to:Int)] (arC l p)
 |j,e,to,h,U,Z,h3=>by
  have hE:e<=l.length:=J
  obtain⟨k,hK,k0,_⟩:=Bx ((l.take e).drop p) (hb.part _ _) (by simp only [bp,aZ]; omega);obtain⟨ys,hN,n1,n2,rfl⟩:=Pa ((l.take e).drop p) (by simp only [bp,aZ]; omega);have c1: ¬(p:Int)<0:=J
  have c2: ¬(e:Int)<(p:Int):=J
  have c3: ¬(l.length:Int)<(e:Int):=J
  have c5: ¬(to:Int)<(p:Int):=J
  by_cases hj:j=0
  ·have c4:(l.length:Int)<(to:Int):=J
   refine bL.of ?_;rw [QT];simp only [OD,zz,eK,c1,c2,c3,c4,D.V,ZT,sK,aA,aC,az,Br,aQ,tc,hK,hN]
   repeat' first
    |exact .out ⟨_,_,_,_,_,_,_,_,rfl,fun h=>absurd h J⟩
    |exact .out ⟨_,_,_,_,_,_,_,_,rfl,fun _=> ⟨rfl,e,hE,rfl,hK⟩⟩
    |refine .ite (fun _=>?_) (fun _=>?_)
  ·obtain⟨j,rfl⟩ : ∃i,j=i+1:=⟨j-1,J⟩;have c4: ¬(l.length:Int)<(to:Int):=J
   have w:=bB (n:=to) J;obtain⟨k',hK',_⟩:=Bx ((l.take to).drop p) (hb.part _ _) (by simp only [bp,aZ]; omega);have i1:=Lq l hb hl p L5 j to (to+1) J J J J;have i2:=Lq l hb hl p L5 j e (to+1) J J J J;refine bL.of ?_;rw [QT];simp only [OD,zz,eK,c1,c2,c3,c4,c5,D.V,ZT,sK,aA,aC,az,Br,aQ,tc,hK,hN,hK',w]
   repeat' first
    |exact .jump i1
    |exact .jump i2
    |exact .out ⟨_,_,_,_,_,_,_,_,rfl,fun h=>absurd h J⟩
    |exact .out ⟨_,_,_,_,_,_,_,_,rfl,fun _=> ⟨rfl,e,hE,rfl,hK⟩⟩
    |refine .ite (fun _=>?_) (fun _=>?_)
theorem Oz (l:List Int) (hb:NV l) (hn:Kb l) (L5:Int): ∀(j e:Nat),e+j=l.length->L 4703 [enc (bD l),0,L5,(e:Int),((e+1:Nat):Int)]=some [2,enc (bD l),0,L5,0,(l.length:Int),0,0]
 |0,e,h=>by
  obtain⟨hl,⟨h0,U⟩,Z,h3⟩:=hn;obtain⟨k,hK,k0,_,kk⟩:=Bx l hb J;obtain⟨_,k2,_⟩:=kk h0 U;obtain rfl:=k2.2 ⟨Z,h3⟩;obtain rfl:e=l.length:=J
  have c2: ¬(l.length:Int)<0:=J
  have c4:(l.length:Int)<((l.length+1:Nat):Int):=J
  have hp:(l.take l.length).drop 0=l:=ad
  rw [bK,QT];simp only [OD,zz,eK,c2,c4,aL,D.V,ZT,sK,aA,aC,az,Br,aQ,tc,awU,hp,hK,Int.reduceEq,fin]
 |j+1,e,h=>by
  have ih:=Oz l hb hn L5 j (e+1) J;obtain⟨hl,⟨h0,U⟩,Z,h3⟩:=hn;have hlen:((l.take (e+1)).drop 0).length=e+1:=by simp only [bp,aZ]; omega
  obtain⟨k,hK,k0,_,kk⟩:=Bx ((l.take (e+1)).drop 0) (hb.part _ _) J;obtain⟨k1,_,_⟩:=kk J (by simpa using U)
  have kp:0<k:=by
   grind
  have c2: ¬((e+1:Nat):Int)<0:=J
  have c4: ¬(l.length:Int)<((e+1:Nat):Int):=J
  have w:=bB (n:=e+1) J;rw [bK,QT];simp only [OD,zz,eK,c2,c4,aL,D.V,ZT,sK,aA,aC,az,Br,aQ,tc,awU,hK,kp,w];split<;>exact ih
theorem aaG (l:List Int) (hb:NV l):bL 4650 [enc (bD l)] (cw (Kb l)):=by
 have wE: ∀{k s n L5 a e er ZW:Int},L 4700 [enc (bD l),0]=some [k,s,n,L5,a,e,er,ZW]->bL 4650 [enc (bD l)] (cw (er=0/\k=2/\a=0/\e=(l.length:Int))):=fun h=>by
  refine bL.of ?_;rw [akD];simp only [ai4,zz,eK,h]
  repeat' first
   |exact .out (e8 ⟨by assumption,by assumption,by assumption,by assumption⟩)
   |exact .out (dW fun h=>absurd h.1 (by assumption))
   |exact .out (dW fun h=>absurd h.2.1 (by assumption))
   |exact .out (dW fun h=>absurd h.2.2.1 (by assumption))
   |exact .out (dW fun h=>absurd h.2.2.2 (by assumption))
   |refine .ite (fun _=>?_) (fun _=>?_)
 by_cases hl:l.length<=16384
 ·have c1: ¬(16384:Int)<(l.length:Int):=J
  have c2: ¬(l.length:Int)<0:=J
  have h47:L 4700 [enc (bD l),0]=L 4701 [enc (bD l),0,0]:=by rw [bK,acC];simp only [H_,zz,eK,c1,c2,aL,fin]
  by_cases hn:Kb l
  ·obtain⟨h0,U⟩:=hn.2.1;have hf:=af0 l hb h0 U;obtain⟨n',Er⟩:=Bv l hb hl 0 J 0 0 1 rfl;rw [af J] at Er;have ht:=Oz l hb hn n' l.length 0 J
   grind
  ·obtain⟨p,_,p2,p3⟩:=PR l hb hl l.length 0 J;obtain⟨n',Er⟩:=Bv l hb hl p p2 p 0 1 J;by_cases hp:p=l.length
   ·grind
   ·rw [af hp] at Er;obtain⟨ys,hT,k,s,n,L5,a,e,er,ZW,rfl,hk⟩:=Lq l hb hl p n' (l.length-p) p (p+1) J J J J;refine (wE (((h47.trans p3).trans Er).trans hT)).iff ⟨fun⟨q1,q2,q3,q4⟩=>?_,fun h=>absurd h hn⟩;obtain⟨r1,E,r2,r3,r4⟩:=hk q1;obtain rfl:p=0:=J
    obtain rfl:E=l.length:=J
    rw [awO,av8,q2] at r4;obtain⟨k',hK,_,kl,kk⟩:=Bx l hb J;rw [r4] at hK;simp only [ah,List.cons.injEq,and_true] at hK;obtain⟨h0,U⟩:=kl hK.symm;obtain⟨_,k2,_⟩:=kk h0 U;obtain⟨w1,w2⟩:=k2.1 hK.symm;exact⟨hl,⟨h0,U⟩,w1,w2⟩
 ·have c1:(16384:Int)<(l.length:Int):=J
  refine (wE (k:=0) (s:=enc (.i 0)) (n:=0) (L5:=0) (a:=0) (e:=0) (er:=3) (ZW:=0) ?_).iff ⟨fun h=>absurd h.1 J,fun h=>absurd h.1 hl⟩;rw [bK,acC];simp only [H_,zz,eK,c1,fin]
theorem agv:(List.range 256).all (fun k=>((b0.at (k:Int)).n == 4) == isLt (k:Int)&&((b0.at (k:Int)).n == 3) == IZ (k:Int))=true:=aa
theorem cls {b:Int} (h0:0<=b) (U:b<256):((b0.at b).n=4↔isLt b=true)/\((b0.at b).n=3↔IZ b=true):=by
 have:=NK (p:=fun k=>((b0.at k).n == 4) == isLt k&&((b0.at k).n == 3) == IZ k) agv h0 U
 grind
theorem OW: ∀(x r:List D),(∀a∈x,a≠.i 32)->DC (x++ [.i 32]) r=true->x=r.takeWhile fun a=>a≠.i 32
 |[],r,_,h=>by
  cases r with
  |nil=>rfl
  |cons a r=> simp_all [DC]
 |a::x,[],_,h=>by simp [DC] at h
 |a::x,b::r,hx,h=>by
  simp only [aG,DC,aq] at h;have ha:a=b:=by simpa using h.1
  subst ha;have kg:=hx a (av3 ..);rw [List.takeWhile_cons,ag (by simpa using kg),<- OW x r (fun c hc=>hx c (awf _ hc)) h.2]
def ym:List D->List (List D)
 |[]=>[]
 |a::r=>if a= .i 32 then (r.takeWhile fun a=>a≠.i 32)::ym r else ym r
theorem Rb (x:List D) (hx: ∀a∈x,a≠.i 32): ∀r:List D,Cb r (.i 32::(x++ [.i 32]))=true->x∈ym r
 |[],h=>by simp [Cb,DC] at h
 |a::r,h=>by
  simp only [Cb,DC,awd,aq] at h;rcases h with ⟨U,Z⟩|h
  ·grind [ym,OW]
  ·have:=Rb x hx r h
   grind [ym]
theorem Sa:(ym b1.l).all (fun x=>x.isEmpty||(List.range 37).any fun k=>decide (dL x=Pr (k:Int)))=true:=aa
theorem aaU:(List.range 37).all (fun k=>Cb b1.l ((.i 32::(Pr (k:Int)).l)++ [.i 32]))=true:=aa
theorem Xl (l:List Int) (h0:0<l.length) (hw: ∀b∈l,zi b=true):Cb b1.l ((.i 32::(bD l).l)++ [.i 32])=true↔isKey (bD l):=by
 constructor
 ·intro h
  have hx: ∀a∈(bD l).l,a≠D.i 32:=by intro a ha;rw [Rm] at ha;obtain⟨b,hb,rfl⟩:=aW.1 ha;intro q;injection q with q;have:=hw b hb;rw [q] at this;revert this;decide
  have:=Rb _ hx _ h;have:=aP.1 Sa _ this;rw [awd] at this;rcases this with h|h
  ·grind [eK]
  ·obtain⟨k,hk,h⟩:=axb.1 h;exact⟨k,av2.1 hk,by have:=of_decide_eq_true h; rw [Rm] at this; exact this⟩
 ·rintro⟨k,hk,h⟩
  grind [aaU]
theorem Zj (l:List Int) (hb:NV l) (hl:l.length<=16384) (h0:0<l.length) (U:isLt l[0]=true) (x:Int):L 12800 [enc (bD l),0]=some [0,enc (bD l),0,0]:=by
 obtain⟨b1,b2⟩:=hb _ (au h0);have c1:(0:Int)<(l.length:Int):=J
 have hc:=(cls b1 b2).1.2 U;have b1: ¬l[0]<0:=J
 have gD:((bD l).at 0).n=l[0]:=zX h0;rw [bK,Ux];simp only [Sr,zz,fin];rw [bK,Uw];simp only [LB,zz,eK,c1,gD,b1,b2,hc,aL,Int.reduceEq,fin]
theorem AG (l:List Int) (hb:NV l) (hl:l.length<=16384) (x1:Int): ∀(j i:Nat),i+j=l.length->∃p:Nat,i<=p/\p<=l.length/\(p=l.length↔∀b∈l.drop i,zi b=true)/\L 12851 [enc (bD l),x1,4,(i:Int)]=some [0,enc (bD l),x1,(p:Int)]
 |0,i,h=>by
  have c1: ¬(i:Int)<(l.length:Int):=J
  refine⟨i,aw _,J,⟨fun _=>?_,fun _=>by omega⟩,?_⟩
  ·grind
  simp_all [bK,Ng,Gj,zz,eK,fin]
 |j+1,i,h=>by
  have hi:i<l.length:=J
  have c1:(i:Int)<(l.length:Int):=J
  have c2: ¬((i:Int)<0):=J
  have w:=bB (n:=i) J;obtain⟨b1,b2⟩:=hb _ (au hi);obtain⟨q1,q2⟩:=cls b1 b2;have b1: ¬l[i]<0:=J
  obtain⟨p,p1,p2,p3,p4⟩:=AG l hb hl x1 j (i+1) J;have V:l.drop i=l[i]::l.drop (i+1):=aM hi;rw [bK,Ng,V];simp only [Gj,zz,eK,c1,c2,w,zX hi,b1,b2]
  have asp:zi l[i]=true->(p=l.length↔∀b∈l[i]::l.drop (i+1),zi b=true):=fun g=>
   p3.trans ⟨fun q b hb=>(aH.1 hb).elim (fun e=>e▸g) (q b),fun q b hb=>q b (awf _ hb)⟩
  split
  ·rename_i h3;exact⟨p,J,p2,asp (by simp only [zi,q2.1 h3,Bool.or_true]),p4⟩
  ·rename_i h3;split
   ·rename_i h4;exact⟨p,J,p2,asp (by simp only [zi,q1.1 h4,axA]),p4⟩
   ·rename_i h4;refine⟨i,aw _,J,⟨fun q=>by omega,fun q=>?_⟩,rfl⟩;have:=q _ (av3 ..);simp only [zi,awd] at this
    grind
theorem Da (l:List Int) (hb:NV l):bL 1000 [enc (bD l)] (cw (Kb l)):=by
 have wE: ∀{k s n L5 a e er ZW:Int},L 1050 [enc (bD l),0]=some [k,s,n,L5,a,e,er,ZW]->bL 1000 [enc (bD l)] (cw (er=0/\k=2/\IntKind.i64.wrap (e-a)=(l.length:Int))):=fun h=>by
  refine bL.of ?_;rw [aln];simp only [ajy,zz,eK,h]
  repeat' first
   |exact .out (e8 ⟨by assumption,by assumption,by assumption⟩)
   |exact .out (dW fun h=>absurd h.1 (by assumption))
   |exact .out (dW fun h=>absurd h.2.1 (by assumption))
   |exact .out (dW fun h=>absurd h.2.2 (by assumption))
   |refine .ite (fun _=>?_) (fun _=>?_)
 have bs:=alv hb;by_cases hg:(16384:Int)<(l.length:Int)
 ·refine (wE (k:=0) (s:=enc (.i 0)) (n:=0) (L5:=0) (a:=0) (e:=0) (er:=3) (ZW:=0) ?_).iff ⟨fun h=>absurd h.1 J,fun h=>absurd h.1 J⟩;rw [bK,WW];simp only [Vv,zz,eK,hg,fin]
 ·have hl:l.length<=16384:=J
  obtain⟨p,hp,hB⟩:=UJ (bD l) bs (by rw [eK]; omega) 0 J;rw [eK] at hp;have hB':L 12800 [enc (bD l),0]=some [0,enc (bD l),0,(p:Int)]:=hB
  have hp0: ∀h0:0<l.length,isLt l[0]=true->p=0:=fun h0 U=>by
   have:=Zj l hb hl h0 U 0
   grind
  have c0: ¬((0:Int)<0):=J
  have c1: ¬((l.length:Int)<0):=J
  have c2: ¬((p:Int)<0):=J
  have c3: ¬((l.length:Int)<(p:Int)):=J
  by_cases he:(p:Int)=(l.length:Int)
  ·have c9: ¬((l.length:Int)<(l.length:Int)):=J
   refine (wE (k:=5) (s:=enc (.i 0)) (n:=0) (er:=0) (ZW:=0) (by
    rw [bK,WW];simp only [Vv,zz,eK,hg,c0,c1,hB',c2,c3,he,c9,fin]
    rfl)).iff ⟨fun h=>absurd h.2.1 J,fun h=>?_⟩
   obtain⟨h0,U⟩:=h.2.1
   grind
  ·obtain⟨e,U,Z,hE⟩:=abR (bD l) bs (by rw [eK]; omega) p (by rw [eK]; omega);rw [eK] at Z;have c4: ¬((e:Int)<(p:Int)):=J
   have c5: ¬((l.length:Int)<(e:Int)):=J
   have hq:=hb.part p e;have hql:((l.take e).drop p).length=e-p:=by simp only [bp,aZ]; omega
   have hq0:0<((l.take e).drop p).length:=J
   obtain⟨b1',b2'⟩:=hq _ (au hq0);obtain⟨na,nb,hN⟩:=S8 _ (alv hq) (by rw [eK]; omega);obtain⟨q1,q2⟩:=cls b1' b2';have b1': ¬((l.take e).drop p)[0]<0:=J
   have gD:((bD ((l.take e).drop p)).at 0).n=((l.take e).drop p)[0]:=zX hq0;have c6:(0:Int)<(((l.take e).drop p).length:Int):=J
   have c7:(((l.take e).drop p).length:Int)<1000000000:=J
   have c8:((([D.i 32]++(bD ((l.take e).drop p)).l:List D).length:Nat):Int)<1000000000:=by simp only [bd,aT,bj,eK]; omega
   have l32:(D.p (.i 32) (.i 0)).l= [.i 32]:=rfl
   have RP:p=0->∃h0:0<l.length,((l.take e).drop p)[0]=l[0]:=fun hp=>by
    grind
   have key: ∀{k s n L5 a e' er ZW:Int},L 1050 [enc (bD l),0]=some [k,s,n,L5,a,e',er,ZW]->(er=0/\k=2->isLt ((l.take e).drop p)[0]=true/\¬Cb As.Try.b1.l ((.i 32::(bD ((l.take e).drop p)).l)++ [.i 32])=true/\a=(p:Int)/\e'=(e:Int))->
    (p=0->e=l.length->isLt ((l.take e).drop p)[0]=true->¬Cb As.Try.b1.l ((.i 32::(bD ((l.take e).drop p)).l)++ [.i 32])=true->er=0/\k=2/\a=(p:Int)/\e'=(e:Int))->bL 1000 [enc (bD l)] (cw (Kb l)):=fun {k s n L5 a e' er ZW} hL k1 k2=>by
    refine (wE hL).iff ⟨fun⟨g1,g2,g3⟩=>?_,fun hn=>?_⟩
    ·obtain⟨f1,f2,rfl,rfl⟩:=k1 ⟨g1,g2⟩;rw [fB J J] at g3;obtain rfl:p=0:=J
     obtain rfl:e=l.length:=J
     obtain⟨h0,hh⟩:=RP rfl;rw [hh] at f1;obtain⟨p',p1,p2,p3,p4⟩:=AG l hb hl 0 (l.length-1) 1 J
     have hE0:L 12850 [enc (bD l),0]=some [0,enc (bD l),0,(p':Int)]:=by exact apN
     have hE1:L 12850 [enc (bD l),0]=some [0,enc (bD l),0,(l.length:Int)]:=hE;rw [hE0] at hE1;simp only [ah,List.cons.injEq,and_true,true_and] at hE1;have hw1:=p3.1 J
     have hw: ∀b∈l,zi b=true:=fun b hb=>by
      have:l=l[0]::l.drop 1:=by
       have:=aM h0
       grind
      rw [this] at hb;rcases aH.1 hb with rfl|hb
      ·simp only [zi,f1,axA]
      grind
     have hll:(l.take l.length).drop 0=l:=ad
     rw [hll] at f2;exact⟨hl,⟨h0,f1⟩,hw,fun q=>f2 ((Xl l h0 hw).2 q)⟩
    ·obtain⟨_,⟨h0,f1⟩,hw,f2⟩:=hn;obtain rfl:p=0:=hp0 h0 f1;obtain⟨p',p1,p2,p3,p4⟩:=AG l hb hl 0 (l.length-1) 1 J
     have hE0:L 12850 [enc (bD l),0]=some [0,enc (bD l),0,(p':Int)]:=by exact apN
     have hE1:L 12850 [enc (bD l),0]=some [0,enc (bD l),0,(e:Int)]:=hE;rw [hE0] at hE1;simp only [ah,List.cons.injEq,and_true,true_and] at hE1;have:p'=l.length:=p3.2 fun b hb=>hw b (bu hb);obtain rfl:e=l.length:=J
     obtain⟨_,hh⟩:=RP rfl;have hll:(l.take l.length).drop 0=l:=ad
     obtain⟨g1,g2,rfl,rfl⟩:=k2 rfl rfl (by rw [hh]; exact f1) (by rw [hll]; exact fun q=>f2 ((Xl l h0 hw).1 q));exact⟨g1,g2,fB J J⟩
   have n61:isLt ((l.take e).drop p)[0]=true->¬bD ((l.take e).drop p)= .p (.i 61) (.i 0):=fun g h=>by
    rw [h] at gD
    have:(61:Int)=((l.take e).drop p)[0]:=gD
    rw [<- this] at g;revert g;decide
   have Mp:L 1050 [enc (bD l),0]=L 1050 [enc (bD l),0]:=rfl
   conv at Mp=>rhs; rw [bK,WW]
   simp only [Vv,zz,eK,hg,c0,c1,hB',hE,c2,c3,c4,c5,he,D.V,ZT,sK,Br,aA,aC,az,aQ,awU,tc,gD,b1',b2',c6,c7,c8,hN,q1,q2,oE,bF] at Mp
   have ldg:isLt ((l.take e).drop p)[0]=true->¬IZ ((l.take e).drop p)[0]=true:=fun g h=>by
    grind
   by_cases gd:IZ ((l.take e).drop p)[0]=true
   ·rw [ag gd] at Mp;split at Mp
    ·exact key Mp (fun h=>absurd h.1 J) (fun _ _ h=>absurd gd (ldg h))
    ·exact key Mp (fun h=>absurd h.2 J) (fun _ _ h=>absurd gd (ldg h))
   ·rw [af gd] at Mp;by_cases gl:isLt ((l.take e).drop p)[0]=true
    ·have g61:=n61 gl;rw [ag gl] at Mp;by_cases gc:Cb As.Try.b1.l ([D.i 32]++(bD ((l.take e).drop p)).l++ [.i 32])=true
     ·rw [af (by rw [ag gc]; omega)] at Mp;rw [af g61] at Mp;exact key Mp (fun h=>absurd h.2 J) (fun _ _ _ h=>absurd gc h)
     ·rw [ag (by rw [af gc])] at Mp;rw [af g61] at Mp;exact key Mp (fun _=> ⟨gl,gc,rfl,rfl⟩) (fun _ _ _ _=> ⟨rfl,rfl,rfl,rfl⟩)
    ·rw [af gl] at Mp;split at Mp
     ·split at Mp
      ·exact ahh
      ·exact key Mp (fun h=>absurd h.2 J) (fun _ _ h=>absurd h gl)
     ·exact ahh
section
variable {s kids:D} {i v:Nat} {loc left:Int} {p:Prop}
def Ka (s:D):Prop:=Kb (s.l.map D.n)
theorem asZ (l:List Int):(bD l).l.map D.n=l:=by rw [Rm,awg];exact awX _
theorem Ta (h:Wd .str s):bL 1000 [enc s] (cw (Ka s)):=by
 grind [aeb,Ka,asZ,Da]
theorem Yy (h:Wd .str s):bL 4650 [enc s] (cw (Ka s)):=by
 grind [aeb,Ka,asZ,aaG]
theorem v? (h:Wd .str s): ∃b,(b=0\/b=1)/\(b=1↔Ka s)/\L 12900 [enc s,0]=some [b,enc s,0]:=by
 obtain⟨ys,h,b,rfl,Hy,Dq⟩:=Ta h;rw [bK,adn];simp only [R!,zz,h];rcases Hy with rfl|rfl
 ·exact⟨0,.inl rfl,Dq,rfl⟩
 ·exact⟨1,.inr rfl,Dq,rfl⟩
def G4 (loc k:Int) (s:D) (n:Int) (ks:D):Prop:=
 (k=1/\(ks.l.length:Int)=0/\s= .i 0/\0<=n)\/(k=2/\(ks.l.length:Int)=0/\0<=n/\n<loc/\Ka s)\/
 (k=3/\n=0/\(((ks.l.length:Int)=1/\s= .p (.i 45) (.i 0))\/((ks.l.length:Int)=2/\(s= .p (.i 43) (.i 0)\/s= .p (.i 45) (.i 0)\/s= .p (.i 42) (.i 0)\/s= .p (.i 61) (.p (.i 61) (.i 0))\/s= .p (.i 60) (.i 0)))))
def HJ:Nat->Int->D->Prop
 |0,_,_=>False
 |v+1,loc,e=>(∀k∈(e.V 3).l,HJ v loc k)/\G4 loc (e.V 0).n (e.V 1) (e.V 2).n (e.V 3)
def HH:Nat->D->Prop
 |0,_=>False
 |v+1,e=> ∀k∈(e.V 3).l,HH v k
def parts:Nat->D->Nat
 |0,_=>0
 |v+1,e=>1+((e.V 3).l.map (parts v)).sum
theorem WJ: ∀(v:Nat) (loc:Int) (e:D),HJ v loc e->HH v e
 |0,_,_,h=>h
 |v+1,loc,e,h=>fun k hk=>WJ v loc k (h.1 k hk)
theorem BX (h:Wd (.sl 6) kids) (hi:i<kids.l.length): ∃k s n ks,kids.l[i]=dL [.i k,s,.i n,ks]/\gb .u8 k/\Wd .str s/\gb .i64 n/\Wd (.sl 6) ks/\(kids.l[i].V 0).n=k/\kids.l[i].V 1=s/\(kids.l[i].V 2).n=n/\kids.l[i].V 3=ks:=by obtain⟨k,s,n,ks,he,U,Z,h3,h4⟩:=qZ h hi;exact⟨k,s,n,ks,he,U,Z,h3,h4,by rw [he,eh]; rfl,by rw [he,eh]; rfl,by rw [he,eh]; rfl,by rw [he,eh]; rfl⟩
def isW (v:Nat) (loc left:Int) (e:D) (ys:List Int):Prop:= ∃lf c:Int,ys= [lf,loc,c]/\(c=0\/c=1)/\(c=1↔HJ v loc e/\(parts v e:Int)<=left)/\(c=1->lf=left-parts v e)
def anA (v:Nat) (loc left:Int) (l:List D) (p:Prop) (ys:List Int):Prop:= ∃lf c:Int,ys= [lf,loc,c]/\(c=0\/c=1)/\(c=1↔(∀k∈l,HJ v loc k)/\((l.map (parts v)).sum:Int)<=left/\p)/\(c=1->lf=left-(l.map (parts v)).sum)
theorem afN (h0:0<=left) (h: ¬p):anA v loc left [] p [left,loc,0]:=⟨_,_,rfl,.inl rfl,⟨fun h=>absurd h J,fun h'=>absurd h'.2.2 h⟩,fun h=>absurd h J⟩
theorem aa2 (h0:0<=left) (h:p):anA v loc left [] p [left,loc,1]:=⟨_,_,rfl,.inr rfl,⟨fun _=> ⟨ad,by simpa using h0,h⟩,fun _=>rfl⟩,fun _=>by simp⟩
theorem D1: ∀(v deep:Nat),deep+v=21->∀(k n left loc:Int) (s kids e:D),Wd .str s->Wd (.sl 6) kids->0<=left->left<=1000->(e.V 0).n=k->e.V 1=s->(e.V 2).n=n->e.V 3=kids->
 bL 5050 [k,enc s,n,enc kids,(deep:Int),left,loc] (isW v loc left e)
 |v,deep,hm,k,n,left,loc,s,kids,e,hs,hk,RP,Dk,g0,g1,g2,g3=>by
  have wl:IntKind.i64.wrap (left-1)=left-1:=fB J J;refine bL.of ?_;rw [akx];simp only [aiZ,zz,wl]
  have p1:0<v->1<=parts v e:=fun h=>by
   obtain⟨v,rfl⟩ : ∃v',v=v'+1:=⟨v-1,J⟩
   grind [parts]
  have no0: ¬HJ 0 loc e:=id;refine .ite (fun hh=> .out ⟨_,0,rfl,.inl rfl,⟨fun h=>absurd h J,fun h=>?_⟩,fun h=>absurd h J⟩) fun hh=> .ite (fun V=> .out ⟨_,0,rfl,.inl rfl,⟨fun h=>absurd h J,fun h=>?_⟩,fun h=>absurd h J⟩) fun V=> .jump ?_
  ·grind
  ·grind
  obtain⟨v,rfl⟩ : ∃v',v=v'+1:=⟨v-1,J⟩;have ih:=D1 v (deep+1) J;have hlen:=hk.len;have w0:=bB (n:=deep) J
  have loop: ∀(j i:Nat) (l':Int),i+j=kids.l.length->0<=l'->l'<=1000->bL 5051 [(deep:Int),enc kids,(kids.l.length:Int),(i:Int),l',loc,k,enc s,n] (anA v loc l' (kids.l.drop i) (G4 loc k s n kids)):=by
   intro j
   induction j with
   |zero=>
    intro i l' hi q0 q1;have c1: ¬(i:Int)<(kids.l.length:Int):=J
    obtain⟨b,hb,Dq,hR⟩:=v? hs;refine bL.of ?_;rw [acu,aY J];simp only [E!,zz,c1,hR,oE]
    repeat' first
     |(refine .out (afN q0 ?_); unfold G4; grind)
     |(refine .out (aa2 q0 ?_); unfold G4; grind)
     |refine .ite (fun _=>?_) (fun _=>?_)
    grind
   |succ j Ej=>
    intro i l' hi q0 q1;have dc:i<kids.l.length:=J
    have c1:(i:Int)<(kids.l.length:Int):=J
    have c2: ¬((i:Int)<0):=J
    have w:=bB (n:=i) J;obtain⟨k',s',n',Bw,he,_,U,_,Z,f0,f1,f2,f3⟩:=BX hk dc;obtain⟨ys,hR,lf,c,rfl,hc,PH,hc2⟩:=ih k' n' l' loc s' Bw kids.l[i] U Z q0 q1 f0 f1 f2 f3;have V:kids.l.drop i=kids.l[i]::kids.l.drop (i+1):=aM dc;refine bL.of ?_;rw [acu,V];simp only [E!,zz,c1,c2,bI dc,he,zg,w0,w,hR];rw [<- he];refine .ite (fun Ml=> .out ⟨_,0,rfl,.inl rfl,⟨fun h=>absurd h J,fun h=>?_⟩,fun h=>absurd h J⟩) fun Ml=> .jump ?_
    ·have e1:=h.1 _ (av3 ..);have e2:=h.2.1;simp only [aF,axB] at e2;have:=PH.2 ⟨e1,J⟩;omega
    ·have TE:c=1:=J
     obtain⟨e1,e2⟩:=PH.1 TE;have e3:=hc2 TE;obtain⟨ys,hQ,lf',c',rfl,d0,d1,d2⟩:=Ej (i+1) lf J J J;refine⟨_,hQ,lf',c',rfl,d0,?_,fun h=>?_⟩
     ·simp only [aF,axB];refine d1.trans ⟨fun⟨a,b,c⟩=> ⟨fun k hk=>(aH.1 hk).elim (fun e=>e▸e1) (a k),J,c⟩,fun⟨a,b,c⟩=> ⟨fun k hk=>a k (awf _ hk),J,c⟩⟩
     ·simp only [aF,axB];have:=d2 h;omega
  obtain⟨ys,hQ,lf,c,rfl,d0,d1,d2⟩:=loop kids.l.length 0 (left-1) J J J;refine⟨_,hQ,lf,c,rfl,d0,?_,fun h=>?_⟩
  ·simp only [HJ,parts,g0,g1,g2,g3];refine d1.trans ?_;rw [av8];exact⟨fun⟨a,b,c⟩=> ⟨⟨a,c⟩,J⟩,fun⟨⟨a,c⟩,b⟩=> ⟨a,J,c⟩⟩
  ·have:=d2 h;simp only [parts,g3];rw [av8] at this;omega
theorem TU (loc:Int) (hw:Wd (.sl 6) kids) (hi:i<kids.l.length): ∃k s n ks,kids.l[i]=dL [.i k,s,.i n,ks]/\bL 800 [k,enc s,n,enc ks,loc] (cw (HJ 20 loc kids.l[i]/\parts 20 kids.l[i]<=1000)):=by
 obtain⟨k,s,n,ks,he,_,U,_,Z,f0,f1,f2,f3⟩:=BX hw hi;obtain⟨ys,hR,lf,c,rfl,hc,PH,hc2⟩:=D1 20 1 J k n 1000 loc s ks _ U Z J J f0 f1 f2 f3;have hR':L 5050 [k,enc s,n,enc ks,1,1000,loc]=some [lf,loc,c]:=hR;refine⟨k,s,n,ks,he,bL.of ?_⟩;rw [asC];simp only [aqq,zz,hR'];refine .ite (fun h=> .out (dW fun h'=>?_)) fun h=> .out (e8 ?_)
 all_goals grind
def arD (v:Nat) (e:D) (ys:List Int):Prop:= ∃c:Int,ys= [c]/\0<=c/\c<=10000+1000*v/\(c<=1000↔HH v e/\parts v e<=1000)/\(c<=1000->c=parts v e)
def anF (v:Nat) (m:Int) (l:List D) (ys:List Int):Prop:= ∃c:Int,ys= [c]/\0<=c/\c<=11000+1000*v/\(c<=1000↔(∀k∈l,HH v k)/\m+(l.map (parts v)).sum<=1000)/\(c<=1000->c=m+(l.map (parts v)).sum)
theorem QY: ∀(v:Nat),v<=20->∀(k n:Int) (s kids e:D),Wd (.sl 6) kids->e.V 3=kids->bL 4300 [k,enc s,n,enc kids,(v:Int)] (arD v e)
 |0,_,k,n,s,kids,e,hk,g3=>by refine bL.of ?_;rw [acG];simp only [I',zz];refine .ite (fun _=> .out ⟨10000,rfl,J,J,⟨fun h=>absurd h J,fun h=>absurd h.1 id⟩,fun h=>absurd h J⟩) fun h=>absurd h J
 |v+1,hv,k,n,s,kids,e,hk,g3=>by
  have ih:=QY v J;have hlen:=hk.len;have wv:IntKind.i64.wrap (((v+1:Nat):Int)-1)=(v:Int):=by rw [fB J J]; omega
  have loop: ∀(j i:Nat) (m:Int),i+j=kids.l.length->0<=m->m<=11000+1000*v->bL 4301 [((v+1:Nat):Int),m,(i:Int),k,enc s,n,enc kids] (anF v m (kids.l.drop i)):=by
   intro j
   induction j with
   |zero=>
    intro i m hi m0 m1;have c1: ¬(i:Int)<(kids.l.length:Int):=J
    refine bL.of ?_;rw [acF,aY J];simp only [I_,zz,c1];exact .out ⟨m,rfl,m0,m1,⟨fun h=> ⟨ad,by simpa using h⟩,fun h=>by simpa using h.2⟩,fun _=>by simp⟩
   |succ j Ej=>
    intro i m hi m0 m1;have dc:i<kids.l.length:=J
    have c1:(i:Int)<(kids.l.length:Int):=J
    have c2: ¬((i:Int)<0):=J
    have w:=bB (n:=i) J;obtain⟨k',s',n',Bw,he,_,U,_,Z,f0,f1,f2,f3⟩:=BX hk dc;obtain⟨ys,hR,c,rfl,Ml,PH,hc2,hc3⟩:=ih k' n' s' Bw kids.l[i] Z f3;have V:kids.l.drop i=kids.l[i]::kids.l.drop (i+1):=aM dc;refine bL.of ?_;rw [acF,V];simp only [I_,zz,c1,c2,bI dc,he,zg,wv,w,hR];rw [<- he];refine .ite (fun hm=> .out ⟨m,rfl,m0,m1,⟨fun h=>absurd h J,fun h=>?_⟩,fun h=>absurd h J⟩) fun hm=> .jump ?_
    ·grind
    ·have wm:IntKind.i64.wrap (m+c)=m+c:=fB J J;rw [wm];obtain⟨ys,hQ,c',rfl,d0,d1,d2,d3⟩:=Ej (i+1) (m+c) J J J;refine⟨_,hQ,c',rfl,d0,d1,?_,fun h=>?_⟩
     all_goals grind
  refine bL.of ?_;rw [acG];have c1: ¬((v+1:Nat):Int)<1:=J
  simp only [I',zz,c1];refine .jump ?_;obtain⟨ys,hQ,c',rfl,d0,d1,d2,d3⟩:=loop kids.l.length 0 1 J J J;rw [av8] at d2 d3;refine⟨_,hQ,c',rfl,d0,J,?_,fun h=>?_⟩
  ·simp only [HH,parts,g3]
   grind
  ·have:=d3 h;simp only [parts,g3];omega
theorem WI: ∀(v:Nat),∀(k n loc:Int) (s kids e:D),Wd .str s->Wd (.sl 6) kids->HH v e->(e.V 0).n=k->e.V 1=s->(e.V 2).n=n->e.V 3=kids->bL 4350 [k,enc s,n,enc kids,loc] (cw (HJ v loc e))
 |0,k,n,loc,s,kids,e,hs,hk,hf,g0,g1,g2,g3=>absurd hf id
 |v+1,k,n,loc,s,kids,e,hs,hk,hf,g0,g1,g2,g3=>by
  have ih:=WI v;have hlen:=hk.len;simp only [HH,g3] at hf
  have loop: ∀(j i:Nat),i+j=kids.l.length->bL 4351 [loc,(i:Int),k,enc s,n,enc kids] (cw ((∀x∈kids.l.drop i,HJ v loc x)/\G4 loc k s n kids)):=by
   intro j
   induction j with
   |zero=>
    intro i hi;have c1: ¬(i:Int)<(kids.l.length:Int):=J
    obtain⟨ys,hR,b,rfl,hb,Dq⟩:=Yy hs;refine bL.of ?_;rw [acE,aY J];simp only [H?,zz,c1,hR,oE]
    repeat' first
     |(refine .out (dW fun h=>absurd h.2 ?_); unfold G4; grind)
     |(refine .out (e8 ⟨ad,?_⟩); unfold G4; grind)
     |refine .ite (fun _=>?_) (fun _=>?_)
   |succ j Ej=>
    intro i hi;have dc:i<kids.l.length:=J
    have c1:(i:Int)<(kids.l.length:Int):=J
    have c2: ¬((i:Int)<0):=J
    have w:=bB (n:=i) J;obtain⟨k',s',n',Bw,he,_,U,_,Z,f0,f1,f2,f3⟩:=BX hk dc;obtain⟨ys,hR,c,rfl,hc,PH⟩:=ih k' n' loc s' Bw kids.l[i] U Z (hf _ (au dc)) f0 f1 f2 f3;have V:kids.l.drop i=kids.l[i]::kids.l.drop (i+1):=aM dc;refine bL.of ?_;rw [acE,V];simp only [H?,zz,c1,c2,bI dc,he,zg,w,hR];rw [<- he];refine .ite (fun h0=> .out (dW fun h=>?_)) fun h0=> .jump ((Ej (i+1) J).iff ?_)
    all_goals grind
  refine bL.of ?_;rw [akJ];simp only [aja,zz];refine .jump ((loop kids.l.length 0 J).iff ?_)
  grind [HJ]
end
section
variable {P:Prop} {l:List Int}
def kOf (o:Int):Int:=if o<=4 then 1 else if o<=8 then 2 else if o<=11 then 3 else if o<=14 then 4 else if o=15 then 5 else if o=16 then 6 else if o<=19 then 7 else if o<=21 then 8 else 9
def Iz (o:Int):Int:=if o=4\/o=17\/o=20\/o=23 then 1 else 0
def Az (o:Int):Int:=if o=3\/o=4\/o=11\/o=21\/o=22 then 1 else 0
theorem pK (o:Int):1<=kOf o/\kOf o<=9:=by unfold kOf; grind
theorem kE (o:Int):Iz o=0\/Iz o=1:=by unfold Iz; grind
theorem kf (o:Int):Az o=0\/Az o=1:=by unfold Az; grind
theorem zB (o:Int):L 1200 [o]=some [kOf o]:=by
 have:bL 1200 [o] (fun ys=>ys= [kOf o]):=by refine bL.of ?_;rw [ali];simp only [ajv,zz];exact ah0
 exact tf
theorem td (o:Int):L 1250 [o]=some [Iz o]:=by
 have:bL 1250 [o] (fun ys=>ys= [Iz o]):=by refine bL.of ?_;rw [alh];simp only [aju,zz];exact ahZ
 exact tf
theorem sY (o:Int):L 1300 [o]=some [Az o]:=by
 have:bL 1300 [o] (fun ys=>ys= [Az o]):=by refine bL.of ?_;rw [alg];simp only [ajt,zz];exact ahY
 exact tf
theorem OT (o:Int):L 4450 [o]=some [if 1<=o/\o<=23 then kOf o else 0]:=by
 have:bL 4450 [o] (fun ys=>ys= [if 1<=o/\o<=23 then kOf o else 0]):=by refine bL.of ?_;rw [akH];simp only [ai8,zz];exact ah0
 exact tf
theorem SY (o:Int):L 4550 [o]=some [Iz o]:=by
 have:bL 4550 [o] (fun ys=>ys= [Iz o]):=by refine bL.of ?_;rw [akF];simp only [ai6,zz];exact ahZ
 exact tf
theorem SX (o:Int):L 4600 [o]=some [Az o]:=by
 have:bL 4600 [o] (fun ys=>ys= [Az o]):=by refine bL.of ?_;rw [akE];simp only [ai5,zz];exact ahY
 exact tf
theorem lC (n b:Int):bL 4500 [n,b] (cw (0<=n/\n<b)):=by refine bL.of ?_;rw [akG];simp only [ai7,zz];exact .ite (fun _=> .out (dW J)) fun _=> .ite (fun _=> .out (e8 J)) fun _=> .out (dW J)
theorem Ii (k:Int):bL 1350 [k] (cw (k=3\/k=5\/k=8\/k=9)):=by refine bL.of ?_;rw [alf];simp only [ajs,zz];exact alV
theorem YH:(List.range 37).all (fun k=>Nat.ble 2 (Pr (k:Int)).l.length)=true:=aa
theorem aaE (b:Int) (h0:0<=b) (U:b<256) (h:isLt b=true):L 1000 [enc (.p (.i b) (.i 0))]=some [1]:=by
 obtain⟨ys,hL,c,rfl,hc,hx⟩:=Da [b] (fun x hx=>by obtain rfl:=axp.1 hx; exact⟨h0,U⟩)
 have:c=1:=hx.2 ⟨ad,⟨ad,h⟩,fun x hx=>by obtain rfl:=axp.1 hx; simp only [zi,h,axA],fun⟨k,hk,q⟩=>by
  have:=aP.1 YH _ (av2.2 hk);have:=avU this;rw [<- q,eK] at this
  simp at this⟩
 rw [this] at hL;exact hL
theorem arp:L 1000 [enc (.p (.i 97) (.i 0))]=some [1]:=aaE 97 J J ae
theorem aro:L 1000 [enc (.p (.i 98) (.i 0))]=some [1]:=aaE 98 J J ae
theorem C8:L 1000 [enc (.i 0)]=some [0]:=by
 obtain⟨ys,hL,c,rfl,hc,hx⟩:=Da [] (fun x hx=>by simp at hx)
 have: ¬c=1:=fun h=>by
  obtain⟨h0,_⟩:=(hx.1 h).2.1
  grind
 rw [show c=0 by omega] at hL;exact hL
theorem aue: ¬(D.p (.i 98) (.i 0)= .i 0):=by intro h; cases h
theorem VN (k n z:Int):bL 1400 [k,enc (.p (.i 97) (.i 0)),n,enc (.i 0),z] (cw (1<=k/\k<=9/\k≠4/\0<=n/\(0<n->k=3\/k=5\/k=8\/k=9))):=by obtain⟨ys,hC,c,rfl,hc,hx⟩:=Ii k;refine bL.of ?_;rw [WV];simp only [Vu,zz,arp,C8,hC];exact alV
theorem LY (k n z:Int):bL 1400 [k,enc (.p (.i 97) (.i 0)),n,enc (.p (.i 98) (.i 0)),z] (cw (k=4/\n=0)):=by obtain⟨ys,hC,c,rfl,hc,hx⟩:=Ii k;refine bL.of ?_;rw [WV];simp only [Vu,zz,arp,aro,hC,oE,aue];exact alV
theorem J5:L 1400 [1,enc (.p (.i 98) (.i 0)),0,enc (.i 0),0]=some [1]:=by
 have:bL 1400 [1,enc (.p (.i 98) (.i 0)),0,enc (.i 0),0] (fun ys=>ys= [1]):=by
  refine bL.of ?_;rw [WV];simp only [Vu,zz,aro]
  repeat' first |exact .out rfl|refine .ite (fun _=>?_) (fun _=>?_)|(exfalso; omega)|(exfalso; rename_i h; exact h rfl)
 exact tf
theorem L9:((dL [E1]).l.length:Int)=1:=rfl
def YI (P:Prop) (ys:List Int):Prop:= ∃b l,ys=b::l/\(b=0\/b=1)/\(b=1↔P)
theorem anD (h: ¬P):YI P (0::l):=⟨0,l,rfl,.inl rfl,fun h'=>absurd h' J,fun h'=>absurd h' h⟩
theorem anC (h:P):YI P (1::l):=⟨1,l,rfl,.inr rfl,fun _=>h,fun _=>rfl⟩
def obP (k n:Int):Prop:=1<=k/\k<=9/\k≠4/\0<=n/\(0<n->k=3\/k=5\/k=8\/k=9)
theorem wV (k n op:Int):bL 12400 [k,n,0,0,op,0,0] (YI (obP k n/\1<=op/\op<=23/\Iz op=0/\Az op=0)):=by obtain⟨ys,U,o,rfl,ho,hx⟩:=VN k n 0;have Z:=td op;have h3:=sY op;have N1:=kf op;have Rq:=kE op;refine bL.of ?_;rw [adv];simp only [S?,zz,U,Z,h3,C8,FG];exact aic
theorem wU (k n op:Int):bL 12500 [k,n,0,0,op,0,0] (YI (obP k n/\1<=op/\op<=23/\Iz op=0/\Az op=1)):=by obtain⟨ys,U,o,rfl,ho,hx⟩:=VN k n 0;have Z:=td op;have h3:=sY op;have N1:=kf op;have Rq:=kE op;refine bL.of ?_;rw [adt];simp only [S_,zz,U,Z,h3,C8,FG];exact aic
theorem s? (k op:Int):bL 12450 [0,0,k,0,0,0,op,0,0] (YI (k=4/\1<=op/\op<=23/\Iz op=0/\Az op=0)):=by obtain⟨ys,U,o,rfl,ho,hx⟩:=LY k 0 0;have Z:=td op;have h3:=sY op;have N1:=kf op;have Rq:=kE op;refine bL.of ?_;rw [adu];simp only [S!,zz,U,Z,h3,C8,FG,J5];exact alY
theorem s_ (k op:Int):bL 12550 [0,0,k,0,0,0,op,0,0] (YI (k=4/\1<=op/\op<=23/\Iz op=0/\Az op=1)):=by obtain⟨ys,U,o,rfl,ho,hx⟩:=LY k 0 0;have Z:=td op;have h3:=sY op;have N1:=kf op;have Rq:=kE op;refine bL.of ?_;rw [ads];simp only [R?,zz,U,Z,h3,C8,FG,J5];exact alY
def BB (P:Prop) (m k:Nat) (ys:List Int):Prop:=(¬(P/\m=1)/\∃l,ys=0::l)\/(P/\m=1/\low ys 0=1/\low ys k=1/\low ys (k+1)=enc (dL [E1]))
theorem wT (m:Nat) (hm:1<=m) (k n op:Int):bL 12600 [k,n,0,0,op,0,enc (jG m),0] (BB (obP k n/\1<=op/\op<=23/\Iz op=1/\Az op=0) m 9):=by
 obtain⟨ys,U,o,rfl,ho,hx⟩:=VN k n 0;have Z:=td op;have h3:=sY op;have N1:=kf op;have Rq:=kE op;refine bL.of ?_;rw [adr];unfold BB obP;by_cases h:m=1
 ·subst h;have h5:=yO;simp only [Sy,zz,U,Z,h3,C8,jG,List.replicate,h5,L9];exact aeC
 ·have c1: ¬((m:Int)=Iz op):=J
  simp only [Sy,zz,U,Z,h3,C8,uB,c1];exact aex
theorem wS (m:Nat) (hm:1<=m) (k n op:Int):bL 12700 [k,n,0,0,op,0,enc (jG m),0] (BB (obP k n/\1<=op/\op<=23/\Iz op=1/\Az op=1) m 9):=by
 obtain⟨ys,U,o,rfl,ho,hx⟩:=VN k n 0;have Z:=td op;have h3:=sY op;have N1:=kf op;have Rq:=kE op;refine bL.of ?_;rw [adp];unfold BB obP;by_cases h:m=1
 ·subst h;have h5:=yO;simp only [Su,zz,U,Z,h3,C8,jG,List.replicate,h5,L9];exact aeC
 ·have c1: ¬((m:Int)=Iz op):=J
  simp only [Su,zz,U,Z,h3,C8,uB,c1];exact aex
theorem r? (m:Nat) (hm:1<=m) (k op:Int):bL 12650 [0,0,k,0,0,0,op,0,enc (jG m),0] (BB (k=4/\1<=op/\op<=23/\Iz op=1/\Az op=0) m 11):=by
 obtain⟨ys,U,o,rfl,ho,hx⟩:=LY k 0 0;have Z:=td op;have h3:=sY op;have N1:=kf op;have Rq:=kE op;refine bL.of ?_;rw [adq];unfold BB;by_cases h:m=1
 ·subst h;have h5:=yO;simp only [Sv,zz,U,Z,h3,C8,J5,jG,List.replicate,h5,L9];exact aeC
 ·have c1: ¬((m:Int)=Iz op):=J
  simp only [Sv,zz,U,Z,h3,C8,J5,uB,c1];exact aex
theorem r! (m:Nat) (hm:1<=m) (k op:Int):bL 12750 [0,0,k,0,0,0,op,0,enc (jG m),0] (BB (k=4/\1<=op/\op<=23/\Iz op=1/\Az op=1) m 11):=by
 obtain⟨ys,U,o,rfl,ho,hx⟩:=LY k 0 0;have Z:=td op;have h3:=sY op;have N1:=kf op;have Rq:=kE op;refine bL.of ?_;rw [ado];unfold BB;by_cases h:m=1
 ·subst h;have h5:=yO;simp only [Ss,zz,U,Z,h3,C8,J5,jG,List.replicate,h5,L9];exact aeC
 ·have c1: ¬((m:Int)=Iz op):=J
  simp only [Ss,zz,U,Z,h3,C8,J5,uB,c1];exact aex
def dj (k op iX:Int) (m:Nat) (loc:Int):Prop:=1<=op/\op<=23/\k=kOf op/\(m:Int)=Iz op/\((iX= -1/\Az op=0)\/(iX≠-1/\Az op=1/\loc≠0))
theorem mg:((D.i 0).l.length:Int)=0:=rfl
theorem jC (k:D):((wA (D.i 0).l k (.i 1)).length:Int)=1:=rfl
end
section
variable {k:Int}
theorem VO:obP k 1↔k=3\/k=5\/k=8\/k=9:=by unfold obP; omega
theorem VP:obP k 0↔1<=k/\k<=9/\k≠4:=by unfold obP; omega
theorem amM (x0 x2 x3 x4 x5 x6 x7 x8:Int) (hn:x5= -1) (hk:x0=3):bL 951 [x0,0,x2,x3,x4,x5,x6,x7,x8] (cw (dj x0 x3 x5 0 0)):=by subst hk;obtain⟨ys,a1,b1,l1,rfl,f1,g1⟩:=wV 3 1 x3;exact zm8
theorem amJ (x0 x2 x3 x4 x5 x6 x7 x8:Int) (hn:x5= -1) (hk:x0=8):bL 951 [x0,0,x2,x3,x4,x5,x6,x7,x8] (cw (dj x0 x3 x5 0 0)):=by subst hk;obtain⟨ys,a1,b1,l1,rfl,f1,g1⟩:=wV 8 1 x3;exact zm8
theorem amK (x0 x2 x3 x4 x5 x6 x7 x8:Int) (hn:x5= -1) (hk:x0=5):bL 951 [x0,0,x2,x3,x4,x5,x6,x7,x8] (cw (dj x0 x3 x5 0 0)):=by subst hk;obtain⟨ys,a1,b1,l1,rfl,f1,g1⟩:=wV 5 1 x3;exact zm8
theorem amL (x0 x2 x3 x4 x5 x6 x7 x8:Int) (hn:x5= -1) (hk:x0=4):bL 951 [x0,0,x2,x3,x4,x5,x6,x7,x8] (cw (dj x0 x3 x5 0 0)):=by subst hk;obtain⟨ys,a1,b1,l1,rfl,f1,g1⟩:=s? 4 x3;exact zm3
theorem amN (x0 x2 x3 x4 x5 x6 x7 x8:Int) (hn:x5= -1) (h3:x0≠3) (h8:x0≠8) (h5:x0≠5) (h4:x0≠4):bL 951 [x0,0,x2,x3,x4,x5,x6,x7,x8] (cw (dj x0 x3 x5 0 0)):=by obtain⟨ys,a1,b1,l1,rfl,f1,g1⟩:=wV x0 0 x3;exact apS
theorem amH (x0 x2 x3 x4 x5 x6 x7 x8:Int) (hn:x5≠-1) (hk:x0=3):bL 951 [x0,0,x2,x3,x4,x5,x6,x7,x8] (cw (dj x0 x3 x5 0 0)):=by subst hk;obtain⟨ys,a1,b1,l1,rfl,f1,g1⟩:=wU 3 1 x3;exact zm8
theorem amE (x0 x2 x3 x4 x5 x6 x7 x8:Int) (hn:x5≠-1) (hk:x0=8):bL 951 [x0,0,x2,x3,x4,x5,x6,x7,x8] (cw (dj x0 x3 x5 0 0)):=by subst hk;obtain⟨ys,a1,b1,l1,rfl,f1,g1⟩:=wU 8 1 x3;exact zm8
theorem amF (x0 x2 x3 x4 x5 x6 x7 x8:Int) (hn:x5≠-1) (hk:x0=5):bL 951 [x0,0,x2,x3,x4,x5,x6,x7,x8] (cw (dj x0 x3 x5 0 0)):=by subst hk;obtain⟨ys,a1,b1,l1,rfl,f1,g1⟩:=wU 5 1 x3;exact zm8
theorem amG (x0 x2 x3 x4 x5 x6 x7 x8:Int) (hn:x5≠-1) (hk:x0=4):bL 951 [x0,0,x2,x3,x4,x5,x6,x7,x8] (cw (dj x0 x3 x5 0 0)):=by subst hk;obtain⟨ys,a1,b1,l1,rfl,f1,g1⟩:=s_ 4 x3;exact zm3
theorem amI (x0 x2 x3 x4 x5 x6 x7 x8:Int) (hn:x5≠-1) (h3:x0≠3) (h8:x0≠8) (h5:x0≠5) (h4:x0≠4):bL 951 [x0,0,x2,x3,x4,x5,x6,x7,x8] (cw (dj x0 x3 x5 0 0)):=by obtain⟨ys,a1,b1,l1,rfl,f1,g1⟩:=wU x0 0 x3;exact apS
theorem atH (x0 x2 x3 x4 x5 x6 x7 x8:Int):bL 951 [x0,0,x2,x3,x4,x5,x6,x7,x8] (cw (dj x0 x3 x5 0 0)):=by
 by_cases hn:x5= -1
 ·
  by_cases h3:x0=3
  ·exact amM x0 x2 x3 x4 x5 x6 x7 x8 hn h3
  by_cases h8:x0=8
  ·exact amJ x0 x2 x3 x4 x5 x6 x7 x8 hn h8
  by_cases h5:x0=5
  ·exact amK x0 x2 x3 x4 x5 x6 x7 x8 hn h5
  by_cases h4:x0=4
  ·exact amL x0 x2 x3 x4 x5 x6 x7 x8 hn h4
  exact amN x0 x2 x3 x4 x5 x6 x7 x8 hn h3 h8 h5 h4
 grind [amH,amE,amF,amG,amI]
theorem amC (x0 x2 x3 x4 x5 x6 x7 x8:Int) (hn:x5= -1) (hk:x0=3):bL 952 [x0,0,x2,x3,x4,x5,x6,x7,x8] (cw (dj x0 x3 x5 0 1)):=by subst hk;obtain⟨ys,a1,b1,l1,rfl,f1,g1⟩:=wV 3 1 x3;exact zm9
theorem amz (x0 x2 x3 x4 x5 x6 x7 x8:Int) (hn:x5= -1) (hk:x0=8):bL 952 [x0,0,x2,x3,x4,x5,x6,x7,x8] (cw (dj x0 x3 x5 0 1)):=by subst hk;obtain⟨ys,a1,b1,l1,rfl,f1,g1⟩:=wV 8 1 x3;exact zm9
theorem amA (x0 x2 x3 x4 x5 x6 x7 x8:Int) (hn:x5= -1) (hk:x0=5):bL 952 [x0,0,x2,x3,x4,x5,x6,x7,x8] (cw (dj x0 x3 x5 0 1)):=by subst hk;obtain⟨ys,a1,b1,l1,rfl,f1,g1⟩:=wV 5 1 x3;exact zm9
theorem amB (x0 x2 x3 x4 x5 x6 x7 x8:Int) (hn:x5= -1) (hk:x0=4):bL 952 [x0,0,x2,x3,x4,x5,x6,x7,x8] (cw (dj x0 x3 x5 0 1)):=by subst hk;obtain⟨ys,a1,b1,l1,rfl,f1,g1⟩:=s? 4 x3;exact zm4
theorem amD (x0 x2 x3 x4 x5 x6 x7 x8:Int) (hn:x5= -1) (h3:x0≠3) (h8:x0≠8) (h5:x0≠5) (h4:x0≠4):bL 952 [x0,0,x2,x3,x4,x5,x6,x7,x8] (cw (dj x0 x3 x5 0 1)):=by obtain⟨ys,a1,b1,l1,rfl,f1,g1⟩:=wV x0 0 x3;exact apR
theorem amx (x0 x2 x3 x4 x5 x6 x7 x8:Int) (hn:x5≠-1) (hk:x0=3):bL 952 [x0,0,x2,x3,x4,x5,x6,x7,x8] (cw (dj x0 x3 x5 0 1)):=by subst hk;obtain⟨ys,a1,b1,l1,rfl,f1,g1⟩:=wU 3 1 x3;exact zm9
theorem amu (x0 x2 x3 x4 x5 x6 x7 x8:Int) (hn:x5≠-1) (hk:x0=8):bL 952 [x0,0,x2,x3,x4,x5,x6,x7,x8] (cw (dj x0 x3 x5 0 1)):=by subst hk;obtain⟨ys,a1,b1,l1,rfl,f1,g1⟩:=wU 8 1 x3;exact zm9
theorem amv (x0 x2 x3 x4 x5 x6 x7 x8:Int) (hn:x5≠-1) (hk:x0=5):bL 952 [x0,0,x2,x3,x4,x5,x6,x7,x8] (cw (dj x0 x3 x5 0 1)):=by subst hk;obtain⟨ys,a1,b1,l1,rfl,f1,g1⟩:=wU 5 1 x3;exact zm9
theorem amw (x0 x2 x3 x4 x5 x6 x7 x8:Int) (hn:x5≠-1) (hk:x0=4):bL 952 [x0,0,x2,x3,x4,x5,x6,x7,x8] (cw (dj x0 x3 x5 0 1)):=by subst hk;obtain⟨ys,a1,b1,l1,rfl,f1,g1⟩:=s_ 4 x3;exact zm4
theorem amy (x0 x2 x3 x4 x5 x6 x7 x8:Int) (hn:x5≠-1) (h3:x0≠3) (h8:x0≠8) (h5:x0≠5) (h4:x0≠4):bL 952 [x0,0,x2,x3,x4,x5,x6,x7,x8] (cw (dj x0 x3 x5 0 1)):=by obtain⟨ys,a1,b1,l1,rfl,f1,g1⟩:=wU x0 0 x3;exact apR
theorem atG (x0 x2 x3 x4 x5 x6 x7 x8:Int):bL 952 [x0,0,x2,x3,x4,x5,x6,x7,x8] (cw (dj x0 x3 x5 0 1)):=by
 by_cases hn:x5= -1
 ·
  by_cases h3:x0=3
  ·exact amC x0 x2 x3 x4 x5 x6 x7 x8 hn h3
  by_cases h8:x0=8
  ·exact amz x0 x2 x3 x4 x5 x6 x7 x8 hn h8
  by_cases h5:x0=5
  ·exact amA x0 x2 x3 x4 x5 x6 x7 x8 hn h5
  by_cases h4:x0=4
  ·exact amB x0 x2 x3 x4 x5 x6 x7 x8 hn h4
  exact amD x0 x2 x3 x4 x5 x6 x7 x8 hn h3 h8 h5 h4
 grind [amx,amu,amv,amw,amy]
theorem ams (m:Nat) (hm:1<=m) (x0 x3 x4 x5 x6 x7 x8 x9:Int) (hn:x6= -1) (hk:x0=3):bL 953 [x0,(m:Int),(m:Int),x3,x4,x5,x6,x7,x8,x9,enc (jG m)] (cw (dj x0 x4 x6 m 0)):=by subst hk;obtain⟨ys,a1,g1⟩:=wT m hm 3 1 x4;exact zm0
theorem amp (m:Nat) (hm:1<=m) (x0 x3 x4 x5 x6 x7 x8 x9:Int) (hn:x6= -1) (hk:x0=8):bL 953 [x0,(m:Int),(m:Int),x3,x4,x5,x6,x7,x8,x9,enc (jG m)] (cw (dj x0 x4 x6 m 0)):=by subst hk;obtain⟨ys,a1,g1⟩:=wT m hm 8 1 x4;exact zm0
theorem amq (m:Nat) (hm:1<=m) (x0 x3 x4 x5 x6 x7 x8 x9:Int) (hn:x6= -1) (hk:x0=5):bL 953 [x0,(m:Int),(m:Int),x3,x4,x5,x6,x7,x8,x9,enc (jG m)] (cw (dj x0 x4 x6 m 0)):=by subst hk;obtain⟨ys,a1,g1⟩:=wT m hm 5 1 x4;exact zm0
theorem amr (m:Nat) (hm:1<=m) (x0 x3 x4 x5 x6 x7 x8 x9:Int) (hn:x6= -1) (hk:x0=4):bL 953 [x0,(m:Int),(m:Int),x3,x4,x5,x6,x7,x8,x9,enc (jG m)] (cw (dj x0 x4 x6 m 0)):=by subst hk;obtain⟨ys,a1,g1⟩:=r? m hm 4 x4;exact apW
theorem amt (m:Nat) (hm:1<=m) (x0 x3 x4 x5 x6 x7 x8 x9:Int) (hn:x6= -1) (h3:x0≠3) (h8:x0≠8) (h5:x0≠5) (h4:x0≠4):bL 953 [x0,(m:Int),(m:Int),x3,x4,x5,x6,x7,x8,x9,enc (jG m)] (cw (dj x0 x4 x6 m 0)):=by obtain⟨ys,a1,g1⟩:=wT m hm x0 0 x4;exact apZ
theorem amn (m:Nat) (hm:1<=m) (x0 x3 x4 x5 x6 x7 x8 x9:Int) (hn:x6≠-1) (hk:x0=3):bL 953 [x0,(m:Int),(m:Int),x3,x4,x5,x6,x7,x8,x9,enc (jG m)] (cw (dj x0 x4 x6 m 0)):=by subst hk;obtain⟨ys,a1,g1⟩:=wS m hm 3 1 x4;exact zm0
theorem amk (m:Nat) (hm:1<=m) (x0 x3 x4 x5 x6 x7 x8 x9:Int) (hn:x6≠-1) (hk:x0=8):bL 953 [x0,(m:Int),(m:Int),x3,x4,x5,x6,x7,x8,x9,enc (jG m)] (cw (dj x0 x4 x6 m 0)):=by subst hk;obtain⟨ys,a1,g1⟩:=wS m hm 8 1 x4;exact zm0
theorem aml (m:Nat) (hm:1<=m) (x0 x3 x4 x5 x6 x7 x8 x9:Int) (hn:x6≠-1) (hk:x0=5):bL 953 [x0,(m:Int),(m:Int),x3,x4,x5,x6,x7,x8,x9,enc (jG m)] (cw (dj x0 x4 x6 m 0)):=by subst hk;obtain⟨ys,a1,g1⟩:=wS m hm 5 1 x4;exact zm0
theorem amm (m:Nat) (hm:1<=m) (x0 x3 x4 x5 x6 x7 x8 x9:Int) (hn:x6≠-1) (hk:x0=4):bL 953 [x0,(m:Int),(m:Int),x3,x4,x5,x6,x7,x8,x9,enc (jG m)] (cw (dj x0 x4 x6 m 0)):=by subst hk;obtain⟨ys,a1,g1⟩:=r! m hm 4 x4;exact apW
theorem amo (m:Nat) (hm:1<=m) (x0 x3 x4 x5 x6 x7 x8 x9:Int) (hn:x6≠-1) (h3:x0≠3) (h8:x0≠8) (h5:x0≠5) (h4:x0≠4):bL 953 [x0,(m:Int),(m:Int),x3,x4,x5,x6,x7,x8,x9,enc (jG m)] (cw (dj x0 x4 x6 m 0)):=by obtain⟨ys,a1,g1⟩:=wS m hm x0 0 x4;exact apZ
theorem aqc (m:Nat) (hm:1<=m) (x0 x3 x4 x5 x6 x7 x8 x9:Int):bL 953 [x0,(m:Int),(m:Int),x3,x4,x5,x6,x7,x8,x9,enc (jG m)] (cw (dj x0 x4 x6 m 0)):=by
 by_cases hn:x6= -1
 ·
  by_cases h3:x0=3
  ·exact ams m hm x0 x3 x4 x5 x6 x7 x8 x9 hn h3
  by_cases h8:x0=8
  ·exact amp m hm x0 x3 x4 x5 x6 x7 x8 x9 hn h8
  by_cases h5:x0=5
  ·exact amq m hm x0 x3 x4 x5 x6 x7 x8 x9 hn h5
  by_cases h4:x0=4
  ·exact amr m hm x0 x3 x4 x5 x6 x7 x8 x9 hn h4
  exact amt m hm x0 x3 x4 x5 x6 x7 x8 x9 hn h3 h8 h5 h4
 grind [amn,amk,aml,amm,amo]
theorem aqd (M:Nat) (hM:M<=2513169434915) (x0 x3 x4 x5 x6 x7 x8 x9:Int): ∀(j m:Nat),m+j=M->1<=m->bL 953 [x0,(M:Int),(m:Int),x3,x4,x5,x6,x7,x8,x9,enc (jG m)] (cw (dj x0 x4 x6 M 0))
 |0,m,U,Z=>by
  grind [aqc]
 |j+1,m,U,Z=>by
  have ih:=aqd M hM x0 x3 x4 x5 x6 x7 x8 x9 j (m+1) J J;have c1:(m:Int)<(M:Int):=J
  have c2:((m:Nat):Int)<2513169434915:=J
  have w:=bB (n:=m) J
  have hr:jG (m+1)=dL ((jG m).l++ [E1]):=by unfold jG;rw [bF,List.replicate_succ']
  rw [hr] at ih;refine bL.of ?_;rw [abX];simp only [OB,zz,c1,c2,uB,w];exact .jump ih
theorem ami (m:Nat) (hm:1<=m) (x0 x3 x4 x5 x6 x7 x8 x9:Int) (hn:x6= -1) (hk:x0=3):bL 954 [x0,(m:Int),(m:Int),x3,x4,x5,x6,x7,x8,x9,enc (jG m)] (cw (dj x0 x4 x6 m 1)):=by subst hk;obtain⟨ys,a1,g1⟩:=wT m hm 3 1 x4;exact zm1
theorem amf (m:Nat) (hm:1<=m) (x0 x3 x4 x5 x6 x7 x8 x9:Int) (hn:x6= -1) (hk:x0=8):bL 954 [x0,(m:Int),(m:Int),x3,x4,x5,x6,x7,x8,x9,enc (jG m)] (cw (dj x0 x4 x6 m 1)):=by subst hk;obtain⟨ys,a1,g1⟩:=wT m hm 8 1 x4;exact zm1
theorem amg (m:Nat) (hm:1<=m) (x0 x3 x4 x5 x6 x7 x8 x9:Int) (hn:x6= -1) (hk:x0=5):bL 954 [x0,(m:Int),(m:Int),x3,x4,x5,x6,x7,x8,x9,enc (jG m)] (cw (dj x0 x4 x6 m 1)):=by subst hk;obtain⟨ys,a1,g1⟩:=wT m hm 5 1 x4;exact zm1
theorem amh (m:Nat) (hm:1<=m) (x0 x3 x4 x5 x6 x7 x8 x9:Int) (hn:x6= -1) (hk:x0=4):bL 954 [x0,(m:Int),(m:Int),x3,x4,x5,x6,x7,x8,x9,enc (jG m)] (cw (dj x0 x4 x6 m 1)):=by subst hk;obtain⟨ys,a1,g1⟩:=r? m hm 4 x4;exact apV
theorem amj (m:Nat) (hm:1<=m) (x0 x3 x4 x5 x6 x7 x8 x9:Int) (hn:x6= -1) (h3:x0≠3) (h8:x0≠8) (h5:x0≠5) (h4:x0≠4):bL 954 [x0,(m:Int),(m:Int),x3,x4,x5,x6,x7,x8,x9,enc (jG m)] (cw (dj x0 x4 x6 m 1)):=by obtain⟨ys,a1,g1⟩:=wT m hm x0 0 x4;exact apX
theorem amd (m:Nat) (hm:1<=m) (x0 x3 x4 x5 x6 x7 x8 x9:Int) (hn:x6≠-1) (hk:x0=3):bL 954 [x0,(m:Int),(m:Int),x3,x4,x5,x6,x7,x8,x9,enc (jG m)] (cw (dj x0 x4 x6 m 1)):=by subst hk;obtain⟨ys,a1,g1⟩:=wS m hm 3 1 x4;exact zm1
theorem ama (m:Nat) (hm:1<=m) (x0 x3 x4 x5 x6 x7 x8 x9:Int) (hn:x6≠-1) (hk:x0=8):bL 954 [x0,(m:Int),(m:Int),x3,x4,x5,x6,x7,x8,x9,enc (jG m)] (cw (dj x0 x4 x6 m 1)):=by subst hk;obtain⟨ys,a1,g1⟩:=wS m hm 8 1 x4;exact zm1
theorem amb (m:Nat) (hm:1<=m) (x0 x3 x4 x5 x6 x7 x8 x9:Int) (hn:x6≠-1) (hk:x0=5):bL 954 [x0,(m:Int),(m:Int),x3,x4,x5,x6,x7,x8,x9,enc (jG m)] (cw (dj x0 x4 x6 m 1)):=by subst hk;obtain⟨ys,a1,g1⟩:=wS m hm 5 1 x4;exact zm1
theorem amc (m:Nat) (hm:1<=m) (x0 x3 x4 x5 x6 x7 x8 x9:Int) (hn:x6≠-1) (hk:x0=4):bL 954 [x0,(m:Int),(m:Int),x3,x4,x5,x6,x7,x8,x9,enc (jG m)] (cw (dj x0 x4 x6 m 1)):=by subst hk;obtain⟨ys,a1,g1⟩:=r! m hm 4 x4;exact apV
theorem ame (m:Nat) (hm:1<=m) (x0 x3 x4 x5 x6 x7 x8 x9:Int) (hn:x6≠-1) (h3:x0≠3) (h8:x0≠8) (h5:x0≠5) (h4:x0≠4):bL 954 [x0,(m:Int),(m:Int),x3,x4,x5,x6,x7,x8,x9,enc (jG m)] (cw (dj x0 x4 x6 m 1)):=by obtain⟨ys,a1,g1⟩:=wS m hm x0 0 x4;exact apX
theorem aqa (m:Nat) (hm:1<=m) (x0 x3 x4 x5 x6 x7 x8 x9:Int):bL 954 [x0,(m:Int),(m:Int),x3,x4,x5,x6,x7,x8,x9,enc (jG m)] (cw (dj x0 x4 x6 m 1)):=by
 by_cases hn:x6= -1
 ·
  by_cases h3:x0=3
  ·exact ami m hm x0 x3 x4 x5 x6 x7 x8 x9 hn h3
  by_cases h8:x0=8
  ·exact amf m hm x0 x3 x4 x5 x6 x7 x8 x9 hn h8
  by_cases h5:x0=5
  ·exact amg m hm x0 x3 x4 x5 x6 x7 x8 x9 hn h5
  by_cases h4:x0=4
  ·exact amh m hm x0 x3 x4 x5 x6 x7 x8 x9 hn h4
  exact amj m hm x0 x3 x4 x5 x6 x7 x8 x9 hn h3 h8 h5 h4
 grind [amd,ama,amb,amc,ame]
theorem aqb (M:Nat) (hM:M<=2513169434915) (x0 x3 x4 x5 x6 x7 x8 x9:Int): ∀(j m:Nat),m+j=M->1<=m->bL 954 [x0,(M:Int),(m:Int),x3,x4,x5,x6,x7,x8,x9,enc (jG m)] (cw (dj x0 x4 x6 M 1))
 |0,m,U,Z=>by
  grind [aqa]
 |j+1,m,U,Z=>by
  have ih:=aqb M hM x0 x3 x4 x5 x6 x7 x8 x9 j (m+1) J J;have c1:(m:Int)<(M:Int):=J
  have c2:((m:Nat):Int)<2513169434915:=J
  have w:=bB (n:=m) J
  have hr:jG (m+1)=dL ((jG m).l++ [E1]):=by unfold jG;rw [bF,List.replicate_succ']
  rw [hr] at ih;refine bL.of ?_;rw [abW];simp only [OA,zz,c1,c2,uB,w];exact .jump ih
theorem WX (x0 x1 x2 x3 x4 x5 x6 x8:Int) (d:D) (V:d.l.length<=2513169434915):bL 950 [x0,x1,x2,x3,x4,x5,x6,enc d,x8] (cw (dj x0 x2 x4 d.l.length x8)):=by
 have hr:enc (jG 1)=enc (dL ([]++ [E1])):=rfl
 have key: ∀(t t2:Nat) (b:Int),(t=951/\t2=953/\b=0)\/(t=952/\t2=954/\b=1)->bL t [x0,(d.l.length:Int),x1,x2,x3,x4,x5,x6,enc d] (cw (dj x0 x2 x4 d.l.length b)):=by
  intro t t2 b ht;by_cases h0:d.l.length=0
  ·grind [atH,enc,atG]
  ·have c1:(0:Int)<(d.l.length:Int):=J
   rcases ht with ⟨rfl,rfl,rfl⟩|⟨rfl,rfl,rfl⟩
   ·have:=aqd d.l.length V x0 x1 x2 x3 x4 x5 x6 (enc d) (d.l.length-1) 1 J J;rw [hr] at this;refine bL.of ?_;rw [agb];simp only [aeW,zz,c1,sK];exact .jump this
   ·have:=aqb d.l.length V x0 x1 x2 x3 x4 x5 x6 (enc d) (d.l.length-1) 1 J J;rw [hr] at this;refine bL.of ?_;rw [aga];simp only [aeV,zz,c1,sK];exact .jump this
 refine bL.of ?_;rw [asz];simp only [aqj,zz];refine .ite (fun h=> .jump (by subst h; exact key 951 953 0 (.inl ⟨rfl,rfl,rfl⟩))) fun h=> .jump ((key 952 954 1 (.inr ⟨rfl,rfl,rfl⟩)).iff ?_)
 grind [dj]
end
def Mv (nl:Nat) (e:D):Prop:=HJ 20 (nl:Int) e/\parts 20 e<=1000
theorem P4 (kids loc:D) (sJ code:Int) (hk:Wd (.sl 6) kids): ∀(j i:Nat),i+j=kids.l.length->bL 5401 [enc kids,(kids.l.length:Int),(i:Int),sJ,enc loc,code] (fun ys=> ∃c:Int,ys= [sJ,enc loc,code,c]/\(c<0↔∀e∈kids.l.drop i,Mv loc.l.length e))
 |0,i,hi=>by
  have c1: ¬(i:Int)<(kids.l.length:Int):=J
  refine bL.of ?_;rw [acp,aY J];simp only [D',zz,c1];exact .out ⟨_,rfl,⟨fun _=>by simp,fun _=>by omega⟩⟩
 |j+1,i,hi=>by
  have hlen:=hk.len;have dc:i<kids.l.length:=J
  have c1:(i:Int)<(kids.l.length:Int):=J
  have c2: ¬((i:Int)<0):=J
  have w:=bB (n:=i) J;have V:kids.l.drop i=kids.l[i]::kids.l.drop (i+1):=aM dc;obtain⟨k',s',n',Bw,he,ys,hR,b,rfl,hb,Dq⟩:=TU (loc.l.length:Int) hk dc;refine bL.of ?_;rw [acp,V];simp only [D',zz,c1,c2,bI dc,he,zg,w,hR];rw [<- he];refine .ite (fun h0=> .out ⟨_,rfl,⟨fun h=>by omega,fun h=>?_⟩⟩) fun h0=> .jump ?_
  ·have:=Dq.2 (h _ (av3 ..));omega
  ·obtain⟨ys,hQ,c,rfl,hc⟩:=P4 kids loc sJ code hk j (i+1) J;have U:=Dq.1 J;exact⟨_,hQ,c,rfl,hc.trans ⟨fun q b hb=>(aH.1 hb).elim (fun e=>e▸U) (q b),fun q b hb=>q b (awf _ hb)⟩⟩
theorem aom (kids loc:D) (sJ code:Int) (hk:Wd (.sl 6) kids):bL 5000 [enc kids,sJ,enc loc,code] (fun ys=> ∃c:Int,ys= [sJ,enc loc,code,c]/\(c=0↔∀e∈kids.l,Mv loc.l.length e)):=by
 have h0:bL 5400 [enc kids,sJ,enc loc,code] (fun ys=> ∃c:Int,ys= [sJ,enc loc,code,c]/\(c<0↔∀e∈kids.l,Mv loc.l.length e)):=by refine bL.of ?_;rw [akm];simp only [aiS,zz];exact .jump (P4 kids loc sJ code hk kids.l.length 0 J)
 obtain⟨ys,hR,i,rfl,hi⟩:=h0;refine bL.of ?_;rw [aky];simp only [ai0,zz,hR];exact .ite (fun h=> .out ⟨_,rfl,⟨fun _=>hi.1 h,fun _=>rfl⟩⟩) fun h=> .out ⟨_,rfl,⟨fun h'=>by omega,fun h'=>absurd (hi.2 h') h⟩⟩
def sL (d0:D) (nl nc:Nat) (dx op ob iX to:Int) (na:Nat):Prop:=
 (dx=1/\0<=ob/\ob<(d0.l.length:Int)/\1<=op/\op<=23/\((d0.at ob).V 0).n=kOf op/\(na:Int)=Iz op/\((iX= -1/\Az op=0)\/(Az op=1/\0<=iX/\iX<(nl:Int)))/\(op=16->0<=to/\to<=(nc:Int)))\/
 (dx=2/\0<=ob/\ob<(d0.l.length:Int)/\((d0.at ob).V 0).n=6)\/(dx=3/\0<=iX/\iX<(nl:Int)/\(na:Int)=1)\/(dx=4/\0<=to/\to<=(nc:Int)/\(na:Int)=1)\/
 (dx=5/\0<=to/\to<=(nc:Int))\/(dx=6/\0<=iX/\iX<(nl:Int))\/(dx=7/\0<=iX/\iX<(nl:Int)/\0<=to/\to<=(nc:Int))
def opP (d0:D) (op ob:Int) (na:Nat):Prop:=1<=op/\op<=23/\((d0.at ob).V 0).n=kOf op/\(na:Int)=Iz op
theorem Wl (d0:D) (nl nc:Nat) (op ob iX to:Int) (na:Nat):(0<=ob/\ob<(d0.l.length:Int)/\opP d0 op ob na/\((iX= -1/\Az op=0)\/(Az op=1/\0<=iX/\iX<(nl:Int)))/\(op=16->0<=to/\to<=(nc:Int)))↔sL d0 nl nc 1 op ob iX to na:=by
 grind [sL,opP]
theorem Wk (d0:D) (nl nc:Nat) (op ob iX to:Int) (na:Nat):(0<=ob/\ob<(d0.l.length:Int)/\((d0.at ob).V 0).n=6)↔sL d0 nl nc 2 op ob iX to na:=by
 grind [sL]
theorem Wj (d0:D) (nl nc:Nat) (op ob iX to:Int) (na:Nat):(0<=iX/\iX<(nl:Int)/\(na:Int)=1)↔sL d0 nl nc 3 op ob iX to na:=by
 grind [sL]
theorem Wi (d0:D) (nl nc:Nat) (op ob iX to:Int) (na:Nat):(0<=to/\to<=(nc:Int)/\(na:Int)=1)↔sL d0 nl nc 4 op ob iX to na:=by
 grind [sL]
theorem Wh (d0:D) (nl nc:Nat) (op ob iX to:Int) (na:Nat):(0<=to/\to<=(nc:Int))↔sL d0 nl nc 5 op ob iX to na:=by
 grind [sL]
theorem Wg (d0:D) (nl nc:Nat) (op ob iX to:Int) (na:Nat):(0<=iX/\iX<(nl:Int))↔sL d0 nl nc 6 op ob iX to na:=by
 grind [sL]
theorem Wf (d0:D) (nl nc:Nat) (op ob iX to:Int) (na:Nat):(0<=iX/\iX<(nl:Int)/\0<=to/\to<=(nc:Int))↔sL d0 nl nc 7 op ob iX to na:=by
 grind [sL]
set_option maxHeartbeats 1000000 in
theorem aul (d0 d1 d3 d4 d:D) (x2 x6 x7 x8 x9 qM:Int) (V:d.l.length<=2513169434915):bL 750 [enc d0,enc d1,x2,enc d3,enc d4,1,x6,x7,x8,x9,qM,enc d] (cw (0<=x7/\x7<(d0.l.length:Int)/\opP d0 x6 x7 d.l.length/\((x8= -1/\Az x6=0)\/(Az x6=1/\0<=x8/\x8<(d3.l.length:Int)))/\(x6=16->0<=x9/\x9<=(d4.l.length:Int)))):=by
 obtain⟨ys,h0,b0,rfl,p0,f0⟩:=WX ((d0.at x7).V 0).n 1 x6 x7 x8 x9 qM 0 d V;obtain⟨ys,U,b1,rfl,p1,f1⟩:=WX ((d0.at x7).V 0).n 1 x6 x7 x8 x9 qM 1 d V;by_cases hQ:opP d0 x6 x7 d.l.length
 ·have f0:b0=1↔(x8= -1/\Az x6=0):=f0.trans ⟨fun h=>h.2.2.2.2.elim id fun h=>absurd rfl h.2.2,fun h=> ⟨hQ.1,hQ.2.1,hQ.2.2.1,hQ.2.2.2,.inl h⟩⟩;have f1:b1=1↔(x8= -1/\Az x6=0)\/(x8≠-1/\Az x6=1):=f1.trans ⟨fun h=>h.2.2.2.2.imp id fun h=> ⟨h.1,h.2.1⟩,fun h=> ⟨hQ.1,hQ.2.1,hQ.2.2.1,hQ.2.2.2,h.imp id fun h=> ⟨h.1,h.2,J⟩⟩⟩;refine bL.iff (p:=0<=x7/\x7<(d0.l.length:Int)/\((x8= -1/\Az x6=0)\/(Az x6=1/\0<=x8/\x8<(d3.l.length:Int)))/\(x6=16->0<=x9/\x9<=(d4.l.length:Int))) ?_ ⟨fun⟨a,b,c⟩=> ⟨a,b,hQ,c⟩,fun⟨a,b,_,c⟩=> ⟨a,b,c⟩⟩;refine bL.of ?_;rw [aco];simp only [D_,zz,Int.reduceEq,h0,U];exact zm5
 ·have f0:b0=0:=by
   have: ¬b0=1:=fun h=>hQ ⟨(f0.1 h).1,(f0.1 h).2.1,(f0.1 h).2.2.1,(f0.1 h).2.2.2.1⟩;omega
  have f1:b1=0:=by have: ¬b1=1:=fun h=>hQ ⟨(f1.1 h).1,(f1.1 h).2.1,(f1.1 h).2.2.1,(f1.1 h).2.2.2.1⟩;omega
  refine bL.iff (p:=False) ?_ ⟨fun h=>h.elim,fun h=>hQ h.2.2.1⟩;refine bL.of ?_;rw [aco];simp only [D_,zz,Int.reduceEq,h0,U,f0,f1];exact zm5
set_option maxHeartbeats 1000000 in
theorem auk (d0 d1 d3 d4 d:D) (x2 x6 x7 x8 x9 qM:Int):bL 750 [enc d0,enc d1,x2,enc d3,enc d4,2,x6,x7,x8,x9,qM,enc d] (cw (0<=x7/\x7<(d0.l.length:Int)/\((d0.at x7).V 0).n=6)):=by exact XT
set_option maxHeartbeats 1000000 in
theorem auj (d0 d1 d3 d4 d:D) (x2 x6 x7 x8 x9 qM:Int):bL 750 [enc d0,enc d1,x2,enc d3,enc d4,3,x6,x7,x8,x9,qM,enc d] (cw (0<=x8/\x8<(d3.l.length:Int)/\(d.l.length:Int)=1)):=by exact XT
set_option maxHeartbeats 1000000 in
theorem aui (d0 d1 d3 d4 d:D) (x2 x6 x7 x8 x9 qM:Int):bL 750 [enc d0,enc d1,x2,enc d3,enc d4,4,x6,x7,x8,x9,qM,enc d] (cw (0<=x9/\x9<=(d4.l.length:Int)/\(d.l.length:Int)=1)):=by exact XT
set_option maxHeartbeats 1000000 in
theorem auh (d0 d1 d3 d4 d:D) (x2 x6 x7 x8 x9 qM:Int):bL 750 [enc d0,enc d1,x2,enc d3,enc d4,5,x6,x7,x8,x9,qM,enc d] (cw (0<=x9/\x9<=(d4.l.length:Int))):=by exact XT
set_option maxHeartbeats 1000000 in
theorem aug (d0 d1 d3 d4 d:D) (x2 x6 x7 x8 x9 qM:Int):bL 750 [enc d0,enc d1,x2,enc d3,enc d4,6,x6,x7,x8,x9,qM,enc d] (cw (0<=x8/\x8<(d3.l.length:Int))):=by exact XT
set_option maxHeartbeats 1000000 in
theorem auf (d0 d1 d3 d4 d:D) (x2 x6 x7 x8 x9 qM:Int):bL 750 [enc d0,enc d1,x2,enc d3,enc d4,7,x6,x7,x8,x9,qM,enc d] (cw (0<=x8/\x8<(d3.l.length:Int)/\0<=x9/\x9<=(d4.l.length:Int))):=by exact XT
set_option maxHeartbeats 1000000 in
theorem aum (d0 d1 d3 d4 d:D) (x2 x6 x7 x8 x9 qM:Int) (x5:Int) (U:x5≠1) (Z:x5≠2) (h3:x5≠3) (h4:x5≠4) (h5:x5≠5) (h6:x5≠6) (h7:x5≠7):bL 750 [enc d0,enc d1,x2,enc d3,enc d4,x5,x6,x7,x8,x9,qM,enc d] (cw (False)):=by refine bL.of ?_;rw [aco];simp only [D_,zz,Int.reduceEq,U,Z,h3,h4,h5,h6,h7];exact zm5
set_option maxHeartbeats 1000000 in
theorem auv (d0 d1 d3 d4 d:D) (x2 x6 x7 x8 x9 qM:Int) (hl:d4.l.length<=140737488351232):bL 4250 [enc d0,enc d1,x2,enc d3,enc d4,1,x6,x7,x8,x9,qM,enc d] (cw (0<=x7/\x7<(d0.l.length:Int)/\opP d0 x6 x7 d.l.length/\((x8= -1/\Az x6=0)\/(Az x6=1/\0<=x8/\x8<(d3.l.length:Int)))/\(x6=16->0<=x9/\x9<=(d4.l.length:Int)))):=by
 have w:=bB (n:=d4.l.length) J;obtain⟨ys,g0,b0,rfl,c0,f0⟩:=lC x8 (d3.l.length:Int);obtain⟨ys,g1,b1,rfl,c1,f1⟩:=lC x9 ((d4.l.length+1:Nat):Int);obtain⟨ys,g2,b2,rfl,c2,f2⟩:=lC x7 (d0.l.length:Int);have g3:=OT x6;have g4:=SY x6;have g5:=SX x6;have N1:=kf x6;by_cases nR:1<=x6/\x6<=23
 ·rw [ag nR] at g3;refine bL.of ?_;rw [KP];simp only [Jp,zz,Int.reduceEq,w,g0,g1,g2,g3,g4,g5];unfold opP;exact zm5
 ·rw [af nR] at g3;refine bL.iff (p:=False) ?_ ⟨fun h=>h.elim,fun h=>nR ⟨h.2.2.1.1,h.2.2.1.2.1⟩⟩;refine bL.of ?_;rw [KP];simp only [Jp,zz,Int.reduceEq,w,g0,g1,g2,g3,g4,g5];exact zm5
set_option maxHeartbeats 1000000 in
theorem auu (d0 d1 d3 d4 d:D) (x2 x6 x7 x8 x9 qM:Int) (hl:d4.l.length<=140737488351232):bL 4250 [enc d0,enc d1,x2,enc d3,enc d4,2,x6,x7,x8,x9,qM,enc d] (cw (0<=x7/\x7<(d0.l.length:Int)/\((d0.at x7).V 0).n=6)):=by have w:=bB (n:=d4.l.length) J;obtain⟨ys,g0,b0,rfl,c0,f0⟩:=lC x8 (d3.l.length:Int);obtain⟨ys,g1,b1,rfl,c1,f1⟩:=lC x9 ((d4.l.length+1:Nat):Int);obtain⟨ys,g2,b2,rfl,c2,f2⟩:=lC x7 (d0.l.length:Int);refine bL.of ?_;rw [KP];simp only [Jp,zz,Int.reduceEq,w,g0,g1,g2];exact zm5
set_option maxHeartbeats 1000000 in
theorem aut (d0 d1 d3 d4 d:D) (x2 x6 x7 x8 x9 qM:Int) (hl:d4.l.length<=140737488351232):bL 4250 [enc d0,enc d1,x2,enc d3,enc d4,3,x6,x7,x8,x9,qM,enc d] (cw (0<=x8/\x8<(d3.l.length:Int)/\(d.l.length:Int)=1)):=by exact l?
set_option maxHeartbeats 1000000 in
theorem aus (d0 d1 d3 d4 d:D) (x2 x6 x7 x8 x9 qM:Int) (hl:d4.l.length<=140737488351232):bL 4250 [enc d0,enc d1,x2,enc d3,enc d4,4,x6,x7,x8,x9,qM,enc d] (cw (0<=x9/\x9<=(d4.l.length:Int)/\(d.l.length:Int)=1)):=by exact l?
set_option maxHeartbeats 1000000 in
theorem aur (d0 d1 d3 d4 d:D) (x2 x6 x7 x8 x9 qM:Int) (hl:d4.l.length<=140737488351232):bL 4250 [enc d0,enc d1,x2,enc d3,enc d4,5,x6,x7,x8,x9,qM,enc d] (cw (0<=x9/\x9<=(d4.l.length:Int))):=by exact l?
set_option maxHeartbeats 1000000 in
theorem auq (d0 d1 d3 d4 d:D) (x2 x6 x7 x8 x9 qM:Int) (hl:d4.l.length<=140737488351232):bL 4250 [enc d0,enc d1,x2,enc d3,enc d4,6,x6,x7,x8,x9,qM,enc d] (cw (0<=x8/\x8<(d3.l.length:Int))):=by exact l?
set_option maxHeartbeats 1000000 in
theorem aup (d0 d1 d3 d4 d:D) (x2 x6 x7 x8 x9 qM:Int) (hl:d4.l.length<=140737488351232):bL 4250 [enc d0,enc d1,x2,enc d3,enc d4,7,x6,x7,x8,x9,qM,enc d] (cw (0<=x8/\x8<(d3.l.length:Int)/\0<=x9/\x9<=(d4.l.length:Int))):=by exact l?
set_option maxHeartbeats 1000000 in
theorem auw (d0 d1 d3 d4 d:D) (x2 x6 x7 x8 x9 qM:Int) (hl:d4.l.length<=140737488351232) (x5:Int) (U:x5≠1) (Z:x5≠2) (h3:x5≠3) (h4:x5≠4) (h5:x5≠5) (h6:x5≠6) (h7:x5≠7):bL 4250 [enc d0,enc d1,x2,enc d3,enc d4,x5,x6,x7,x8,x9,qM,enc d] (cw (False)):=by have w:=bB (n:=d4.l.length) J;obtain⟨ys,g0,b0,rfl,c0,f0⟩:=lC x8 (d3.l.length:Int);obtain⟨ys,g1,b1,rfl,c1,f1⟩:=lC x9 ((d4.l.length+1:Nat):Int);obtain⟨ys,g2,b2,rfl,c2,f2⟩:=lC x7 (d0.l.length:Int);refine bL.of ?_;rw [KP];simp only [Jp,zz,Int.reduceEq,w,g0,g1,g2,U,Z,h3,h4,h5,h6,h7];exact zm5
theorem anr (d0 d1 d3 d4 d:D) (x2 x5 x6 x7 x8 x9 qM:Int) (V:d.l.length<=2513169434915):bL 750 [enc d0,enc d1,x2,enc d3,enc d4,x5,x6,x7,x8,x9,qM,enc d] (cw (sL d0 d3.l.length d4.l.length x5 x6 x7 x8 x9 d.l.length)):=by
 by_cases U:x5=1
 ·grind [aul,Wl]
 by_cases Z:x5=2
 ·grind [auk,Wk]
 by_cases h3:x5=3
 ·grind [auj,Wj]
 by_cases h4:x5=4
 ·grind [aui,Wi]
 by_cases h5:x5=5
 ·grind [auh,Wh]
 grind [aug,Wg,auf,Wf,aum,sL]
theorem anG (d0 d1 d3 d4 d:D) (x2 x5 x6 x7 x8 x9 qM:Int) (hl:d4.l.length<=140737488351232):bL 4250 [enc d0,enc d1,x2,enc d3,enc d4,x5,x6,x7,x8,x9,qM,enc d] (cw (sL d0 d3.l.length d4.l.length x5 x6 x7 x8 x9 d.l.length)):=by
 by_cases U:x5=1
 ·grind [auv,Wl]
 by_cases Z:x5=2
 ·grind [auu,Wk]
 by_cases h3:x5=3
 ·grind [aut,Wj]
 by_cases h4:x5=4
 ·grind [aus,Wi]
 by_cases h5:x5=5
 ·grind [aur,Wh]
 grind [auq,Wg,aup,Wf,auw,sL]
theorem ani (d0:D) (x1 x2 x3 x4 x5 x6:Int):bL 700 [enc d0,x1,x2,x3,x4,x5,x6] (cw (OkO d0 x2 x4)):=by refine bL.of ?_;rw [asD];simp only [aqr,zz];exact aif
theorem afB (d0:D) (x1 x2 x3 x4 x5 x6:Int):bL 4200 [enc d0,x1,x2,x3,x4,x5,x6] (cw (OkO d0 x2 x4)):=by refine bL.of ?_;rw [akK];simp only [ajb,zz];exact aif
section
variable {P Q:Prop} {j:Nat} {xs:List Int}
def yP (d0:D) (nl nc:Nat) (y:D):Prop:=sL d0 nl nc (y.V 0).n (y.V 1).n (y.V 2).n (y.V 3).n (y.V 4).n (y.V 6).l.length/\∀e∈(y.V 6).l,Mv nl e
def Ac (d0 t:D):Prop:=(t.V 1).l.length<=120/\(t.V 2).l.length<=4000/\∀y∈(t.V 2).l,yP d0 (t.V 1).l.length (t.V 2).l.length y
def I8 (d0 d1:D):Prop:=d0.l.length<=64/\d1.l.length<=16/\(∀x∈d0.l,Bk d0 x)/\∀t∈d1.l,Ac d0 t
def RM (P:Prop) (ys:List Int):Prop:= ∃b:Int,ys= [b]/\(b=0\/b=120)/\(b=0↔P)
theorem xt (h: ¬P):RM P [120]:=⟨120,rfl,.inr rfl,fun h'=>absurd h' J,fun h'=>absurd h' h⟩
theorem Wc (h:P):RM P [0]:=⟨0,rfl,.inl rfl,fun _=>h,fun _=>rfl⟩
theorem RM.of {ys:List Int} (h:RM P ys) (e:P↔Q):RM Q ys:=by
 grind
theorem bL.c (h:bL j xs (RM P)) (e:P↔Q):bL j xs (RM Q):=by
 grind
theorem bL.no (h:bL j xs (·= [120])) (e: ¬P):bL j xs (RM P):=by obtain⟨ys,a,rfl⟩:=h;exact⟨_,a,xt e⟩
theorem all_cons {a:D} {l:List D} {p:D->Prop} (h:p a):(∀b∈l,p b)↔∀b∈a::l,p b:=
 ⟨fun q b hb=>(aH.1 hb).elim (fun e=>e▸h) (q b),fun q b hb=>q b (awf _ hb)⟩
theorem aba {cd:D} (h:Wd (.sl 5) cd) {i:Nat} (hi:i<cd.l.length): ∃a b c e f g qR,cd.l[i]=dL [.i a,.i b,.i c,.i e,.i f,.i g,qR]/\Wd (.sl 6) qR/\(∀d0 nl nc,yP d0 nl nc cd.l[i]↔sL d0 nl nc a b c e f qR.l.length/\∀x∈qR.l,Mv nl x):=by obtain⟨a,b,c,e,f,g,qR,tZ,_,_,_,_,_,_,has⟩:=Ts h hi;refine⟨a,b,c,e,f,g,qR,tZ,has,fun d0 nl nc=>?_⟩;unfold yP;rw [tZ];simp only [eh];rfl
section
variable {d0 d1:D} (h0:Wd (.sl 3) d0) (U:Wd (.sl 4) d1)
include U
theorem ad1: ∀(j i:Nat),i+j=d1.l.length->bL 453 [enc d1,(d1.l.length:Int),(i:Int),enc d0] (·= [120])
 |0,i,hi=>by
  have c1: ¬(i:Int)<(d1.l.length:Int):=J
  refine bL.of ?_;rw [aoy];simp only [amZ,zz,c1];exact .out rfl
 |j+1,i,hi=>by
  have hl:=U.len;have c1:(i:Int)<(d1.l.length:Int):=J
  have c2: ¬((i:Int)<0):=J
  have w:=bB (n:=i) J;refine bL.of ?_;rw [aoy];simp only [amZ,zz,c1,c2];refine .jump (bL.of ?_);rw [aow];simp only [amX,zz,w];exact .ite (fun _=> .jump (ad1 j (i+1) J)) fun _=> .jump (ad1 j (i+1) J)
theorem agz (i:Nat) (hi:i<d1.l.length) (j:Nat) (hj:i+1+j=d1.l.length) (x0 x5 x6 x7:Int):bL 455 [x0,enc d1,(d1.l.length:Int),(i:Int),enc d0,x5,x6,x7] (·= [120]):=by have hl:=U.len;have w:=bB (n:=i) J;refine bL.of ?_;rw [aow];simp only [amX,zz,w];exact .ite (fun _=> .jump (ad1 U j (i+1) J)) fun _=> .jump (ad1 U j (i+1) J)
theorem asV: ∀(j i:Nat),i+j=d1.l.length->bL 454 [enc d1,(d1.l.length:Int),(i:Int),enc d0] (RM (∀t∈d1.l.drop i,Ac d0 t))
 |0,i,hi=>by
  have c1: ¬(i:Int)<(d1.l.length:Int):=J
  refine bL.of ?_;rw [aox,aY J];simp only [amY,zz,c1];exact .out (Wc ad)
 |j+1,i,hi=>by
  have hl:=U.len;have dc:i<d1.l.length:=J
  have c1:(i:Int)<(d1.l.length:Int):=J
  have c2: ¬((i:Int)<0):=J
  have w:=bB (n:=i) J;obtain⟨sJ,lc,cd,he,hn,I2,RR⟩:=qT U dc;have Cs:=RR.len;have e1:(d1.l[i]).V 1=lc:=by rw [he,eh]; rfl
  have e2:(d1.l[i]).V 2=cd:=by rw [he,eh]; rfl
  have Dn:d1.l.drop i=d1.l[i]::d1.l.drop (i+1):=aM dc;have ih:=asV j (i+1) J;have wE: ¬Ac d0 d1.l[i]->¬∀t∈d1.l.drop i,Ac d0 t:=fun h q=>h (q _ (by rw [Dn]; exact av3 ..))
  have loop: ∀(m k:Nat),k+m=cd.l.length->bL 456 [(k:Int),enc d1,(d1.l.length:Int),(i:Int),enc d0,enc sJ,enc lc,enc cd] (RM ((∀y∈cd.l.drop k,yP d0 lc.l.length cd.l.length y)/\∀t∈d1.l.drop (i+1),Ac d0 t)):=by
   intro m
   induction m with
   |zero=>
    intro k hk;have c3: ¬(k:Int)<(cd.l.length:Int):=J
    refine bL.of ?_;rw [aov,aY J];simp only [amW,zz,c3,w];exact agZ
   |succ m ihm=>
    intro k hk;have Dl:k<cd.l.length:=J
    have c3:(k:Int)<(cd.l.length:Int):=J
    have c4: ¬((k:Int)<0):=J
    have w2:=bB (n:=k) J;have hdk:cd.l.drop k=cd.l[k]::cd.l.drop (k+1):=aM Dl;obtain⟨a,b,c,e,f,g,qR,tZ,has,hy⟩:=aba RR Dl;have jw:=has.room
    have hal:qR.l.length<=2513169434915:=by
     grind [nU]
    obtain⟨ys,hM,q,rfl,auE,hqI⟩:=anr d0 d1 lc cd qR (enc sJ) a b c e f g hal;obtain⟨ys,hX,r,rfl,hr⟩:=aom qR lc (enc sJ) (enc cd) has;have abq: ¬yP d0 lc.l.length cd.l.length cd.l[k]->¬((∀y∈cd.l.drop k,yP d0 lc.l.length cd.l.length y)/\∀t∈d1.l.drop (i+1),Ac d0 t):=fun h q=>h (q.1 _ (by rw [hdk]; exact av3 ..));refine bL.of ?_;rw [aov];simp only [amW,zz,c3,c4,bI Dl,tZ,zg,hM,hX,w2];refine .ite (fun hq=> .jump ((agz U i dc j J _ _ _ _).no (abq fun h=>?_))) fun hq0=> .ite (fun ic=> .jump ((ihm (k+1) J).c ?_)) fun ic=> .jump ((agz U i dc j J _ _ _ _).no (abq fun h=>?_))
    all_goals grind
  refine bL.of ?_;rw [aox];simp only [amY,zz,c1,c2,bI dc,he,zg];refine .ite (fun q=> .jump ((agz U i dc j J _ _ _ _).no (wE fun h=>?_))) fun q1=> .ite (fun q=> .jump ((agz U i dc j J _ _ _ _).no (wE fun h=>?_))) fun q2=> .jump ((loop cd.l.length 0 J).c ?_)
  ·have:=h.1
   grind
  ·have:=h.2.1
   grind
  ·rw [Dn];refine⟨fun⟨x,y⟩=>(all_cons ?_).1 y,fun x=> ⟨?_,fun b hb=>x b (awf _ hb)⟩⟩
   all_goals grind [Ac]
theorem ajz (i k:Nat) (lc cd:D) (sJ:Int) (hi:i<16) (Dl:k<cd.l.length) (Cs:cd.l.length<=4000) (qR:D) (has:Wd (.sl 6) qR) (he6:(cd.l[k]).V 6=qR): ∀(j n:Nat),n+j=qR.l.length->∃b:Int,(b=1↔∀e∈qR.l.drop n,Mv lc.l.length e)/\L 4054 [(i:Int),(k:Int),(n:Int),enc d0,enc d1,sJ,enc lc,enc cd]=if b=1 then L 4053 [(i:Int),((k+1:Nat):Int),enc d0,enc d1,sJ,enc lc,enc cd] else some [120]
 |0,n,hn=>by
  have c1: ¬(k:Int)<0:=J
  have c2:(k:Int)<(cd.l.length:Int):=J
  have c3: ¬(n:Int)<(qR.l.length:Int):=J
  have w:=bB (n:=k) J;refine⟨1,⟨fun _=>by rw [aY J]; simp,fun _=>rfl⟩,?_⟩;rw [bK,acI];simp only [OE,zz,c1,c2,bI Dl,he6,c3,w,fin]
 |j+1,n,hn=>by
  have hlen:=has.len;have dc:n<qR.l.length:=J
  have c1: ¬(k:Int)<0:=J
  have c2:(k:Int)<(cd.l.length:Int):=J
  have c3:(n:Int)<(qR.l.length:Int):=J
  have c4: ¬(n:Int)<0:=J
  have w:=bB (n:=n) J;have V:qR.l.drop n=qR.l[n]::qR.l.drop (n+1):=aM dc;obtain⟨b,hb,ih⟩:=ajz i k lc cd sJ hi Dl Cs qR has he6 j (n+1) J;obtain⟨k',s',n',Bw,he,_,g1,_,g2,f0,f1,f2,f3⟩:=BX has dc;obtain⟨ys,hR,c,rfl,Ml,PH,hc2,hc3⟩:=QY 20 J k' n' s' Bw qR.l[n] g2 f3;have hR':L 4300 [k',enc s',n',enc Bw,20]=some [c]:=hR;have wE: ¬Mv lc.l.length qR.l[n]->((0:Int)=1↔∀e∈qR.l.drop n,Mv lc.l.length e):=fun h=> ⟨fun h=>absurd h J,fun q=>absurd (q _ (by rw [V]; exact av3 ..)) h⟩;rw [bK,acI];by_cases anW:1000<c
  ·refine⟨0,wE fun h=>?_,?_⟩
   ·have:=hc2.2 ⟨WJ _ _ _ h.1,h.2⟩;omega
   ·simp only [OE,zz,c1,c2,bI Dl,he6,c3,c4,bI dc,he,zg,hR',anW,fin];rfl
  ·obtain⟨x1,x2⟩:=hc2.1 J;obtain⟨ys,hE,e,rfl,he0,TD⟩:=WI 20 k' n' (lc.l.length:Int) s' Bw qR.l[n] g1 g2 x1 f0 f1 f2 f3;by_cases hz:e=0
   ·refine⟨0,wE fun h=>?_,?_⟩
    ·have:=TD.2 h.1;omega
    ·subst hz;simp only [OE,zz,c1,c2,bI Dl,he6,c3,c4,bI dc,he,zg,hR',anW,hE,fin];rfl
   ·refine⟨b,?_,?_⟩
    ·simp_all [all_cons,Mv]
    ·simp only [OE,zz,c1,c2,bI Dl,he6,c3,c4,bI dc,he,zg,hR',anW,hE,hz,w,fin];exact ih
theorem ajA (hs1:d1.l.length<=16): ∀(j i:Nat),i+j=d1.l.length->bL 4052 [(i:Int),enc d0,enc d1] (RM (∀t∈d1.l.drop i,Ac d0 t))
 |0,i,hi=>by
  have c1: ¬(i:Int)<(d1.l.length:Int):=J
  refine bL.of ?_;rw [acK,aY J];simp only [J',zz,c1];exact .out (Wc ad)
 |j+1,i,hi=>by
  have dc:i<d1.l.length:=J
  have c1:(i:Int)<(d1.l.length:Int):=J
  have c2: ¬((i:Int)<0):=J
  have w:=bB (n:=i) J;obtain⟨sJ,lc,cd,he,hn,I2,RR⟩:=qT U dc;have e1:(d1.l[i]).V 1=lc:=by rw [he,eh]; rfl
  have e2:(d1.l[i]).V 2=cd:=by rw [he,eh]; rfl
  have Dn:d1.l.drop i=d1.l[i]::d1.l.drop (i+1):=aM dc;have ih:=ajA hs1 j (i+1) J;have wE: ¬Ac d0 d1.l[i]->¬∀t∈d1.l.drop i,Ac d0 t:=fun h q=>h (q _ (by rw [Dn]; exact av3 ..));refine bL.of ?_;rw [acK];simp only [J',zz,c1,c2,bI dc,he,zg];refine .ite (fun q=> .out (xt (wE fun h=>?_))) fun q1=> .ite (fun q=> .out (xt (wE fun h=>?_))) fun q2=> .jump ?_
  ·have:=h.1
   grind
  ·have:=h.2.1
   grind
  have Cs:cd.l.length<=4000:=J
  have loop: ∀(m k:Nat),k+m=cd.l.length->bL 4053 [(i:Int),(k:Int),enc d0,enc d1,enc sJ,enc lc,enc cd] (RM ((∀y∈cd.l.drop k,yP d0 lc.l.length cd.l.length y)/\∀t∈d1.l.drop (i+1),Ac d0 t)):=by
   intro m
   induction m with
   |zero=>
    intro k hk;have c3: ¬(k:Int)<(cd.l.length:Int):=J
    refine bL.of ?_;rw [acJ,aY J];simp only [J_,zz,c3,w];exact agZ
   |succ m ihm=>
    intro k hk;have Dl:k<cd.l.length:=J
    have c3:(k:Int)<(cd.l.length:Int):=J
    have c4: ¬((k:Int)<0):=J
    have hdk:cd.l.drop k=cd.l[k]::cd.l.drop (k+1):=aM Dl;obtain⟨a,b,c,e,f,g,qR,tZ,has,hy⟩:=aba RR Dl;obtain⟨ys,hM,q,rfl,auE,hqI⟩:=anG d0 d1 lc cd qR (enc sJ) a b c e f g J;have he6:(cd.l[k]).V 6=qR:=by rw [tZ,eh]; rfl
    obtain⟨r,hr,hX⟩:=ajz (d0:=d0) U i k lc cd (enc sJ) J Dl Cs qR has he6 qR.l.length 0 J;rw [av8] at hr;have abq: ¬yP d0 lc.l.length cd.l.length cd.l[k]->¬((∀y∈cd.l.drop k,yP d0 lc.l.length cd.l.length y)/\∀t∈d1.l.drop (i+1),Ac d0 t):=fun h q=>h (q.1 _ (by rw [hdk]; exact av3 ..));refine bL.of ?_;rw [acJ];simp only [J_,zz,c3,c4,bI Dl,tZ,zg,hM];refine .ite (fun hq=> .out (xt (abq fun h=>?_))) fun hq0=> .jump ?_
    ·grind
    ·by_cases hr1:r=1
     ·rw [ag hr1] at hX;obtain⟨ys,hL,hP⟩:=ihm (k+1) J;refine⟨ys,hX.trans hL,hP.of ?_⟩
      grind
     ·rw [af hr1] at hX;exact⟨_,hX,xt (abq fun h=>hr1 (hr.2 ((hy d0 _ _).1 h).2))⟩
  refine (loop cd.l.length 0 J).c ?_;rw [Dn];refine⟨fun⟨x,y⟩=>(all_cons ?_).1 y,fun x=> ⟨?_,fun b hb=>x b (awf _ hb)⟩⟩
  ·unfold Ac
   grind
  ·have:=(x _ (av3 ..)).2.2
   grind
include h0
theorem agA: ∀(j i:Nat),i+j=d0.l.length->bL 451 [enc d0,(d0.l.length:Int),(i:Int),enc d1] (·= [120])
 |0,i,hi=>by
  have c1: ¬(i:Int)<(d0.l.length:Int):=J
  refine bL.of ?_;rw [aoA];simp only [am1,zz,c1];exact .jump (ad1 U d1.l.length 0 J)
 |j+1,i,hi=>by
  have hl:=h0.len;have c1:(i:Int)<(d0.l.length:Int):=J
  have c2: ¬((i:Int)<0):=J
  have w:=bB (n:=i) J;refine bL.of ?_;rw [aoA];simp only [am1,zz,c1,c2,w];exact .jump (agA j (i+1) J)
theorem asW (hs:d0.l.length<=64): ∀(j i:Nat),i+j=d0.l.length->bL 452 [enc d0,(d0.l.length:Int),(i:Int),enc d1] (RM ((∀x∈d0.l.drop i,Bk d0 x)/\∀t∈d1.l,Ac d0 t))
 |0,i,hi=>by
  have c1: ¬(i:Int)<(d0.l.length:Int):=J
  refine bL.of ?_;rw [aoz,aY J];simp only [am0,zz,c1];exact .jump ((asV U d1.l.length 0 J).c ad)
 |j+1,i,hi=>by
  have dc:i<d0.l.length:=J
  have c1:(i:Int)<(d0.l.length:Int):=J
  have c2: ¬((i:Int)<0):=J
  have w:=bB (n:=i) J;have Dn:d0.l.drop i=d0.l[i]::d0.l.drop (i+1):=aM dc;obtain⟨ys,hO,b,rfl,pM,v8⟩:=ani d0 (enc d1) ((d0.l[i]).V 0).n (enc ((d0.l[i]).V 1)) ((d0.l[i]).V 2).n (enc ((d0.l[i]).V 3)) ((d0.l[i]).V 4).n;refine bL.of ?_;rw [aoz,Dn];simp only [am0,zz,c1,c2,w,bI dc,hO];refine .ite (fun hb=> .jump ((agA h0 U j (i+1) J).no fun h=>?_)) fun hb=> .jump ((asW hs j (i+1) J).c ?_)
  ·have:=v8.2 (h.1 _ (av3 ..));omega
  ·exact aha
theorem Rf:bL 450 [enc d0,enc d1] (RM (I8 d0 d1)):=by
 refine bL.of ?_;rw [asK];simp only [aqy,zz];refine .ite (fun _=> .jump ((agA h0 U d0.l.length 0 J).no fun h=>?_)) fun ha=> .ite (fun _=> .jump ((agA h0 U d0.l.length 0 J).no fun h=>?_)) fun hb=> .jump ((asW h0 U J d0.l.length 0 J).c ?_)
 ·have:=h.1;omega
 ·have:=h.2.1;omega
 ·exact ahM
theorem ajB (hs:d0.l.length<=64) (hs1:d1.l.length<=16): ∀(j i:Nat),i+j=d0.l.length->bL 4051 [(i:Int),enc d0,enc d1] (RM ((∀x∈d0.l.drop i,Bk d0 x)/\∀t∈d1.l,Ac d0 t))
 |0,i,hi=>by
  have c1: ¬(i:Int)<(d0.l.length:Int):=J
  refine bL.of ?_;rw [acL,aY J];simp only [J!,zz,c1];exact .jump ((ajA U hs1 d1.l.length 0 J).c ad)
 |j+1,i,hi=>by
  have dc:i<d0.l.length:=J
  have c1:(i:Int)<(d0.l.length:Int):=J
  have c2: ¬((i:Int)<0):=J
  have w:=bB (n:=i) J;have Dn:d0.l.drop i=d0.l[i]::d0.l.drop (i+1):=aM dc;obtain⟨ys,hO,b,rfl,pM,v8⟩:=afB d0 (enc d1) ((d0.l[i]).V 0).n (enc ((d0.l[i]).V 1)) ((d0.l[i]).V 2).n (enc ((d0.l[i]).V 3)) ((d0.l[i]).V 4).n;refine bL.of ?_;rw [acL,Dn];simp only [J!,zz,c1,c2,w,bI dc,hO];refine .ite (fun hb=> .out (xt fun h=>?_)) fun hb=> .jump ((ajB hs hs1 j (i+1) J).c ?_)
  ·have:=v8.2 (h.1 _ (av3 ..));omega
  ·exact aha
theorem Yi:bL 4050 [enc d0,enc d1] (RM (I8 d0 d1)):=by
 refine bL.of ?_;rw [akN];simp only [ajd,zz];refine .ite (fun _=> .out (xt fun h=>?_)) fun ha=> .ite (fun _=> .out (xt fun h=>?_)) fun hb=> .jump ((ajB h0 U J J d0.l.length 0 J).c ?_)
 ·have:=h.1;omega
 ·have:=h.2.1;omega
 ·exact ahM
theorem AK: ∃b:Int,(b=0\/b=120)/\(b=0↔I8 d0 d1)/\L 450 [enc d0,enc d1]=some [b]/\L 4050 [enc d0,enc d1]=some [b]:=by
 obtain⟨ys,hA,b,rfl,hb,Hy⟩:=Rf h0 U;obtain⟨ys,hB,c,rfl,hc,PH⟩:=Yi h0 U
 grind
end
end
theorem DE {d0 d1:D} (h0:Wd (.sl 3) d0) (U:Wd (.sl 4) d1):bL 450 [enc d0,enc d1] (arE d0 d1):=by
 obtain⟨ys,h,b,rfl,hb,Hy⟩:=Rf h0 U;refine⟨_,h,b,rfl,hb,fun hz=>?_⟩;obtain⟨q1,q2,q3,q4⟩:=Hy.1 hz;refine⟨⟨q1,q2,q3⟩,fun x hx y hy=>?_⟩;have:=((q4 x hx).2.2 y hy).1;unfold sL at this;unfold f?;rcases this with ⟨h,a,b,_,_,_,_,e,f⟩|⟨h,a,b,_⟩|h|h|h|h|h
 all_goals grind
def one (ys:List Int):Prop:= ∃k:Int,ys= [k]
theorem aqf {o:Int} (h:gb .u8 o):IntKind.i64.wrap o=o:=fB (by have:=h.1; omega) (by have:=h.2; omega)
theorem aaH (a b c d e:Int):bL 650 [a,b,c,d,e] (fun ys=> ∃k l:Int,ys= [k,l]/\(l=0\/l=1)):=by
 refine bL.of ?_;rw [aos];simp only [amU,zz]
 repeat' first |exact .out ⟨_,_,rfl,.inl rfl⟩|exact .out ⟨_,_,rfl,.inr rfl⟩|refine .ite (fun _=>?_) (fun _=>?_)
theorem Jw (r:D) (hl:r.l.length<=140737488351232) (x0 x4 x5 x6 x7 x8 x9 qM x11 x12:Int) (v:D): ∀(j i:Nat) (x14:Int),i+j=r.l.length->
 bL 501 [x0,enc r,(r.l.length:Int),(i:Int),x4,x5,x6,x7,x8,x9,qM,x11,x12,enc v,x14] wB
 |0,i,x14,hi=>by
  have c1: ¬(i:Int)<(r.l.length:Int):=J
  refine bL.of ?_;rw [acv];simp only [X0,zz,c1];exact atD
 |j+1,i,x14,hi=>by
  have c1:(i:Int)<(r.l.length:Int):=J
  have c2: ¬((i:Int)<0):=J
  have w:=bB (n:=i) J;have ih:=fun x=>Jw r hl x0 x4 x5 x6 x7 x8 x9 qM x11 x12 v j (i+1) x J;refine bL.of ?_;rw [acv];simp only [X0,zz,c1,c2,w]
  repeat' first |exact .out Ay|exact .out tw|exact .jump (ih _)|refine .ite (fun _=>?_) (fun _=>?_)
theorem SI (x0 x1 x2 x3 x4 x5 x6 x7 x8 x11:Int) (r v:D) (hl:r.l.length<=140737488351232):bL 500 [x0,x1,x2,x3,x4,x5,x6,x7,x8,enc r,enc v,x11] wB:=by
 obtain⟨ys,hM,a,b,rfl,hb⟩:=aaH x0 x1 x2 x3 x4;have ih:=Jw r hl x11 x0 x1 x2 x3 x4 x5 x6 x7 x8 v r.l.length 0 (enc (.i 0)) J;refine bL.of ?_;rw [aou];simp only [aeZ,zz,hM]
 repeat' first |exact .out Ay|exact .out tw|exact .jump ih|refine .ite (fun _=>?_) (fun _=>?_)
section
variable {d:D}
theorem eE (V:d=dL d.l) {i:Nat} (hi:i<d.l.length):dL (dC d.l (i:Int) d.l[i])=d:=by rw [rF,axL,<- V]
theorem EV (a b c d e f x:D):dC [a,b,c,d,e,f] 4 x= [a,b,c,d,x,f]:=rfl
theorem EU (a b c d e f x:D):dC [a,b,c,d,e,f] 5 x= [a,b,c,d,e,x]:=rfl
theorem jT: ¬(enc (.i 2)=enc (.i 1)):=fun h=>by have:=fY h; simp at this
theorem jV:(((D.i 1).l.length:Nat):Int)=0:=rfl
theorem jU:(((D.i 2).l.length:Nat):Int)=0:=rfl
theorem ri: ¬((0:Int)<0):=J
theorem cc {r:D} (h:Wd (.sl 0) r):r= .i 1\/r= .i 2\/((0:Int)<(r.l.length:Int)/\(r.l.length:Int)<17592186044416):=by
 rcases h.sh with U|U|⟨U,Z⟩
 ·grind
 ·grind
 ·have hr:=h.room;have h3:nU 0=8:=rfl;rw [h3] at hr;have:=awm.2 Z
  grind
structure Th (d:D):Prop where
 wd:Wd (.sl 7) d
 sh:d=dL d.l
 kY:d.l.length<=1759218604390
theorem vW (h:Wd (.sl 7) d) (hn:0<d.l.length):Th d:=by
 refine⟨h,?_,?_⟩
 ·rcases h.sh with rfl|rfl|⟨U,_⟩
  all_goals grind [D.l]
 ·have hr:=h.room
  grind [nU]
theorem KW (d:D) (h:Th d): ∀(j i:Nat),i+j=d.l.length->L 551 [enc d,(d.l.length:Int),(i:Int)]=some [enc d]
 |0,i,hi=>by simp_all [bK,aot,amV,zz,fin]
 |j+1,i,hi=>by
  have hl:=h.kY;have dc:i<d.l.length:=J
  have c1:(i:Int)<(d.l.length:Int):=J
  have c2: ¬((i:Int)<0):=J
  have w:=bB (n:=i) J;have ih:=KW d h j (i+1) J;obtain⟨o,c,dn,g,r,v,he,_,_,_,_,hr,hv⟩:=h.wd.jE _ (au dc);have hs:=eE h.sh dc;rw [he] at hs;rw [bK,aot];rcases cc hr with rfl|rfl|⟨r1,r2⟩ <;>rcases cc hv with rfl|rfl|⟨v1,v2⟩
  all_goals
   simp only [amV,zz,c1,c2,w,bI dc,he,eh,bF,aA,aC,EV,EU,hs,jV,jU,ri,jT]
   try simp only [r1,r2,zz]
   try simp only [v1,v2,zz]
   try simp only [fin]
   exact ih
theorem adU (d:D) (h:Wd (.sl 7) d):L 550 [enc d]=some [enc d]:=by
 rw [bK,asJ];rcases h.sh with rfl|rfl|⟨U,Z⟩
 ·simp only [aeY,zz,jV,ri,fin];rw [bK,asI];rfl
 ·simp only [aeY,zz,jU,ri,jT,fin];rw [bK,asH];rfl
 ·have hp:=awm.2 Z;have ht:=vW h hp;have hl:=ht.kY;have c1:(0:Int)<(d.l.length:Int):=J
  have c2:(d.l.length:Int)<1759218604441:=J
  simp only [aeY,zz,c1,c2,fin];exact KW d ht d.l.length 0 J
theorem K0 (d:D) (h:Th d) (gi:Nat) (x4 x5 x6 x7 x8 x9:Int): ∀(j i:Nat),gi<i->i+j=d.l.length->L 9004 [(gi:Int),enc d,(d.l.length:Int),(i:Int),x4,x5,x6,x7,x8,x9]=some [3,(gi:Int),enc d,x4,x5,x6,x7,x8,x9]
 |0,i,hg,hi=>by simp_all [bK,acm,C?,zz,fin]
 |j+1,i,hg,hi=>by
  have hl:=h.kY;have dc:i<d.l.length:=J
  have c1:(i:Int)<(d.l.length:Int):=J
  have c2: ¬((i:Int)<0):=J
  have c0: ¬((i:Int)=(gi:Int)):=J
  have w:=bB (n:=i) J;have ih:=K0 d h gi x4 x5 x6 x7 x8 x9 j (i+1) J J;obtain⟨o,c,dn,g,r,v,he,_,_,_,_,hr,hv⟩:=h.wd.jE _ (au dc);have hs:=eE h.sh dc;rw [he] at hs;rw [bK,acm];rcases cc hr with rfl|rfl|⟨r1,r2⟩ <;>rcases cc hv with rfl|rfl|⟨v1,v2⟩
  all_goals
   simp only [C?,zz,c0,c1,c2,w,bI dc,he,eh,bF,aA,aC,EV,EU,hs,jV,jU,ri,jT]
   try simp only [r1,r2,zz]
   try simp only [v1,v2,zz]
   try simp only [fin]
   exact ih
theorem KZ (d:D) (h:Th d) (gi:Nat) (x4 x5 x6 x7 x8 x9:Int): ∀(j i:Nat),gi<i->i+j=d.l.length->L 9005 [(gi:Int),enc d,(d.l.length:Int),(i:Int),x4,x5,x6,x7,x8,x9]=some [4,(gi:Int),enc d,x4,x5,x6,x7,x8,x9]
 |0,i,hg,hi=>by simp_all [bK,ack,C!,zz,fin]
 |j+1,i,hg,hi=>by
  have hl:=h.kY;have dc:i<d.l.length:=J
  have c1:(i:Int)<(d.l.length:Int):=J
  have c2: ¬((i:Int)<0):=J
  have c0: ¬((i:Int)=(gi:Int)):=J
  have w:=bB (n:=i) J;have ih:=KZ d h gi x4 x5 x6 x7 x8 x9 j (i+1) J J;obtain⟨o,c,dn,g,r,v,he,_,_,_,_,hr,hv⟩:=h.wd.jE _ (au dc);have hs:=eE h.sh dc;rw [he] at hs;rw [bK,ack];rcases cc hr with rfl|rfl|⟨r1,r2⟩ <;>rcases cc hv with rfl|rfl|⟨v1,v2⟩
  all_goals
   simp only [C!,zz,c0,c1,c2,w,bI dc,he,eh,bF,aA,aC,EV,EU,hs,jV,jU,ri,jT]
   try simp only [r1,r2,zz]
   try simp only [v1,v2,zz]
   try simp only [fin]
   exact ih
theorem KY (d:D) (h:Th d) (gi:Nat) (x4 x5 x6 x7 x8 x9:Int): ∀(j i:Nat),gi<i->i+j=d.l.length->L 9006 [(gi:Int),enc d,(d.l.length:Int),(i:Int),x4,x5,x6,x7,x8,x9]=some [5,(gi:Int),enc d,x4,x5,x6,x7,x8,x9]
 |0,i,hg,hi=>by simp_all [bK,acj,C_,zz,fin]
 |j+1,i,hg,hi=>by
  have hl:=h.kY;have dc:i<d.l.length:=J
  have c1:(i:Int)<(d.l.length:Int):=J
  have c2: ¬((i:Int)<0):=J
  have c0: ¬((i:Int)=(gi:Int)):=J
  have w:=bB (n:=i) J;have ih:=KY d h gi x4 x5 x6 x7 x8 x9 j (i+1) J J;obtain⟨o,c,dn,g,r,v,he,_,_,_,_,hr,hv⟩:=h.wd.jE _ (au dc);have hs:=eE h.sh dc;rw [he] at hs;rw [bK,acj];rcases cc hr with rfl|rfl|⟨r1,r2⟩ <;>rcases cc hv with rfl|rfl|⟨v1,v2⟩
  all_goals
   simp only [C_,zz,c0,c1,c2,w,bI dc,he,eh,bF,aA,aC,EV,EU,hs,jV,jU,ri,jT]
   try simp only [r1,r2,zz]
   try simp only [v1,v2,zz]
   try simp only [fin]
   exact ih
theorem KX (d:D) (h:Th d) (gi:Nat) (x4 x5 x6 x7 x8 x9:Int): ∀(j i:Nat),gi<i->i+j=d.l.length->L 9007 [(gi:Int),enc d,(d.l.length:Int),(i:Int),x4,x5,x6,x7,x8,x9]=some [6,(gi:Int),enc d,x4,x5,x6,x7,x8,x9]
 |0,i,hg,hi=>by simp_all [bK,aci,B?,zz,fin]
 |j+1,i,hg,hi=>by
  have hl:=h.kY;have dc:i<d.l.length:=J
  have c1:(i:Int)<(d.l.length:Int):=J
  have c2: ¬((i:Int)<0):=J
  have c0: ¬((i:Int)=(gi:Int)):=J
  have w:=bB (n:=i) J;have ih:=KX d h gi x4 x5 x6 x7 x8 x9 j (i+1) J J;obtain⟨o,c,dn,g,r,v,he,_,_,_,_,hr,hv⟩:=h.wd.jE _ (au dc);have hs:=eE h.sh dc;rw [he] at hs;rw [bK,aci];rcases cc hr with rfl|rfl|⟨r1,r2⟩ <;>rcases cc hv with rfl|rfl|⟨v1,v2⟩
  all_goals
   simp only [B?,zz,c0,c1,c2,w,bI dc,he,eh,bF,aA,aC,EV,EU,hs,jV,jU,ri,jT]
   try simp only [r1,r2,zz]
   try simp only [v1,v2,zz]
   try simp only [fin]
   exact ih
def mN (r v:D):Int:=if 0<r.l.length then (if 0<v.l.length then 3 else 4) else (if 0<v.l.length then 5 else 6)
theorem alr (d:D) (h:Th d) (gi:Nat) (BI:gi<d.l.length) (o c dn g:Int) (r v:D) (AW:d.l[gi]=dL [.i o,.i c,.i dn,.i g,r,v]): ∀(j i:Nat),i<=gi->i+j=gi->
 L 9001 [(gi:Int),enc d,(d.l.length:Int),(i:Int)]=some [mN r v,(gi:Int),enc d,o,c,dn,g,enc r,enc v]
 |0,i,hg,hi=>by
  obtain rfl:i=gi:=J
  have hl:=h.kY;have c1:(i:Int)<(d.l.length:Int):=J
  have c2: ¬((i:Int)<0):=J
  have w:=bB (n:=i) J;obtain⟨o',c',E8,g',r',v',he,_,_,_,_,hr,hv⟩:=h.wd.jE _ (au BI);rw [AW] at he;have he:=Ie he;simp only [List.cons.injEq,D.i.injEq,and_true] at he;obtain⟨rfl,rfl,rfl,rfl,rfl,rfl⟩:=he;have b4:=fun a b=>K0 d h i o c dn g a b (d.l.length-(i+1)) (i+1) J J;have b5:=fun a b=>KZ d h i o c dn g a b (d.l.length-(i+1)) (i+1) J J;have b6:=fun a b=>KY d h i o c dn g a b (d.l.length-(i+1)) (i+1) J J;have b7:=fun a b=>KX d h i o c dn g a b (d.l.length-(i+1)) (i+1) J J;rw [bK,WR];rcases cc hr with rfl|rfl|⟨r1,r2⟩
  ·rcases cc hv with rfl|rfl|⟨v1,v2⟩
   ·simp only [vX,zz,c1,c2,w,bI BI,AW,eh,bF,aA,aC,jV,ri,fin,b7]
    grind [mN,D.l]
   ·simp only [vX,zz,c1,c2,w,bI BI,AW,eh,bF,aA,aC,jV,ri,jU,jT,fin,b7]
    grind [mN,D.l]
   ·simp only [vX,zz,c1,c2,w,bI BI,AW,eh,bF,aA,aC,jV,ri,v1,v2,fin,b6]
    grind [mN,D.l]
  ·rcases cc hv with rfl|rfl|⟨v1,v2⟩
   ·simp only [vX,zz,c1,c2,w,bI BI,AW,eh,bF,aA,aC,jU,ri,jT,jV,fin,b7]
    grind [mN,D.l]
   ·simp only [vX,zz,c1,c2,w,bI BI,AW,eh,bF,aA,aC,jU,ri,jT,fin,b7]
    grind [mN,D.l]
   ·simp only [vX,zz,c1,c2,w,bI BI,AW,eh,bF,aA,aC,jU,ri,jT,v1,v2,fin,b6]
    grind [mN,D.l]
  ·rcases cc hv with rfl|rfl|⟨v1,v2⟩
   ·simp only [vX,zz,c1,c2,w,bI BI,AW,eh,bF,aA,aC,r1,r2,jV,ri,fin,b5]
    grind [mN,D.l]
   ·simp only [vX,zz,c1,c2,w,bI BI,AW,eh,bF,aA,aC,r1,r2,jU,ri,jT,fin,b5]
    grind [mN,D.l]
   ·simp only [vX,zz,c1,c2,w,bI BI,AW,eh,bF,aA,aC,r1,r2,v1,v2,fin,b4]
    grind [mN]
 |j+1,i,hg,hi=>by
  have hl:=h.kY;have dc:i<d.l.length:=J
  have c1:(i:Int)<(d.l.length:Int):=J
  have c2: ¬((i:Int)<0):=J
  have c0: ¬((i:Int)=(gi:Int)):=J
  have w:=bB (n:=i) J;have ih:=alr d h gi BI o c dn g r v AW j (i+1) J J;clear AW;obtain⟨o2,RU,dn2,g2,r2',v2',he,_,_,_,_,hr,hv⟩:=h.wd.jE _ (au dc);exact apQ
theorem alq (d:D) (h:Th d) (gi:Nat) (BI:gi<d.l.length) (o c dn g:Int) (r v:D) (AW:d.l[gi]=dL [.i o,.i c,.i dn,.i g,r,v]) :
 L 9000 [(gi:Int),enc d]=some [mN r v,(gi:Int),enc d,o,c,dn,g,enc r,enc v]:=by
 have hl:=h.kY;have c1:(0:Int)<(d.l.length:Int):=J
 have c2:(d.l.length:Int)<1759218604441:=J
 rw [bK,acn];simp only [OC,zz,c1,c2,fin];exact alr d h gi BI o c dn g r v AW gi 0 J J
theorem Ik (d:D) (h:Th d) (x:Int) (hx:x<0\/(d.l.length:Int)<=x): ∀(j i:Nat),i+j=d.l.length->L 9001 [x,enc d,(d.l.length:Int),(i:Int)]=some [0,x,enc d]
 |0,i,hi=>by simp_all [bK,WR,vX,zz,fin]
 |j+1,i,hi=>by
  have hl:=h.kY;have dc:i<d.l.length:=J
  have c1:(i:Int)<(d.l.length:Int):=J
  have c2: ¬((i:Int)<0):=J
  have c0: ¬((i:Int)=x):=J
  have w:=bB (n:=i) J;have ih:=Ik d h x hx j (i+1) J;obtain⟨o,c,dn,g,r,v,he,_,_,_,_,hr,hv⟩:=h.wd.jE _ (au dc);exact apQ
theorem asQ (d:D) (h:Wd (.sl 7) d) (x:Int) (hx:x<0\/(d.l.length:Int)<=x):bL 9000 [x,enc d] (fun ys=>ys= [0,x,enc d]\/(ys= [1,x]/\d= .i 1)\/(ys= [2,x]/\d= .i 2)):=by
 refine bL.of ?_;rw [acn];rcases h.sh with rfl|rfl|⟨U,Z⟩
 ·simp only [OC,zz,jV,ri];refine .jump (bL.of ?_);rw [akf];simp only [aiL,zz];exact .ite (fun _=> .out (.inr (.inl rfl))) fun _=> .out (.inr (.inl rfl))
 ·simp only [OC,zz,jU,ri,jT];refine .jump (bL.of ?_);rw [ake];simp only [aiK,zz];exact .ite (fun _=> .out (.inr (.inr rfl))) fun _=> .out (.inr (.inr rfl))
 ·have hp:=awm.2 Z;have ht:=vW h hp;have hl:=ht.kY;have c1:(0:Int)<(d.l.length:Int):=J
  have c2:(d.l.length:Int)<1759218604441:=J
  simp only [OC,zz,c1,c2];exact .jump ⟨_,Ik d ht x hx d.l.length 0 J,.inl rfl⟩
end
def ae8 (d x:D) (m:Nat):List Int:=[(d.V 0).n,enc (d.V 1),(d.V 2).n,enc (d.V 3),(d.V 4).n,(x.V 0).n,(x.V 1).n,(if (x.V 2).n=0 then 0 else 1),(x.V 3).n,enc (x.V 4),enc (x.V 5),(m:Int)]
def Snd (d x:D) (m:Nat):Prop:=L 500 (ae8 d x m)=some [1]
theorem ae7 (d x:D) (m:Nat) (h:(x.V 4).l.length<=140737488351232): ∃c,L 500 (ae8 d x m)=some [c]/\(c=0\/c=1):=by obtain⟨ys,U,c,rfl,hc⟩:=SI (d.V 0).n (enc (d.V 1)) (d.V 2).n (enc (d.V 3)) (d.V 4).n (x.V 0).n (x.V 1).n (if (x.V 2).n=0 then 0 else 1) (x.V 3).n (m:Int) (x.V 4) (x.V 5) h;exact⟨c,U,hc⟩
theorem dP:((1:Int)=0)=False:=ad
def CX (s:D):Prop:= ∀x∈s.l,(x.V 4).l.length<=140737488351232
section
variable {d0 d1 s:D} (hr:CX s) (hle:s.l.length=d0.l.length) (hlen:d0.l.length<=140737488351232)
include hr hle hlen
theorem Gz: ∀(j i:Nat),i+j=s.l.length->∃b:Int,L 351 [enc s,(s.l.length:Int),(i:Int),enc d0,enc d1]=some [b]/\(b=0\/b=1)/\
 (b=1↔∀(k:Nat) (hk:k<s.l.length),i<=k->Snd (d0.l[k]'(hle▸hk)) s.l[k] d1.l.length)
 |0,i,hi=>by
  have c1: ¬(i:Int)<(s.l.length:Int):=J
  refine⟨1,?_,.inr rfl,fun _ k hk h=>absurd hk J,fun _=>rfl⟩;rw [bK,agc];simp only [ae0,zz,c1,fin]
 |j+1,i,hi=>by
  have dc:i<s.l.length:=J
  have hid:i<d0.l.length:=J
  have c1:(i:Int)<(s.l.length:Int):=J
  have c2: ¬((i:Int)<0):=J
  have c3:(i:Int)<(d0.l.length:Int):=J
  have w:=bB (n:=i) J;obtain⟨c,hS,hc⟩:=ae7 d0.l[i] s.l[i] d1.l.length (hr _ (au dc));obtain⟨b,Hy,Dq,ih⟩:=Gz j (i+1) J;have hS':=hS;unfold ae8 at hS;by_cases Ml:c=0
  ·subst Ml;refine⟨0,?_,.inl rfl,fun h=>absurd h J,fun h=>?_⟩
   ·rw [bK,agc];by_cases hn:((s.l[i]).V 2).n=0
    ·rw [ag hn] at hS;exact ag6
    ·rw [af hn] at hS;exact ag6
   ·have:=h i dc (aw i);unfold Snd at this
    grind
  ·have PH:c=1:=J
   subst PH;refine⟨b,?_,Dq,fun h k hk hik=>?_,fun h=>ih.2 fun k hk hik=>h k hk J⟩
   ·rw [bK,agc];by_cases hn:((s.l[i]).V 2).n=0
    ·rw [ag hn] at hS;exact ahB
    ·rw [af hn] at hS;exact ahB
   ·by_cases hke:k=i
    ·subst hke;exact hS'
    grind
end
theorem lB {d0 d1 s:D} (h0:Wd (.sl 3) d0) (U:Wd (.sl 4) d1) (hr:CX s): ∃b:Int,L 350 [enc d0,enc d1,enc s]=some [b]/\(b=0\/b=1)/\
 (b=1↔L 450 [enc d0,enc d1]=some [0]/\∃hle:s.l.length=d0.l.length,∀(k:Nat) (hk:k<s.l.length),Snd (d0.l[k]'(hle▸hk)) s.l[k] d1.l.length):=by
 obtain⟨ys,hC,c,rfl,hc,sM⟩:=DE h0 U;by_cases Ml:c=0
 ·subst Ml;by_cases hl:s.l.length=d0.l.length
  ·have hlen:=h0.len;obtain⟨b,Hy,Dq,hb3⟩:=Gz (d1:=d1) hr hl hlen s.l.length 0 J;refine⟨b,?_,Dq,fun h=> ⟨hC,hl,fun k hk=>hb3.1 h k hk J⟩,fun⟨_,_,h⟩=>hb3.2 fun k hk _=>h k hk⟩;have I3:(s.l.length:Int)=(d0.l.length:Int):=J
   rw [bK,agd,ae1,eR,ag,eR,ag,eR,ag,mf]
   ·simp only [List.map,e9,k7,mP,cC,Nat.reduceLT,cM,cV,bG,fin]
    grind
   ·exact i?
   ·exact apz
   ·exact i?
  ·refine⟨0,?_,.inl rfl,fun h=>absurd h J,fun⟨_,h,_⟩=>absurd h hl⟩;have I3: ¬(s.l.length:Int)=(d0.l.length:Int):=J
   rw [bK,agd,ae1,eR,ag,eR,ag,eR,af]
   ·exact U9
   ·exact i?
   ·exact apz
   ·exact i?
 ·refine⟨0,?_,.inl rfl,fun h=>absurd h J,fun⟨h,_⟩=>?_⟩
  ·rw [bK,agd,ae1,eR,ag,eR,af]
   ·exact U9
   ·simp only [pV,uo,e9,pD,sg,k7,List.map,mP,cC,Nat.reduceLT,cM,cV,bG];rw [hC];simp only [cM,cV,awV,az,if_true]
    grind
   ·exact i?
  grind
section
variable {p:Prop}
def OkT (d0:D) (nl nc:Nat) (a:Int) (ll:Nat) (w o g t:Int):Prop:=
 0<=a/\a<=(nc:Int)/\(ll:Int)=(nl:Int)/\0<=t/\t<=4611686018427387904/\
  (w=0/\o=0/\g=0\/w=24/\0<=o/\o<(d0.l.length:Int)/\((d0.at o).V 0).n=4\/w=25/\0<=o/\o<(d0.l.length:Int)/\((d0.at o).V 0).n=5)
def Pw (p:Prop) (ys:List Int):Prop:= ∃b:Int,ys= [b]/\(b=0/\¬p\/b=1/\p)
theorem v7 (h: ¬p):Pw p [0]:=⟨0,rfl,.inl ⟨rfl,h⟩⟩
theorem Pv (h:p):Pw p [1]:=⟨1,rfl,.inr ⟨rfl,h⟩⟩
theorem aeR (d0 d3 d4 d6:D) (x1 x2 x5 x7 x8 x9 qM:Int):bL 1600 [enc d0,x1,x2,enc d3,enc d4,x5,enc d6,x7,x8,x9,qM] (Pw (OkT d0 d3.l.length d4.l.length x5 d6.l.length x7 x8 x9 qM)):=by
 unfold OkT;refine bL.of ?_;rw [alc];simp only [ajp,zz]
 repeat' first
  |exact .out (v7 J)
  |exact .out (Pv J)
  |refine .ite (fun _=>?_) (fun _=>?_)
def ZH (d0 x k:D):Prop:=OkT d0 (x.V 1).l.length (x.V 2).l.length (k.V 0).n (k.V 1).l.length (k.V 2).n (k.V 3).n (k.V 4).n (k.V 5).n
section
variable {d0 d1 k:D} (hle:k.l.length=d1.l.length) (hlen:d1.l.length<=140737488351232)
include hle hlen
theorem Ed: ∀(j i:Nat),i+j=k.l.length->bL 1501 [enc k,(k.l.length:Int),(i:Int),enc d0,enc d1] (Pw (∀(n:Nat) (hn:n<k.l.length),i<=n->ZH d0 (d1.l[n]'(hle▸hn)) k.l[n]))
 |0,i,hi=>by
  have c1: ¬(i:Int)<(k.l.length:Int):=J
  refine bL.of ?_;rw [adf];simp only [Q?,zz,c1];exact .out (Pv fun n hn h=>by omega)
 |j+1,i,hi=>by
  have dc:i<k.l.length:=J
  have hid:i<d1.l.length:=J
  have c1:(i:Int)<(k.l.length:Int):=J
  have c2: ¬((i:Int)<0):=J
  have c3:(i:Int)<(d1.l.length:Int):=J
  have w:=bB (n:=i) J;obtain⟨ys,hT,b,rfl,hb⟩:=aeR d0 ((d1.l[i]).V 1) ((d1.l[i]).V 2) ((k.l[i]).V 1) (enc d1) (enc ((d1.l[i]).V 0)) ((k.l[i]).V 0).n ((k.l[i]).V 2).n ((k.l[i]).V 3).n ((k.l[i]).V 4).n ((k.l[i]).V 5).n;obtain⟨ys,ih,b',rfl,zl⟩:=Ed j (i+1) J;refine bL.of ?_;rw [adf];simp only [Q?,zz,c1,c2,c3,bI dc,bI hid,w,hT];refine .ite (fun h0=> .out (v7 fun h=>?_)) (fun h0=> .jump ⟨_,ih,b',rfl,?_⟩)
  ·rcases hb with ⟨_,hb⟩|⟨hb,_⟩
   ·exact hb (h i dc (aw _))
   ·omega
  ·rcases hb with ⟨hb,_⟩|⟨_,hb⟩
   ·grind
   ·rcases zl with ⟨q,zl⟩|⟨q,zl⟩
    ·grind
    ·refine .inr ⟨q,fun n hn hni=>?_⟩;by_cases he:n=i
     ·subst he; exact hb
     grind
end
def MR (d0 d1 s k:D):Prop:=L 350 [enc d0,enc d1,enc s]=some [1]/\∃hle:k.l.length=d1.l.length,∀(n:Nat) (hn:n<k.l.length),ZH d0 (d1.l[n]'(hle▸hn)) k.l[n]
theorem Kc {d0 d1 s k:D} (h0:Wd (.sl 3) d0) (U:Wd (.sl 4) d1) (hr:CX s) (hlen:d1.l.length<=140737488351232):bL 1500 [enc d0,enc d1,enc s,enc k] (Pw (MR d0 d1 s k)):=by
 obtain⟨b,hb,Hy,_⟩:=lB h0 U hr;refine bL.of ?_;rw [ale];simp only [ajr,zz,hb];refine .ite (fun h=> .out (v7 fun q=>?_)) (fun h=> .ite (fun hl=>?_) (fun hl=> .out (v7 fun q=>?_)))
 ·have:=q.1
  grind
 ·have hle:k.l.length=d1.l.length:=J
  obtain⟨ys,hL,b',rfl,zl⟩:=Ed (d0:=d0) hle hlen k.l.length 0 J;refine .jump ⟨_,hL,b',rfl,?_⟩;have wD:b=1:=J
  subst wD;rcases zl with ⟨q,zl⟩|⟨q,zl⟩
  ·exact .inl ⟨q,fun h=>zl fun n hn _=>h.2.2 n hn⟩
  ·exact .inr ⟨q,hb,hle,fun n hn=>zl n hn (awv _)⟩
 ·have:=q.2.1;omega
theorem GA {d0 d1 s k:D} (h0:Wd (.sl 3) d0) (U:Wd (.sl 4) d1) (hr:CX s) (hlen:d1.l.length<=140737488351232) (t:Int):bL 1550 [enc d0,enc d1,enc s,enc k,t] (Pw (0<=t/\t<(d1.l.length:Int)/\MR d0 d1 s k)):=by
 obtain⟨ys,hM,b,rfl,hb⟩:=Kc h0 U hr hlen (k:=k);refine bL.of ?_;rw [ald];simp only [ajq,zz,hM];refine .ite (fun h=> .out (v7 fun q=>by omega)) (fun h=> .ite (fun Z=> .ite (fun h3=> .out (v7 fun q=>?_)) (fun h3=> .out (Pv ?_))) (fun Z=> .out (v7 fun q=>by omega)))
 all_goals grind
end
section
variable {t:Int} {l:List D}
def ky (t:Int):List D->Nat->Int
 |[],_=> -1
 |x::l,i=>if x.n=t then (i:Int) else ky t l (i+1)
def place (r:D) (t:Int):Int:=ky t r.l 0
def wo (t:Int) (l:List D):List D:=l.filter fun x=>decide (x.n≠t)
theorem zQ (t:Int): ∀(l:List D) (i:Nat),(ky t l i= -1/\∀x∈l,x.n≠t)\/∃(k:Nat) (h:k<l.length),ky t l i=((i+k:Nat):Int)/\(l[k]).n=t/\∀x∈l.take k,x.n≠t
 |[],_=> .inl ⟨rfl,fun x h=>absurd h ad⟩
 |x::l,i=>by
  unfold ky;by_cases hx:x.n=t
  ·grind
  ·rw [af hx];rcases zQ t l (i+1) with ⟨U,Z⟩|⟨k,hk,U,Z,h3⟩
   ·grind
   ·refine .inr ⟨k+1,by simp; omega,by rw [U]; congr 1; omega,by simpa using Z,fun y hy=>?_⟩
    grind
theorem lE (r:D) (t:Int):(place r t= -1/\∀x∈r.l,x.n≠t)\/∃(k:Nat) (h:k<r.l.length),place r t=(k:Int)/\(r.l[k]).n=t/\∀x∈r.l.take k,x.n≠t:=by have:=zQ t r.l 0;simp only [aK] at this;exact this
theorem hJ (r:D) (t:Int): -1<=place r t/\place r t<(r.l.length:Int):=by
 grind [lE]
theorem yo (h: ∀x∈l,x.n≠t):wo t l=l:=List.filter_eq_self.2 fun x hx=>by simpa using h x hx
theorem vD {r:D} {i:Nat} (h:i<r.l.length):ky t (r.l.drop i) i=if (r.at (i:Int)).n=t then (i:Int) else ky t (r.l.drop (i+1)) (i+1):=by rw [aM h,bI h];rfl
theorem abd (r:D) (t:Int) (hl:r.l.length<=140737488351232): ∀(j i:Nat),i+j=r.l.length->L 851 [enc r,t,(r.l.length:Int),(i:Int)]=some [ky t (r.l.drop i) i]
 |0,i,hi=>by simp_all [bK,aor,aeX,zz,fin,ky]
 |j+1,i,hi=>by
  have c1:(i:Int)<(r.l.length:Int):=J
  have c2: ¬((i:Int)<0):=J
  have w:=bB (n:=i) J;have ih:=abd r t hl j (i+1) J;rw [vD J,bK,aor];by_cases he:(r.at (i:Int)).n=t
  ·simp only [aeX,zz,c1,c2,he,fin]
  ·have AW: ¬t=(r.at (i:Int)).n:=fun h=>he h.symm;simp only [aeX,zz,c1,c2,af he,af AW,w,fin,ih]
theorem hZ (r:D) (t:Int) (hl:r.l.length<=140737488351232):L 850 [enc r,t]=some [place r t]:=by have h:=abd r t hl r.l.length 0 J;rw [bK,asB];simp only [aqp,zz,fin];exact h
theorem iA (r:D) (t:Int) (hl:r.l.length<=140737488351232):L 900 [enc r,t]=some [if place r t<0 then 0 else 1]:=by rw [bK,asA];simp only [aqo,zz,hZ r t hl];split<;>rfl
theorem BA (r:D) (t:Int) (hl:r.l.length<=140737488351232) (y2 y3 y4 y5 y6 y7 y8 y9 me mS nW:Int): ∀(j i:Nat),i+j=r.l.length->
 L 12051 [enc r,t,y2,y3,y4,y5,y6,y7,y8,y9,me,mS,nW,(r.l.length:Int),(i:Int)]=some [0,enc r,t,y2,y3,y4,y5,y6,y7,y8,y9,me,mS,nW,ky t (r.l.drop i) i]
 |0,i,hi=>by simp_all [bK,UA,LF,zz,fin,ky]
 |j+1,i,hi=>by
  have c1:(i:Int)<(r.l.length:Int):=J
  have c2: ¬((i:Int)<0):=J
  have w:=bB (n:=i) J;have ih:=BA r t hl y2 y3 y4 y5 y6 y7 y8 y9 me mS nW j (i+1) J;rw [vD J,bK,UA];by_cases he:(r.at (i:Int)).n=t
  ·simp only [LF,zz,c1,c2,he,fin]
  ·simp only [LF,zz,c1,c2,af he,w,fin,ih]
theorem afM (r:D) (t:Int) (hl:r.l.length<=140737488351232) (y2 y3 y4 y5 y6 y7 y8 y9 me mS nW:Int):L 12050 [enc r,t,y2,y3,y4,y5,y6,y7,y8,y9,me,mS,nW]=some [0,enc r,t,y2,y3,y4,y5,y6,y7,y8,y9,me,mS,nW,place r t]:=by have h:=BA r t hl y2 y3 y4 y5 y6 y7 y8 y9 me mS nW r.l.length 0 J;rw [bK,adD];simp only [V_,zz,fin];exact h
theorem Bz (r:D) (t:Int) (hl:r.l.length<=140737488351232) (y2 y3 y4 y5 y6 y7 y8 y9 me mS nW:Int): ∀(j i:Nat),i+j=r.l.length->
 L 12151 [enc r,t,y2,y3,y4,y5,y6,y7,y8,y9,me,mS,nW,(r.l.length:Int),(i:Int)]=some [0,enc r,t,y2,y3,y4,y5,y6,y7,y8,y9,me,mS,nW,ky t (r.l.drop i) i]
 |0,i,hi=>by simp_all [bK,Uy,LC,zz,fin,ky]
 |j+1,i,hi=>by
  have c1:(i:Int)<(r.l.length:Int):=J
  have c2: ¬((i:Int)<0):=J
  have w:=bB (n:=i) J;have ih:=Bz r t hl y2 y3 y4 y5 y6 y7 y8 y9 me mS nW j (i+1) J;rw [vD J,bK,Uy];by_cases he:(r.at (i:Int)).n=t
  ·simp only [LC,zz,c1,c2,he,fin]
  ·simp only [LC,zz,c1,c2,af he,w,fin,ih]
theorem afL (r:D) (t:Int) (hl:r.l.length<=140737488351232) (y2 y3 y4 y5 y6 y7 y8 y9 me mS nW:Int):L 12150 [enc r,t,y2,y3,y4,y5,y6,y7,y8,y9,me,mS,nW]=some [0,enc r,t,y2,y3,y4,y5,y6,y7,y8,y9,me,mS,nW,place r t]:=by have h:=Bz r t hl y2 y3 y4 y5 y6 y7 y8 y9 me mS nW r.l.length 0 J;rw [bK,adC];simp only [U?,zz,fin];exact h
theorem yn {j:Nat} (h:j<l.length):wo t (l.take (j+1))=if (l[j]).n=t then wo t (l.take j) else wo t (l.take j)++ [l[j]]:=by
 unfold wo;rw [axe h,List.filter_append]
 grind
theorem Ll (t:Int) (l:List D):(wo t l).length<=l.length:=List.length_filter_le _ _
theorem vK (r0:D) (t:Int) (l0:List D) (hl:l0.length<=140737488351232) (hn: ∀x∈l0,x= .i x.n) (y2 y3 y4 y5 y6 y7 y8 y9 me mS nW:Int): ∀(m i j:Nat) (r:D),r.l.length=l0.length->i<j->j+m=l0.length->r.l.drop j=l0.drop j->r.l.take i=wo t (l0.take j)->
 ∃(n:Nat) (r':D),n<l0.length/\r'.l.length=l0.length/\r'.l.take n=wo t l0/\L 12001 [enc r0,t,y2,y3,y4,y5,y6,y7,y8,y9,me,mS,nW,enc r,(i:Int),(j:Int)]=some [1,enc r0,t,y2,y3,y4,y5,y6,y7,y8,y9,me,mS,nW,(n:Int),enc r',(l0.length:Int)]
 |0,i,j,r,hr,U,Z,h3,h4=>by
  have c1: ¬(j:Int)<(l0.length:Int):=J
  have c2: ¬((i:Int)<0):=J
  have c3: ¬((l0.length:Int)<(i:Int)):=J
  have c4: ¬((l0.length:Int)-(i:Int)<0):=J
  have c5:(i:Int)+((l0.length:Int)-(i:Int))=(l0.length:Int):=J
  refine⟨i,dL (r.l.take i++List.replicate (r.l.length-i) (.i 0)),J,by rw [bF]; simp only [bd,aZ,aww]; omega,?_,?_⟩
  ·grind [bF]
  ·rw [bK,Ni];simp only [LG,zz,c1,c2,c3,c4,c5,aQ,fin,hr]
 |m+1,i,j,r,hr,U,Z,h3,h4=>by
  have c1:(j:Int)<(l0.length:Int):=J
  have c2: ¬((j:Int)<0):=J
  have w:=bB (n:=j) J;have hj:j<r.l.length:=J
  have hj0:j<l0.length:=J
  have hx:r.at (j:Int)=l0[j]:=by exact ahD
  have h3':r.l.drop (j+1)=l0.drop (j+1):=by exact alU
  by_cases he:(r.at (j:Int)).n=t
  ·obtain⟨n,r',q1,q2,q3,ih⟩:=vK r0 t l0 hl hn y2 y3 y4 y5 y6 y7 y8 y9 me mS nW m i (j+1) r hr J J h3' (by rw [yn hj0,<- hx,ag he,h4]);refine⟨n,r',q1,q2,q3,?_⟩;rw [bK,Ni];simp only [LG,zz,c1,c2,he,w,hr,fin,ih]
  ·have c3: ¬((i:Int)<0):=J
   have c4:(i:Int)<(l0.length:Int):=J
   have w2:=bB (n:=i) J;have hs:dC r.l (i:Int) (.i (r.at (j:Int)).n)=r.l.set i l0[j]:=by rw [rF,hx,<- hn _ (au hj0)]
   obtain⟨n,r',q1,q2,q3,ih⟩:=vK r0 t l0 hl hn y2 y3 y4 y5 y6 y7 y8 y9 me mS nW m (i+1) (j+1) (dL (dC r.l (i:Int) (.i (r.at (j:Int)).n))) (by rw [bF,eF,hr]) J J
    (by rw [bF,hs,aw7 J,h3'])
    (by rw [bF,hs,axe (by rw [aw5]; omega),aw6 (aw _),axM,h4,yn hj0,<- hx,af he])
   refine⟨n,r',q1,q2,q3,?_⟩;rw [bK,Ni];simp only [LG,zz,c1,c2,c3,c4,af he,w,w2,hr,fin,ih]
theorem agq (r:D) (t:Int) (hl:r.l.length<=140737488351232) (hn: ∀x∈r.l,x= .i x.n):(wo t r.l=r.l/\∀y2 y3 y4 y5 y6 y7 y8 y9 me mS nW:Int,L 12000 [enc r,t,y2,y3,y4,y5,y6,y7,y8,y9,me,mS,nW]=some [0,enc r,t,y2,y3,y4,y5,y6,y7,y8,y9,me,mS,nW])\/
 ∀y2 y3 y4 y5 y6 y7 y8 y9 me mS nW:Int,∃(n:Nat) (r':D),n<r.l.length/\r'.l.length=r.l.length/\r'.l.take n=wo t r.l/\L 12000 [enc r,t,y2,y3,y4,y5,y6,y7,y8,y9,me,mS,nW]=some [1,enc r,t,y2,y3,y4,y5,y6,y7,y8,y9,me,mS,nW,(n:Int),enc r',(r.l.length:Int)]:=by
 have h:=afM r t hl;rcases lE r t with ⟨hp,wE⟩|⟨i,hi,hp,gD,wE⟩
 ·refine .inl ⟨yo wE,fun y2 y3 y4 y5 y6 y7 y8 y9 me mS nW=>?_⟩;have h':=h y2 y3 y4 y5 y6 y7 y8 y9 me mS nW;clear h;rw [hp] at h';rw [bK,UB,SA,eR,ag,eR,ag,eR,ag]
  ·exact ahx
  ·simp only [N5,pV,e9,pD,sg,List.map,cC,Nat.reduceLT,cM,cV];exact al6
  ·exact XS
  ·exact aey
 ·refine .inr fun y2 y3 y4 y5 y6 y7 y8 y9 me mS nW=>?_;have h':=h y2 y3 y4 y5 y6 y7 y8 y9 me mS nW;clear h;rw [hp] at h';have w:=bB (n:=i) J;have h0:r.l.take i=wo t (r.l.take (i+1)):=by rw [yn hi,ag gD,yo wE]
  obtain⟨n,r',q1,q2,q3,ih⟩:=vK r t r.l hl hn y2 y3 y4 y5 y6 y7 y8 y9 me mS nW (r.l.length-(i+1)) i (i+1) r rfl J J rfl h0;refine⟨n,r',q1,q2,q3,?_⟩;rw [bK,UB,SA,eR,ag,eR,ag,eR,af]
  ·simp only [mf,List.map,N5,e9,pD,xS,den_add,cC,cM,cV,Nat.reduceLT];exact ahb
  ·simp only [N5,pV,e9,pD,sg,List.map,cC,Nat.reduceLT,cM,cV];exact ahG
  ·exact XS
  ·exact XS
theorem vJ (r0:D) (t:Int) (l0:List D) (hl:l0.length<=140737488351232) (hn: ∀x∈l0,x= .i x.n) (y2 y3 y4 y5 y6 y7 y8 y9 me mS nW:Int): ∀(m i j:Nat) (r:D),r.l.length=l0.length->i<j->j+m=l0.length->r.l.drop j=l0.drop j->r.l.take i=wo t (l0.take j)->
 ∃(n:Nat) (r':D),n<l0.length/\r'.l.length=l0.length/\r'.l.take n=wo t l0/\L 12101 [enc r0,t,y2,y3,y4,y5,y6,y7,y8,y9,me,mS,nW,enc r,(i:Int),(j:Int)]=some [1,enc r0,t,y2,y3,y4,y5,y6,y7,y8,y9,me,mS,nW,(n:Int),enc r',(l0.length:Int)]
 |0,i,j,r,hr,U,Z,h3,h4=>by
  have c1: ¬(j:Int)<(l0.length:Int):=J
  have c2: ¬((i:Int)<0):=J
  have c3: ¬((l0.length:Int)<(i:Int)):=J
  have c4: ¬((l0.length:Int)-(i:Int)<0):=J
  have c5:(i:Int)+((l0.length:Int)-(i:Int))=(l0.length:Int):=J
  refine⟨i,dL (r.l.take i++List.replicate (r.l.length-i) (.i 0)),J,by rw [bF]; simp only [bd,aZ,aww]; omega,?_,?_⟩
  ·grind [bF]
  ·rw [bK,Nh];simp only [LD,zz,c1,c2,c3,c4,c5,aQ,fin,hr]
 |m+1,i,j,r,hr,U,Z,h3,h4=>by
  have c1:(j:Int)<(l0.length:Int):=J
  have c2: ¬((j:Int)<0):=J
  have w:=bB (n:=j) J;have hj:j<r.l.length:=J
  have hj0:j<l0.length:=J
  have hx:r.at (j:Int)=l0[j]:=by exact ahD
  have h3':r.l.drop (j+1)=l0.drop (j+1):=by exact alU
  by_cases he:(r.at (j:Int)).n=t
  ·obtain⟨n,r',q1,q2,q3,ih⟩:=vJ r0 t l0 hl hn y2 y3 y4 y5 y6 y7 y8 y9 me mS nW m i (j+1) r hr J J h3' (by rw [yn hj0,<- hx,ag he,h4]);refine⟨n,r',q1,q2,q3,?_⟩;rw [bK,Nh];simp only [LD,zz,c1,c2,he,w,hr,fin,ih]
  ·have c3: ¬((i:Int)<0):=J
   have c4:(i:Int)<(l0.length:Int):=J
   have w2:=bB (n:=i) J;have hs:dC r.l (i:Int) (.i (r.at (j:Int)).n)=r.l.set i l0[j]:=by rw [rF,hx,<- hn _ (au hj0)]
   obtain⟨n,r',q1,q2,q3,ih⟩:=vJ r0 t l0 hl hn y2 y3 y4 y5 y6 y7 y8 y9 me mS nW m (i+1) (j+1) (dL (dC r.l (i:Int) (.i (r.at (j:Int)).n))) (by rw [bF,eF,hr]) J J
    (by rw [bF,hs,aw7 J,h3'])
    (by rw [bF,hs,axe (by rw [aw5]; omega),aw6 (aw _),axM,h4,yn hj0,<- hx,af he])
   refine⟨n,r',q1,q2,q3,?_⟩;rw [bK,Nh];simp only [LD,zz,c1,c2,c3,c4,af he,w,w2,hr,fin,ih]
theorem agp (r:D) (t:Int) (hl:r.l.length<=140737488351232) (hn: ∀x∈r.l,x= .i x.n):(wo t r.l=r.l/\∀y2 y3 y4 y5 y6 y7 y8 y9 me mS nW:Int,L 12100 [enc r,t,y2,y3,y4,y5,y6,y7,y8,y9,me,mS,nW]=some [0,enc r,t,y2,y3,y4,y5,y6,y7,y8,y9,me,mS,nW])\/
 ∀y2 y3 y4 y5 y6 y7 y8 y9 me mS nW:Int,∃(n:Nat) (r':D),n<r.l.length/\r'.l.length=r.l.length/\r'.l.take n=wo t r.l/\L 12100 [enc r,t,y2,y3,y4,y5,y6,y7,y8,y9,me,mS,nW]=some [1,enc r,t,y2,y3,y4,y5,y6,y7,y8,y9,me,mS,nW,(n:Int),enc r',(r.l.length:Int)]:=by
 have h:=afL r t hl;rcases lE r t with ⟨hp,wE⟩|⟨i,hi,hp,gD,wE⟩
 ·refine .inl ⟨yo wE,fun y2 y3 y4 y5 y6 y7 y8 y9 me mS nW=>?_⟩;have h':=h y2 y3 y4 y5 y6 y7 y8 y9 me mS nW;clear h;rw [hp] at h';rw [bK,Uz,Sz,eR,ag,eR,ag,eR,ag]
  ·exact ahx
  ·simp only [Qnf,pV,e9,pD,sg,List.map,cC,Nat.reduceLT,cM,cV];exact al6
  ·exact XS
  ·exact aey
 ·refine .inr fun y2 y3 y4 y5 y6 y7 y8 y9 me mS nW=>?_;have h':=h y2 y3 y4 y5 y6 y7 y8 y9 me mS nW;clear h;rw [hp] at h';have w:=bB (n:=i) J;have h0:r.l.take i=wo t (r.l.take (i+1)):=by rw [yn hi,ag gD,yo wE]
  obtain⟨n,r',q1,q2,q3,ih⟩:=vJ r t r.l hl hn y2 y3 y4 y5 y6 y7 y8 y9 me mS nW (r.l.length-(i+1)) i (i+1) r rfl J J rfl h0;refine⟨n,r',q1,q2,q3,?_⟩;rw [bK,Uz,Sz,eR,ag,eR,ag,eR,af]
  ·simp only [mf,List.map,Qnf,e9,pD,xS,den_add,cC,cM,cV,Nat.reduceLT];exact ahb
  ·simp only [Qnf,pV,e9,pD,sg,List.map,cC,Nat.reduceLT,cM,cV];exact ahG
  ·exact XS
  ·exact XS
theorem ago (r:D) (t:Int): ∀y2 y3 y4 y5 y6 y7 y8 y9 me mS nW:Int,L 12200 [enc r,t,y2,y3,y4,y5,y6,y7,y8,y9,me,mS,nW]=some [0,enc r,t,y2,y3,y4,y5,y6,y7,y8,y9,me,mS,nW]:=by
 intro y2 y3 y4 y5 y6 y7 y8 y9 me mS nW
 have h:L 12250 [enc r,t,y2,y3,y4,y5,y6,y7,y8,y9,me,mS,nW]=some [0,enc r,t,y2,y3,y4,y5,y6,y7,y8,y9,me,mS,nW]:=by rw [bK,adA];simp_all [U',zz,fin,bK,adz,U_]
 have h':=h;clear h;rw [bK,adB,U!,eR,ag,eR,ag]
 ·exact agS
 ·exact ah4
 ·exact aey
theorem agn (r:D) (t:Int): ∀y2 y3 y4 y5 y6 y7 y8 y9 me mS nW:Int,L 12300 [enc r,t,y2,y3,y4,y5,y6,y7,y8,y9,me,mS,nW]=some [0,enc r,t,y2,y3,y4,y5,y6,y7,y8,y9,me,mS,nW]:=by
 intro y2 y3 y4 y5 y6 y7 y8 y9 me mS nW
 have h:L 12350 [enc r,t,y2,y3,y4,y5,y6,y7,y8,y9,me,mS,nW]=some [0,enc r,t,y2,y3,y4,y5,y6,y7,y8,y9,me,mS,nW]:=by rw [bK,adx];simp_all [T!,zz,fin,bK,adw,T_]
 have h':=h;clear h;rw [bK,ady,T?,eR,ag,eR,ag]
 ·exact agS
 ·exact ah4
 ·exact aey
end
abbrev Mx (d0:D) (obj:Int):Int:=((d0.at obj).V 2).n
abbrev Mo (d0 s:D) (obj:Int):Int:=((s.at ((d0.at obj).V 2).n).V 0).n
inductive Act where
 |oN
 |zD
 |res (o c dn g:Int) (r v:D) (m:Option Int) (a oc:Int)
def act (M mo th op arg tries o c dn g:Int) (r v:D):Act:=
 if op=1 then (if o=th then .zD else if place r th<0 then (if o<0 then .res th c dn g r v none 0 2 else .oN) else .zD)
 else if op=2 then (if o=th then .res (-1) c dn g r v none 0 2 else .zD)
 else if op=8 then (if o=th then .res (-1) c dn g r v none 0 2 else .zD)
 else if op=3 then (if o<0 then .res th c dn g r v none 1 2 else .res o c dn g r v none 0 2)
 else if op=4 then (if o<0 then .res th c dn g r v none 1 2 else if tries<arg then .oN else .res o c dn g r v none 0 2)
 else if op=5 then (if o=th then .zD else if place r th<0 then (if o<0 then .res o c dn g (dL (r.l++ [.i th])) v none 0 2 else .oN) else .zD)
 else if op=6 then (if place r th<0 then .zD else .res o c dn g (gq (.i 2) (r.l.take (place r th).toNat++r.l.drop ((place r th).toNat+1))) v none 0 2)
 else if op=7 then (if o=th then .zD else if place r th<0 then (if (r.l.length:Int)=0 then (if o<0 then .res th c dn g r v none 0 2 else .oN) else .oN) else .zD)
 else if op=9 then (if 0<c then .res o (IntKind.i64.wrap (c-1)) dn g r v none 0 2 else .oN)
 else if op=11 then (if 0<c then .res o (IntKind.i64.wrap (c-1)) dn g r v none 1 2 else .res o c dn g r v none 0 2)
 else if op=10 then (if c<M then .res o (IntKind.i64.wrap (c+1)) dn g r v none 0 2 else .zD)
 else if op=17 then (if arg<IntKind.i64.wrap (0-c) then .zD else if IntKind.i64.wrap (1099511627776-c)<arg then .zD else .res o (IntKind.i64.wrap (c+arg)) dn g r v none (IntKind.i64.wrap (c+arg)) 2)
 else if op=18 then (if 0<c then .res o (IntKind.i64.wrap (c-1)) dn g r v none (IntKind.i64.wrap (c-1)) 2 else .zD)
 else if op=19 then (if c=0 then .res o c dn g r v none 0 2 else .oN)
 else if op=22 then .res o c dn g r v none c 2
 else if op=23 then .res o arg dn g r v none arg 2
 else if op=20 then (if (v.l.length:Int)<M then .res o c dn g r (dL (v.l++ [.i arg])) none arg 2 else .oN)
 else if op=21 then (if (v.l.length:Int)=0 then .oN else .res o c dn g r (gq v (v.l.drop 1)) none (v.at 0).n 2)
 else if op=12 then (if mo=th then .res o c dn g (dL (wo th r.l++ [.i th])) v (some (-1)) 0 3 else .zD)
 else if op=13 then (if (r.l.length:Int)=0 then .res o c dn g r v none 0 2 else .res o c dn g (gq r (r.l.drop 1)) v none (IntKind.i64.wrap ((r.at 0).n+1)) 2)
 else if op=14 then .res o c dn g (.i 1) v none (r.l.length:Int) 2
 else if op=24 then (if place r th<0 then (if mo<0 then .res o c dn g r v (some th) 0 2 else .oN) else .oN)
 else if op=15 then (if g<4611686018427387904 then (if IntKind.i64.wrap (c+1)=M then .res o 0 dn (IntKind.i64.wrap (g+1)) r v none g 3 else .res o (IntKind.i64.wrap (c+1)) dn g r v none g 3) else .zD)
 else if op=25 then (if arg<g then .res o c dn g r v none arg 2 else .oN)
 else if op=16 then (if dn=0 then (if o=th then .zD else if o<0 then .res th c dn g r v none 1 2 else .oN) else .res o c dn g r v none 0 2)
 else (if o=th then .res (-1) c 1 g r v none 0 2 else .zD)
def GL (s:D) (obj M:Int):Act->D
 | .res o c dn g r v m _ _=>dL (dC (match m with |none=>s.l|some q=>dC s.l M (dL (dC (s.at M).l 0 (.i q)))) obj (dL [.i o,.i c,.i (if dn=0 then 0 else 1),.i g,r,v]))
 |_=>s
def GW (s:D) (th op obj M:Int):Act->List Int
 | .oN=>[enc s,0,0,0,0,0,0]
 | .zD=>[enc s,th,27,obj,IntKind.i64.wrap op,0,2]
 | .res o c dn g r v m a oc=>[enc (GL s obj M (.res o c dn g r v m a oc)),th,op,obj,a,0,oc]
structure TH (d0 d1 s:D) (th op obj arg tries o c dn g:Int) (r v:D):Prop where
 dK:L 9000 [obj,enc s]=some [mN r v,obj,enc s,o,c,dn,g,enc r,enc v]
 qY:L 550 [enc s]=some [enc s]
 hR:L 350 [enc d0,enc d1,enc s]=some [1]
 uH:0<=th
 mC:th<(d1.l.length:Int)
 mi:0<=obj
 mh:obj<(s.l.length:Int)
 hlen:s.l.length=d0.l.length
 hk:L 600 [op]=some [((d0.at obj).V 0).n]
 hr:(r.l.length:Int)<17592186044415
 hv:(v.l.length:Int)<17592186044415
 hn: ∀x∈r.l,x= .i x.n
 hM:op=12\/op=24->0<=((d0.at obj).V 2).n/\((d0.at obj).V 2).n<(s.l.length:Int)/\((d0.at obj).V 2).n≠obj
theorem TH.hb {d0 d1 s:D} {th op obj arg tries o c dn g:Int} {r v:D} (H:TH d0 d1 s th op obj arg tries o c dn g r v):r.l.length<=140737488351232:=by have:=H.hr; omega
noncomputable abbrev dO (d0 d1 s:D) (th op obj arg tries:Int):Nat->Int:=cN L (low [enc d0,enc d1,enc s,th,op,obj,arg,tries])
abbrev bX (k:Nat):Y:=rr 9000 [.dN 5,.dN 2] k
abbrev Tb:Y:=nm (ce 2 (el (.dN 0) (.dN 5)))
abbrev kK:Y:=rr 850 [bX 7,.dN 3] 0
abbrev X7 (q:Y):Y:=.op .set (bX 2) (cn (mk Tb) (.op .set (el (bX 2) Tb) (cn (.eW (.i 0)) q)))
abbrev ua:List Y:=[bX 7,.dN 3,.dN 5,Tb,X7 (.eW (.i (-1))),.dN 4,.dN 6,.dN 7,bX 3,bX 4,bX 5,bX 6,bX 8]
abbrev thg (o c d g r v:Y):Y:=cn (mk (.dN 5)) (cn o (cn c (cn d (cn g (cn r (cn v (.eW (.i 0))))))))
abbrev tq:T Lf:=ou [rr 550 [.dN 2] 0,.dN 3,.lit 27,.dN 5,wr (.dN 4),.lit 0,.lit 2]
abbrev ze:T Lf:=ou [rr 550 [.dN 2] 0,.lit 0,.lit 0,.lit 0,.lit 0,.lit 0,.lit 0]
abbrev kJ (z o c d g r v a:Y) (oc:Int):T Lf:=ou [.op .set z (thg o c d g r v),.dN 3,.dN 4,.dN 5,a,.lit 0,.lit oc]
theorem lT {r:D} (h:r.l= []) (t:Int):place r t= -1:=by unfold place; rw [h]; rfl
theorem jr {r:D} (h:r.l= []) (t:Int):wo t r.l= []:=by rw [h]; rfl
theorem avm {r v:D} (h:0<r.l.length) (h':0<v.l.length):mN r v=3:=by simp [mN,h,h']
theorem avl {r v:D} (h:0<r.l.length) (h':v.l= []):mN r v=4:=by simp [mN,h,h']
theorem avk {r v:D} (h:r.l= []) (h':0<v.l.length):mN r v=5:=by simp [mN,h,h']
theorem avj {r v:D} (h:r.l= []) (h':v.l= []):mN r v=6:=by simp [mN,h,h']
abbrev Gl (d0 s:D) (th op obj arg tries o c dn g:Int) (r v:D):RS:=.out (GW s th op obj (Mx d0 obj) (act (Mx d0 obj) (Mo d0 s obj) th op arg tries o c dn g r v))
theorem iK (s:D) (th op obj M:Int):GW s th op obj M .oN= [enc s,0,0,0,0,0,0]:=rfl
theorem iJ (s:D) (th op obj M:Int):GW s th op obj M .zD= [enc s,th,27,obj,IntKind.i64.wrap op,0,2]:=rfl
theorem gL (s:D) (th op obj M o c dn g:Int) (r v:D) (a oc:Int):GW s th op obj M (.res o c dn g r v none a oc)= [enc (dL (dC s.l obj (dL [.i o,.i c,.i (if dn=0 then 0 else 1),.i g,r,v]))),th,op,obj,a,0,oc]:=rfl
theorem gK (s:D) (th op obj M o c dn g:Int) (r v:D) (q a oc:Int):GW s th op obj M (.res o c dn g r v (some q) a oc)= [enc (dL (dC (dC s.l M (dL (dC (s.at M).l 0 (.i q)))) obj (dL [.i o,.i c,.i (if dn=0 then 0 else 1),.i g,r,v]))),th,op,obj,a,0,oc]:=rfl
section
variable {s:D} {th op obj M:Int}
theorem mU {c:Prop} [Decidable c] {a b:Act}:RS.out (GW s th op obj M (if c then a else b))=if c then RS.out (GW s th op obj M a) else RS.out (GW s th op obj M b):=by split<;>rfl
end
theorem Tu {p:Prop} [Decidable p]:((if p then (0:Int) else 1)=0)=p:=by by_cases h:p<;>simp [h]
theorem gA (l:List D):l= []\/0<l.length:=by cases l<;>simp
theorem z2 {ρ:Nat->Int} {a b c d:List SB} (h:zY ρ a/\zW ρ b) (h':zY ρ c/\zW ρ d):zY ρ (a++c)/\zW ρ (b++d):=⟨p! h.1 h'.1,q' h.2 h'.2⟩
section
variable {n:Nat} {r1:D}
abbrev bt:Y:=.op .bit (mk (bX 5)) (.lit 0)
abbrev kW:Y:=wr (.add kK (.lit 1))
abbrev kL:Y:=.sub (ln (bX 7)) kW
abbrev kD:Y:=.add kK kL
abbrev kC:Y:=.op .cat (.op .cat (.op .take (bX 7) kK) (.op .drop (.op .take (bX 7) (.add kW kL)) kW)) (.op .drop (bX 7) kD)
abbrev kF:Y:=.op .fill kC (cn (mk kD) (.eW (.i 0)))
section
variable {d0 d1 s r v:D} {th op obj arg tries o c dn g:Int}
abbrev YG:List SB:=[.eq (a0 9000 [.dN 5,.dN 2]) (.lit 1),.eq (a0 350 [.dN 0,.dN 1,.dN 2]) (.lit 1),.eq (a0 600 [.dN 4]) (.lit 1),.eq (a0 550 [.dN 2]) (.lit 1),.eq (a0 900 [bX 7,.dN 3]) (.lit 1),.eq (a0 850 [bX 7,.dN 3]) (.lit 1),.lt (.dN 3) (ln (.dN 1)),.lt (.dN 5) (ln (.dN 0)),.lt (.dN 5) (ln (bX 2)),.eq (rr 600 [.dN 4] 0) (nm (ce 0 (el (.dN 0) (.dN 5)))),.lt (ln (bX 7)) (.lit 17592186044415),.lt (ln (bX 8)) (.lit 17592186044415)]
abbrev NG:List SB:=[.lt (.dN 5) (.lit 0),.eq (rr 350 [.dN 0,.dN 1,.dN 2] 0) (.lit 0),.lt (.dN 3) (.lit 0),.lt (ln (bX 7)) (ln (bX 7)),.lt (ln (bX 8)) (.add (.lit 1) (.sub (ln (bX 8)) (.lit 1))),.lt (ln (bX 7)) (.add (.lit 1) (.sub (ln (bX 7)) (.lit 1)))]
theorem fG (H:TH d0 d1 s th op obj arg tries o c dn g r v):zY (dO d0 d1 s th op obj arg tries) YG/\zW (dO d0 d1 s th op obj arg tries) NG:=by exact apG
abbrev YA3:List SB:=[.eq (bX 0) (.lit 3)]
abbrev NA3:List SB:=[.eq (bX 0) (.lit 0),.eq (bX 0) (.lit 1),.eq (bX 0) (.lit 2),.eq (bX 0) (.lit 4),.eq (bX 0) (.lit 5),.eq (bX 0) (.lit 6),.lt (.sub (ln (bX 7)) (.lit 1)) (.lit 0),.lt (.sub (ln (bX 8)) (.lit 1)) (.lit 0)]
theorem fA3 (H:TH d0 d1 s th op obj arg tries o c dn g r v) (hr:0<r.l.length) (hv:0<v.l.length):zY (dO d0 d1 s th op obj arg tries) YA3/\zW (dO d0 d1 s th op obj arg tries) NA3:=by have hb:=H.hb;have U:=H.uH; have Z:=H.mC; have h3:=H.mi; have h4:=H.mh; have h5:=H.hlen; have h6:=H.hr; have h7:=H.hv; have hp:=hJ r th;simp only [zz,H.dK,H.qY,H.hR,H.hk,iA r th hb,hZ r th hb,avm hr hv]<;>omega
abbrev YA4:List SB:=[.eq (bX 0) (.lit 4)]
abbrev NA4:List SB:=[.eq (bX 0) (.lit 0),.eq (bX 0) (.lit 1),.eq (bX 0) (.lit 2),.eq (bX 0) (.lit 3),.eq (bX 0) (.lit 5),.eq (bX 0) (.lit 6),.lt (.sub (ln (bX 7)) (.lit 1)) (.lit 0)]
theorem fA4 (H:TH d0 d1 s th op obj arg tries o c dn g r v) (hr:0<r.l.length) (hv:v.l= []):zY (dO d0 d1 s th op obj arg tries) YA4/\zW (dO d0 d1 s th op obj arg tries) NA4:=by have hb:=H.hb;have U:=H.uH; have Z:=H.mC; have h3:=H.mi; have h4:=H.mh; have h5:=H.hlen; have h6:=H.hr; have h7:=H.hv; have hp:=hJ r th;simp only [zz,H.dK,H.qY,H.hR,H.hk,iA r th hb,hZ r th hb,avl hr hv]<;>omega
abbrev YA5:List SB:=[.eq (bX 0) (.lit 5),.lt kK (.lit 0)]
abbrev NA5:List SB:=[.eq (bX 0) (.lit 0),.eq (bX 0) (.lit 1),.eq (bX 0) (.lit 2),.eq (bX 0) (.lit 3),.eq (bX 0) (.lit 4),.eq (bX 0) (.lit 6),.lt (.sub (ln (bX 8)) (.lit 1)) (.lit 0)]
theorem fA5 (H:TH d0 d1 s th op obj arg tries o c dn g r v) (hr:r.l= []) (hv:0<v.l.length):zY (dO d0 d1 s th op obj arg tries) YA5/\zW (dO d0 d1 s th op obj arg tries) NA5:=by have hb:=H.hb;have U:=H.uH; have Z:=H.mC; have h3:=H.mi; have h4:=H.mh; have h5:=H.hlen; have h6:=H.hr; have h7:=H.hv; have hp:=hJ r th;simp only [zz,H.dK,H.qY,H.hR,H.hk,iA r th hb,hZ r th hb,avk hr hv,lT hr]<;>omega
abbrev YA6:List SB:=[.eq (bX 0) (.lit 6),.lt kK (.lit 0)]
abbrev NA6:List SB:=[.eq (bX 0) (.lit 0),.eq (bX 0) (.lit 1),.eq (bX 0) (.lit 2),.eq (bX 0) (.lit 3),.eq (bX 0) (.lit 4),.eq (bX 0) (.lit 5)]
theorem fA6 (H:TH d0 d1 s th op obj arg tries o c dn g r v) (hr:r.l= []) (hv:v.l= []):zY (dO d0 d1 s th op obj arg tries) YA6/\zW (dO d0 d1 s th op obj arg tries) NA6:=by have hb:=H.hb;have U:=H.uH; have Z:=H.mC; have h3:=H.mi; have h4:=H.mh; have h5:=H.hlen; have h6:=H.hr; have h7:=H.hv; have hp:=hJ r th;simp only [zz,H.dK,H.qY,H.hR,H.hk,iA r th hb,hZ r th hb,avj hr hv,lT hr]<;>omega
abbrev YM:List SB:=[.lt Tb (ln (bX 2))]
abbrev NM:List SB:=[.lt Tb (.lit 0),.eq Tb (.dN 5)]
theorem fM (H:TH d0 d1 s th op obj arg tries o c dn g r v) (ho:op=12\/op=24):zY (dO d0 d1 s th op obj arg tries) YM/\zW (dO d0 d1 s th op obj arg tries) NM:=by have hb:=H.hb;have U:=H.uH; have Z:=H.mC; have h3:=H.mi; have h4:=H.mh; have h5:=H.hlen; have h6:=H.hr; have h7:=H.hv; have hp:=hJ r th; have hm:=H.hM ho;simp only [zz,H.dK,H.qY,H.hR,H.hk,iA r th hb,hZ r th hb]<;>omega
abbrev YK0:List SB:=[.lt kK (.lit 0)]
abbrev NK0:List SB:=[]
theorem fK0 (H:TH d0 d1 s th op obj arg tries o c dn g r v) (hk:place r th<0):zY (dO d0 d1 s th op obj arg tries) YK0/\zW (dO d0 d1 s th op obj arg tries) NK0:=by exact apG
abbrev YK1:List SB:=[.lt kD (ln (bX 7)),.eq (.add kD (.sub (ln (bX 7)) kD)) (ln kC)]
abbrev NK1:List SB:=[.lt kK (.lit 0),.lt kW kK,.lt (ln (bX 7)) kW,.eq kK kW,.lt (ln (bX 7)) kK,.lt kW (.lit 0),.lt kL (.lit 0),.lt (ln (bX 7)) (.add kW kL),.lt (ln (bX 7)) kD,.lt kD (.lit 0),.lt (ln kC) (ln (bX 7)),.lt (.sub (ln (bX 7)) kD) (.lit 0),.lt (ln kF) kD]
theorem fK1 (H:TH d0 d1 s th op obj arg tries o c dn g r v) (hk: ¬place r th<0):zY (dO d0 d1 s th op obj arg tries) YK1/\zW (dO d0 d1 s th op obj arg tries) NK1:=by have hb:=H.hb;have U:=H.uH; have Z:=H.mC; have h3:=H.mi; have h4:=H.mh; have h5:=H.hlen; have h6:=H.hr; have h7:=H.hv; have hp:=hJ r th; have hw:IntKind.i64.wrap (place r th+1)=place r th+1:=fB J J;simp only [zz,H.dK,H.qY,H.hR,H.hk,iA r th hb,hZ r th hb,bQ,bF,bd,aZ,bp,aww,hw]<;>omega
abbrev dA (d0 s r v:D) (th op obj arg tries o c dn g:Int):List Int:=[enc r,th,obj,Mx d0 obj,enc (dL (dC s.l (Mx d0 obj) (dL (dC (s.at (Mx d0 obj)).l 0 (.i (-1)))))),op,arg,tries,o,c,dn,g,enc v]
abbrev avr:List SB:=[.eq (a0 12000 ua) (.lit 1),.eq (rr 12000 ua 0) (.lit 0)]
abbrev avy:List SB:=[]
theorem avf (H:TH d0 d1 s th op obj arg tries o c dn g r v) (V:L 12000 (dA d0 s r v th op obj arg tries o c dn g)=some (0::(dA d0 s r v th op obj arg tries o c dn g))):zY (dO d0 d1 s th op obj arg tries) avr/\zW (dO d0 d1 s th op obj arg tries) avy:=by exact aeE
abbrev avt:List SB:=[.eq (a0 12000 ua) (.lit 1),.eq (rr 12000 ua 0) (.lit 1)]
abbrev avz:List SB:=[.eq (rr 12000 ua 0) (.lit 0),.lt (rr 12000 ua 14) (.lit 0),.lt (ln (rr 12000 ua 15)) (.add (rr 12000 ua 14) (.lit 1)),.lt (.add (rr 12000 ua 14) (.lit 1)) (.lit 0),.lt (ln (.op .cat (.op .cat (.op .take (rr 12000 ua 15) (rr 12000 ua 14)) (.op .snoc (.eW (.i 0)) (mk (.dN 3)))) (.op .drop (rr 12000 ua 15) (.add (rr 12000 ua 14) (.lit 1))))) (.add (rr 12000 ua 14) (.lit 1))]
theorem avg (H:TH d0 d1 s th op obj arg tries o c dn g r v) (hn:n<r.l.length) (hl:r1.l.length=r.l.length) (V:L 12000 (dA d0 s r v th op obj arg tries o c dn g)=some (1::((dA d0 s r v th op obj arg tries o c dn g)++ [(n:Int),enc r1,(r.l.length:Int)]))):zY (dO d0 d1 s th op obj arg tries) avt/\zW (dO d0 d1 s th op obj arg tries) avz:=by exact apO
abbrev avp:List SB:=[.eq (a0 12100 ua) (.lit 1),.eq (rr 12100 ua 0) (.lit 0)]
abbrev avw:List SB:=[]
theorem avd (H:TH d0 d1 s th op obj arg tries o c dn g r v) (V:L 12100 (dA d0 s r v th op obj arg tries o c dn g)=some (0::(dA d0 s r v th op obj arg tries o c dn g))):zY (dO d0 d1 s th op obj arg tries) avp/\zW (dO d0 d1 s th op obj arg tries) avw:=by exact aeE
abbrev avq:List SB:=[.eq (a0 12100 ua) (.lit 1),.eq (rr 12100 ua 0) (.lit 1)]
abbrev avx:List SB:=[.eq (rr 12100 ua 0) (.lit 0),.lt (rr 12100 ua 14) (.lit 0),.lt (ln (rr 12100 ua 15)) (.add (rr 12100 ua 14) (.lit 1)),.lt (.add (rr 12100 ua 14) (.lit 1)) (.lit 0),.lt (ln (.op .cat (.op .cat (.op .take (rr 12100 ua 15) (rr 12100 ua 14)) (.op .snoc (.eW (.i 0)) (mk (.dN 3)))) (.op .drop (rr 12100 ua 15) (.add (rr 12100 ua 14) (.lit 1))))) (.add (rr 12100 ua 14) (.lit 1))]
theorem ave (H:TH d0 d1 s th op obj arg tries o c dn g r v) (hn:n<r.l.length) (hl:r1.l.length=r.l.length) (V:L 12100 (dA d0 s r v th op obj arg tries o c dn g)=some (1::((dA d0 s r v th op obj arg tries o c dn g)++ [(n:Int),enc r1,(r.l.length:Int)]))):zY (dO d0 d1 s th op obj arg tries) avq/\zW (dO d0 d1 s th op obj arg tries) avx:=by exact apO
abbrev avo:List SB:=[.eq (a0 12200 ua) (.lit 1),.eq (rr 12200 ua 0) (.lit 0)]
abbrev avv:List SB:=[]
theorem avc (H:TH d0 d1 s th op obj arg tries o c dn g r v) (V:L 12200 (dA d0 s r v th op obj arg tries o c dn g)=some (0::(dA d0 s r v th op obj arg tries o c dn g))):zY (dO d0 d1 s th op obj arg tries) avo/\zW (dO d0 d1 s th op obj arg tries) avv:=by exact aeE
abbrev avn:List SB:=[.eq (a0 12300 ua) (.lit 1),.eq (rr 12300 ua 0) (.lit 0)]
abbrev avu:List SB:=[]
theorem avb (H:TH d0 d1 s th op obj arg tries o c dn g r v) (V:L 12300 (dA d0 s r v th op obj arg tries o c dn g)=some (0::(dA d0 s r v th op obj arg tries o c dn g))):zY (dO d0 d1 s th op obj arg tries) avn/\zW (dO d0 d1 s th op obj arg tries) avu:=by exact aeE
end
end
section
variable {n:Nat} {r1:D}
theorem Ib (l m:List D):gq (dL l) m=gq (.i 2) m:=by
 cases m with
 |cons a m=>rfl
 |nil=>cases l<;>rfl
theorem Vi (d:D) (h:0<d.l.length):gq (gq d (d.l.take (1+((d.l.length:Int)-1)).toNat)) ((gq d (d.l.take (1+((d.l.length:Int)-1)).toNat)).l.drop (1:Int).toNat)=gq d (d.l.drop 1):=by rw [AI (fun e=>by rw [e]; rfl),bQ,awo J];rfl
theorem aoL (l:List D) (k:Nat) (hk:k<l.length) (R B:List D):((l.take k++(l.take l.length).drop (k+1)++B).take (l.length-1)++R).take (l.length-1)=l.take k++l.drop (k+1)\/B.length=0:=by
 grind
section
variable {d0 d1 s r v:D} {th op obj arg tries o c dn g:Int}
abbrev zt0:T Lf:=(sp (.eq (bX 3) (.dN 3)) tq (sp (.eq (rr 900 [bX 7,.dN 3] 0) (.lit 0)) (sp (.lt (bX 3) (.lit 0)) (kJ (bX 2) (mk (.dN 3)) (mk (bX 4)) bt (mk (bX 6)) (bX 7) (bX 8) (.lit 0) 2) ze) tq))
theorem sm0 (H:TH d0 d1 s th 1 obj arg tries o c dn g r v):dV (dO d0 d1 s th 1 obj arg tries) zt0=Gl d0 s th 1 obj arg tries o c dn g r v:=by exact NW
abbrev zt1:T Lf:=(sp (.eq (bX 3) (.dN 3)) (kJ (bX 2) (.eW (.i (-1))) (mk (bX 4)) bt (mk (bX 6)) (bX 7) (bX 8) (.lit 0) 2) tq)
theorem sm1 (H:TH d0 d1 s th 2 obj arg tries o c dn g r v):dV (dO d0 d1 s th 2 obj arg tries) zt1=Gl d0 s th 2 obj arg tries o c dn g r v:=by exact NW
theorem sm2 (H:TH d0 d1 s th 8 obj arg tries o c dn g r v):dV (dO d0 d1 s th 8 obj arg tries) zt1=Gl d0 s th 8 obj arg tries o c dn g r v:=by exact NW
abbrev zt2:T Lf:=(sp (.lt (bX 3) (.lit 0)) (kJ (bX 2) (mk (.dN 3)) (mk (bX 4)) bt (mk (bX 6)) (bX 7) (bX 8) (.lit 1) 2) (kJ (bX 2) (mk (bX 3)) (mk (bX 4)) bt (mk (bX 6)) (bX 7) (bX 8) (.lit 0) 2))
theorem sm3 (H:TH d0 d1 s th 3 obj arg tries o c dn g r v):dV (dO d0 d1 s th 3 obj arg tries) zt2=Gl d0 s th 3 obj arg tries o c dn g r v:=by exact NW
abbrev zt3:T Lf:=(sp (.lt (bX 3) (.lit 0)) (kJ (bX 2) (mk (.dN 3)) (mk (bX 4)) bt (mk (bX 6)) (bX 7) (bX 8) (.lit 1) 2) (sp (.lt (.dN 7) (.dN 6)) ze (kJ (bX 2) (mk (bX 3)) (mk (bX 4)) bt (mk (bX 6)) (bX 7) (bX 8) (.lit 0) 2)))
theorem sm4 (H:TH d0 d1 s th 4 obj arg tries o c dn g r v):dV (dO d0 d1 s th 4 obj arg tries) zt3=Gl d0 s th 4 obj arg tries o c dn g r v:=by exact NW
abbrev zt4:T Lf:=(sp (.eq (bX 3) (.dN 3)) tq (sp (.eq (rr 900 [bX 7,.dN 3] 0) (.lit 0)) (sp (.lt (bX 3) (.lit 0)) (kJ (bX 2) (mk (bX 3)) (mk (bX 4)) bt (mk (bX 6)) (.op .snoc (bX 7) (mk (.dN 3))) (bX 8) (.lit 0) 2) ze) tq))
theorem sm5 (H:TH d0 d1 s th 5 obj arg tries o c dn g r v) (hr:0<r.l.length):dV (dO d0 d1 s th 5 obj arg tries) zt4=Gl d0 s th 5 obj arg tries o c dn g r v:=by exact al5
abbrev zt5:T Lf:=tq
theorem sm6 (H:TH d0 d1 s th 6 obj arg tries o c dn g r v) (hk:place r th<0):dV (dO d0 d1 s th 6 obj arg tries) zt5=Gl d0 s th 6 obj arg tries o c dn g r v:=by
 have hb:=H.hb;simp only [zz,H.dK,H.qY,H.hR,H.hk,iA r th hb,hZ r th hb,hk,dP,Tu,mU,iK,iJ,gL,gK,dL,act,Int.reduceEq,Gl]<;>(repeat' split)<;>first |rfl|(exfalso; omega)
abbrev zt6:T Lf:=(kJ (bX 2) (mk (bX 3)) (mk (bX 4)) bt (mk (bX 6)) (.op .take kF kD) (bX 8) (.lit 0) 2)
theorem sm7 (H:TH d0 d1 s th 6 obj arg tries o c dn g r v) (hr:0<r.l.length) (hk: ¬place r th<0):dV (dO d0 d1 s th 6 obj arg tries) zt6=Gl d0 s th 6 obj arg tries o c dn g r v:=by
 have hb:=H.hb;rcases lE r th with ⟨hp,_⟩|⟨k,Dl,hp,_⟩
 ·grind
 have hw:IntKind.i64.wrap ((k:Int)+1)=(k:Int)+1:=fB J J;have e1:((k:Int)+1+((r.l.length:Int)-((k:Int)+1))).toNat=r.l.length:=J
 have e2:((k:Int)+((r.l.length:Int)-((k:Int)+1))).toNat=r.l.length-1:=J
 have e3:((k:Int)+1).toNat=k+1:=J
 have h0: ¬((k:Int)<0):=J
 have V:=fun R=>(aoL r.l k Dl R (r.l.drop (r.l.length-1))).resolve_right (by rw [bp]; omega);simp only [zz,H.dK,H.qY,H.hR,H.hk,iA r th hb,hZ r th hb,hp,hw,e1,e2,e3,h0,bQ,bF,aQ,V,Ib,dP,Tu,mU,iK,iJ,gL,gK,dL,act,Int.reduceEq,Gl]<;>(repeat' split)<;>first |rfl|(exfalso; omega)
abbrev zt7:T Lf:=(sp (.eq (bX 3) (.dN 3)) tq (sp (.eq (rr 900 [bX 7,.dN 3] 0) (.lit 0)) (sp (.eq (ln (bX 7)) (.lit 0)) (sp (.lt (bX 3) (.lit 0)) (kJ (bX 2) (mk (.dN 3)) (mk (bX 4)) bt (mk (bX 6)) (bX 7) (bX 8) (.lit 0) 2) ze) ze) tq))
theorem sm8 (H:TH d0 d1 s th 7 obj arg tries o c dn g r v) (hr:0<r.l.length):dV (dO d0 d1 s th 7 obj arg tries) zt7=Gl d0 s th 7 obj arg tries o c dn g r v:=by exact NW
abbrev zt8:T Lf:=(sp (.lt (.lit 0) (bX 4)) (kJ (bX 2) (mk (bX 3)) (mk (wr (.sub (bX 4) (.lit 1)))) bt (mk (bX 6)) (bX 7) (bX 8) (.lit 0) 2) ze)
theorem sm9 (H:TH d0 d1 s th 9 obj arg tries o c dn g r v):dV (dO d0 d1 s th 9 obj arg tries) zt8=Gl d0 s th 9 obj arg tries o c dn g r v:=by exact NW
abbrev zt9:T Lf:=(sp (.lt (.lit 0) (bX 4)) (kJ (bX 2) (mk (bX 3)) (mk (wr (.sub (bX 4) (.lit 1)))) bt (mk (bX 6)) (bX 7) (bX 8) (.lit 1) 2) (kJ (bX 2) (mk (bX 3)) (mk (bX 4)) bt (mk (bX 6)) (bX 7) (bX 8) (.lit 0) 2))
theorem atZ (H:TH d0 d1 s th 11 obj arg tries o c dn g r v):dV (dO d0 d1 s th 11 obj arg tries) zt9=Gl d0 s th 11 obj arg tries o c dn g r v:=by exact NW
abbrev apd:T Lf:=(sp (.lt (bX 4) Tb) (kJ (bX 2) (mk (bX 3)) (mk (wr (.add (bX 4) (.lit 1)))) bt (mk (bX 6)) (bX 7) (bX 8) (.lit 0) 2) tq)
theorem atY (H:TH d0 d1 s th 10 obj arg tries o c dn g r v):dV (dO d0 d1 s th 10 obj arg tries) apd=Gl d0 s th 10 obj arg tries o c dn g r v:=by exact NW
abbrev apc:T Lf:=(sp (.lt (.dN 6) (wr (.sub (.lit 0) (bX 4)))) tq (sp (.lt (wr (.sub (.lit 1099511627776) (bX 4))) (.dN 6)) tq (kJ (bX 2) (mk (bX 3)) (mk (wr (.add (bX 4) (.dN 6)))) bt (mk (bX 6)) (bX 7) (bX 8) (wr (.add (bX 4) (.dN 6))) 2)))
theorem atX (H:TH d0 d1 s th 17 obj arg tries o c dn g r v):dV (dO d0 d1 s th 17 obj arg tries) apc=Gl d0 s th 17 obj arg tries o c dn g r v:=by exact NW
abbrev apb:T Lf:=(sp (.lt (.lit 0) (bX 4)) (kJ (bX 2) (mk (bX 3)) (mk (wr (.sub (bX 4) (.lit 1)))) bt (mk (bX 6)) (bX 7) (bX 8) (wr (.sub (bX 4) (.lit 1))) 2) tq)
theorem atW (H:TH d0 d1 s th 18 obj arg tries o c dn g r v):dV (dO d0 d1 s th 18 obj arg tries) apb=Gl d0 s th 18 obj arg tries o c dn g r v:=by exact NW
abbrev apa:T Lf:=(sp (.eq (bX 4) (.lit 0)) (kJ (bX 2) (mk (bX 3)) (mk (bX 4)) bt (mk (bX 6)) (bX 7) (bX 8) (.lit 0) 2) ze)
theorem atV (H:TH d0 d1 s th 19 obj arg tries o c dn g r v):dV (dO d0 d1 s th 19 obj arg tries) apa=Gl d0 s th 19 obj arg tries o c dn g r v:=by exact NW
abbrev ao9:T Lf:=(kJ (bX 2) (mk (bX 3)) (mk (bX 4)) bt (mk (bX 6)) (bX 7) (bX 8) (bX 4) 2)
theorem atU (H:TH d0 d1 s th 22 obj arg tries o c dn g r v):dV (dO d0 d1 s th 22 obj arg tries) ao9=Gl d0 s th 22 obj arg tries o c dn g r v:=by exact NW
abbrev ao8:T Lf:=(kJ (bX 2) (mk (bX 3)) (mk (.dN 6)) bt (mk (bX 6)) (bX 7) (bX 8) (.dN 6) 2)
theorem atT (H:TH d0 d1 s th 23 obj arg tries o c dn g r v):dV (dO d0 d1 s th 23 obj arg tries) ao8=Gl d0 s th 23 obj arg tries o c dn g r v:=by exact NW
abbrev alO:T Lf:=(sp (.lt (ln (bX 8)) Tb) (kJ (bX 2) (mk (bX 3)) (mk (bX 4)) bt (mk (bX 6)) (bX 7) (.op .snoc (bX 8) (mk (.dN 6))) (.dN 6) 2) ze)
theorem aqV (H:TH d0 d1 s th 20 obj arg tries o c dn g r v) (hv:0<v.l.length):dV (dO d0 d1 s th 20 obj arg tries) alO=Gl d0 s th 20 obj arg tries o c dn g r v:=by exact al5
abbrev alN:T Lf:=(sp (.eq (ln (bX 8)) (.lit 0)) ze (kJ (bX 2) (mk (bX 3)) (mk (bX 4)) bt (mk (bX 6)) (bX 7) (.op .drop (.op .take (bX 8) (.add (.lit 1) (.sub (ln (bX 8)) (.lit 1)))) (.lit 1)) (nm (el (bX 8) (.lit 0))) 2))
theorem aqU (H:TH d0 d1 s th 21 obj arg tries o c dn g r v) (hv:0<v.l.length):dV (dO d0 d1 s th 21 obj arg tries) alN=Gl d0 s th 21 obj arg tries o c dn g r v:=by
 have hb:=H.hb;simp only [zz,H.dK,H.qY,H.hR,H.hk,iA r th hb,hZ r th hb,Vi v hv,dP,Tu,mU,iK,iJ,gL,gK,dL,act,Int.reduceEq,Gl]<;>(repeat' split)<;>first |rfl|(exfalso; omega)
abbrev alM:T Lf:=(sp (.eq (nm (ce 0 (el (bX 2) Tb))) (.dN 3)) (kJ (X7 (.eW (.i (-1)))) (mk (bX 3)) (mk (bX 4)) bt (mk (bX 6)) (.op .snoc (bX 7) (mk (.dN 3))) (bX 8) (.lit 0) 3) tq)
theorem aqT (H:TH d0 d1 s th 12 obj arg tries o c dn g r v) (hr:0<r.l.length) (hw:wo th r.l=r.l):dV (dO d0 d1 s th 12 obj arg tries) alM=Gl d0 s th 12 obj arg tries o c dn g r v:=by
 have hb:=H.hb;simp only [zz,H.dK,H.qY,H.hR,H.hk,iA r th hb,hZ r th hb,hw,bF,sK,ax,dP,Tu,mU,iK,iJ,gL,gK,dL,act,Int.reduceEq,Gl]<;>(repeat' split)<;>first |rfl|(exfalso; omega)
abbrev ao7:T Lf:=(sp (.eq (nm (ce 0 (el (bX 2) Tb))) (.dN 3)) (kJ (X7 (.eW (.i (-1)))) (mk (bX 3)) (mk (bX 4)) bt (mk (bX 6)) (.op .take (.op .cat (.op .cat (.op .take (rr 12000 ua 15) (rr 12000 ua 14)) (.op .snoc (.eW (.i 0)) (mk (.dN 3)))) (.op .drop (rr 12000 ua 15) (.add (rr 12000 ua 14) (.lit 1)))) (.add (rr 12000 ua 14) (.lit 1))) (bX 8) (.lit 0) 3) tq)
theorem atS (H:TH d0 d1 s th 12 obj arg tries o c dn g r v) (hr:0<r.l.length) (hv:0<v.l.length) (hn:n<r.l.length) (hl:r1.l.length=r.l.length) (hw:r1.l.take n=wo th r.l) (V:L 12000 (dA d0 s r v th 12 obj arg tries o c dn g)=some (1::((dA d0 s r v th 12 obj arg tries o c dn g)++ [(n:Int),enc r1,(r.l.length:Int)]))):dV (dO d0 d1 s th 12 obj arg tries) ao7=Gl d0 s th 12 obj arg tries o c dn g r v:=by
 have hb:=H.hb;have e3:((n:Int)+1).toNat=n+1:=J
 have hA: ∀B,(wo th r.l++ [D.i th]++B).take (n+1)=wo th r.l++ [.i th]:=fun B=>by
  grind
 have hB:wo th r.l++ [D.i th]≠[]:=ad
 simp only [zz,H.dK,H.qY,H.hR,H.hk,iA r th hb,hZ r th hb,V,aG,e3,ZT,bQ,bF,sK,ax,aQ,hw,hA,Ib,B9 hB,dP,Tu,mU,iK,iJ,gL,gK,dL,act,Int.reduceEq,Gl]<;>(repeat' split)<;>first |rfl|(exfalso; omega)
abbrev alL:T Lf:=(sp (.eq (ln (bX 7)) (.lit 0)) (kJ (bX 2) (mk (bX 3)) (mk (bX 4)) bt (mk (bX 6)) (bX 7) (bX 8) (.lit 0) 2) (kJ (bX 2) (mk (bX 3)) (mk (bX 4)) bt (mk (bX 6)) (.op .drop (.op .take (bX 7) (.add (.lit 1) (.sub (ln (bX 7)) (.lit 1)))) (.lit 1)) (bX 8) (wr (.add (nm (el (bX 7) (.lit 0))) (.lit 1))) 2))
theorem aqS (H:TH d0 d1 s th 13 obj arg tries o c dn g r v) (hr:0<r.l.length):dV (dO d0 d1 s th 13 obj arg tries) alL=Gl d0 s th 13 obj arg tries o c dn g r v:=by
 have hb:=H.hb;simp only [zz,H.dK,H.qY,H.hR,H.hk,iA r th hb,hZ r th hb,Vi r hr,sK,ax,dP,Tu,mU,iK,iJ,gL,gK,dL,act,Int.reduceEq,Gl]<;>(repeat' split)<;>first |rfl|(exfalso; omega)
abbrev alK:T Lf:=(kJ (bX 2) (mk (bX 3)) (mk (bX 4)) bt (mk (bX 6)) (.eW (.i 1)) (bX 8) (ln (bX 7)) 2)
theorem aqR (H:TH d0 d1 s th 14 obj arg tries o c dn g r v) (hr:0<r.l.length):dV (dO d0 d1 s th 14 obj arg tries) alK=Gl d0 s th 14 obj arg tries o c dn g r v:=by exact al5
abbrev g!:T Lf:=(sp (.eq (rr 900 [bX 7,.dN 3] 0) (.lit 0)) (sp (.lt (nm (ce 0 (el (bX 2) Tb))) (.lit 0)) (kJ (X7 (mk (.dN 3))) (mk (bX 3)) (mk (bX 4)) bt (mk (bX 6)) (bX 7) (bX 8) (.lit 0) 2) ze) ze)
theorem ae9 (H:TH d0 d1 s th 24 obj arg tries o c dn g r v):dV (dO d0 d1 s th 24 obj arg tries) g!=Gl d0 s th 24 obj arg tries o c dn g r v:=by
 have hb:=H.hb;simp only [zz,H.dK,H.qY,H.hR,H.hk,iA r th hb,hZ r th hb,bF,sK,ax,dP,Tu,mU,iK,iJ,gL,gK,dL,act,Int.reduceEq,Gl]<;>(repeat' split)<;>first |rfl|(exfalso; omega)
abbrev ao6:T Lf:=(sp (.lt (bX 6) (.lit 4611686018427387904)) (sp (.eq (wr (.add (bX 4) (.lit 1))) Tb) (kJ (bX 2) (mk (bX 3)) (.eW (.i 0)) bt (mk (wr (.add (bX 6) (.lit 1)))) (bX 7) (bX 8) (bX 6) 3) (kJ (bX 2) (mk (bX 3)) (mk (wr (.add (bX 4) (.lit 1)))) bt (mk (bX 6)) (bX 7) (bX 8) (bX 6) 3)) tq)
theorem atQ (H:TH d0 d1 s th 15 obj arg tries o c dn g r v):dV (dO d0 d1 s th 15 obj arg tries) ao6=Gl d0 s th 15 obj arg tries o c dn g r v:=by exact NW
abbrev ao5:T Lf:=(sp (.lt (.dN 6) (bX 6)) (kJ (bX 2) (mk (bX 3)) (mk (bX 4)) bt (mk (bX 6)) (bX 7) (bX 8) (.dN 6) 2) ze)
theorem atP (H:TH d0 d1 s th 25 obj arg tries o c dn g r v):dV (dO d0 d1 s th 25 obj arg tries) ao5=Gl d0 s th 25 obj arg tries o c dn g r v:=by exact NW
abbrev ao4:T Lf:=(sp (.eq (bX 5) (.lit 0)) (sp (.eq (bX 3) (.dN 3)) tq (sp (.lt (bX 3) (.lit 0)) (kJ (bX 2) (mk (.dN 3)) (mk (bX 4)) bt (mk (bX 6)) (bX 7) (bX 8) (.lit 1) 2) ze)) (kJ (bX 2) (mk (bX 3)) (mk (bX 4)) bt (mk (bX 6)) (bX 7) (bX 8) (.lit 0) 2))
theorem atO (H:TH d0 d1 s th 16 obj arg tries o c dn g r v):dV (dO d0 d1 s th 16 obj arg tries) ao4=Gl d0 s th 16 obj arg tries o c dn g r v:=by exact NW
abbrev ao3:T Lf:=(sp (.eq (bX 3) (.dN 3)) (kJ (bX 2) (.eW (.i (-1))) (mk (bX 4)) (.eW (.i 1)) (mk (bX 6)) (bX 7) (bX 8) (.lit 0) 2) tq)
theorem atN (H:TH d0 d1 s th 26 obj arg tries o c dn g r v):dV (dO d0 d1 s th 26 obj arg tries) ao3=Gl d0 s th 26 obj arg tries o c dn g r v:=by exact NW
abbrev alJ:T Lf:=(sp (.lt (.lit 0) Tb) (kJ (bX 2) (mk (bX 3)) (mk (bX 4)) bt (mk (bX 6)) (bX 7) (.op .snoc (.eW (.i 0)) (mk (.dN 6))) (.dN 6) 2) ze)
theorem aqQ (H:TH d0 d1 s th 20 obj arg tries o c dn g r v) (hv:v.l= []):dV (dO d0 d1 s th 20 obj arg tries) alJ=Gl d0 s th 20 obj arg tries o c dn g r v:=by
 have hb:=H.hb;have ZV:((0:Nat):Int)=0:=rfl;simp only [zz,H.dK,H.qY,H.hR,H.hk,iA r th hb,hZ r th hb,hv,bj,ax,ZV,sK,dP,Tu,mU,iK,iJ,gL,gK,dL,act,Int.reduceEq,Gl]<;>(repeat' split)<;>first |rfl|(exfalso; omega)
abbrev alI:T Lf:=ze
theorem aqP (H:TH d0 d1 s th 21 obj arg tries o c dn g r v) (hv:v.l= []):dV (dO d0 d1 s th 21 obj arg tries) alI=Gl d0 s th 21 obj arg tries o c dn g r v:=by
 have hb:=H.hb;have ZV:((0:Nat):Int)=0:=rfl;simp only [zz,H.dK,H.qY,H.hR,H.hk,iA r th hb,hZ r th hb,hv,bj,ax,ZV,dP,Tu,mU,iK,iJ,gL,gK,dL,act,Int.reduceEq,Gl]<;>(repeat' split)<;>first |rfl|(exfalso; omega)
abbrev ao2:T Lf:=(sp (.eq (nm (ce 0 (el (bX 2) Tb))) (.dN 3)) (kJ (X7 (.eW (.i (-1)))) (mk (bX 3)) (mk (bX 4)) bt (mk (bX 6)) (.op .take (.op .cat (.op .cat (.op .take (rr 12100 ua 15) (rr 12100 ua 14)) (.op .snoc (.eW (.i 0)) (mk (.dN 3)))) (.op .drop (rr 12100 ua 15) (.add (rr 12100 ua 14) (.lit 1)))) (.add (rr 12100 ua 14) (.lit 1))) (bX 8) (.lit 0) 3) tq)
theorem atM (H:TH d0 d1 s th 12 obj arg tries o c dn g r v) (hr:0<r.l.length) (hv:v.l= []) (hn:n<r.l.length) (hl:r1.l.length=r.l.length) (hw:r1.l.take n=wo th r.l) (V:L 12100 (dA d0 s r v th 12 obj arg tries o c dn g)=some (1::((dA d0 s r v th 12 obj arg tries o c dn g)++ [(n:Int),enc r1,(r.l.length:Int)]))):dV (dO d0 d1 s th 12 obj arg tries) ao2=Gl d0 s th 12 obj arg tries o c dn g r v:=by
 have hb:=H.hb;have ZV:((0:Nat):Int)=0:=rfl;have e3:((n:Int)+1).toNat=n+1:=J
 have hA: ∀B,(wo th r.l++ [D.i th]++B).take (n+1)=wo th r.l++ [.i th]:=fun B=>by
  grind
 have hB:wo th r.l++ [D.i th]≠[]:=ad
 simp only [zz,H.dK,H.qY,H.hR,H.hk,iA r th hb,hZ r th hb,hv,bj,ax,ZV,V,aG,e3,ZT,bQ,bF,sK,aQ,hw,hA,Ib,B9 hB,dP,Tu,mU,iK,iJ,gL,gK,dL,act,Int.reduceEq,Gl]<;>(repeat' split)<;>first |rfl|(exfalso; omega)
abbrev alH:T Lf:=(sp (.eq (bX 3) (.dN 3)) tq (sp (.eq (rr 900 [bX 7,.dN 3] 0) (.lit 0)) (sp (.lt (bX 3) (.lit 0)) (kJ (bX 2) (mk (bX 3)) (mk (bX 4)) bt (mk (bX 6)) (.op .snoc (.eW (.i 0)) (mk (.dN 3))) (bX 8) (.lit 0) 2) ze) tq))
theorem aqO (H:TH d0 d1 s th 5 obj arg tries o c dn g r v) (hr:r.l= []):dV (dO d0 d1 s th 5 obj arg tries) alH=Gl d0 s th 5 obj arg tries o c dn g r v:=by exact al7
theorem aqN (H:TH d0 d1 s th 7 obj arg tries o c dn g r v) (hr:r.l= []):dV (dO d0 d1 s th 7 obj arg tries) zt0=Gl d0 s th 7 obj arg tries o c dn g r v:=by
 have hb:=H.hb;have hz:((0:Nat):Int)=0:=rfl;simp only [zz,H.dK,H.qY,H.hR,H.hk,iA r th hb,hZ r th hb,hr,bj,ax,hz,dP,Tu,mU,iK,iJ,gL,gK,dL,act,Int.reduceEq,Gl]<;>(repeat' split)<;>first |rfl|(exfalso; omega)
abbrev alG:T Lf:=(sp (.eq (nm (ce 0 (el (bX 2) Tb))) (.dN 3)) (kJ (X7 (.eW (.i (-1)))) (mk (bX 3)) (mk (bX 4)) bt (mk (bX 6)) (.op .snoc (.eW (.i 0)) (mk (.dN 3))) (bX 8) (.lit 0) 3) tq)
theorem aqM (H:TH d0 d1 s th 12 obj arg tries o c dn g r v) (hr:r.l= []):dV (dO d0 d1 s th 12 obj arg tries) alG=Gl d0 s th 12 obj arg tries o c dn g r v:=by
 have hb:=H.hb;have hz:((0:Nat):Int)=0:=rfl;simp only [zz,H.dK,H.qY,H.hR,H.hk,iA r th hb,hZ r th hb,hr,bj,ax,hz,jr hr,bF,sK,dP,Tu,mU,iK,iJ,gL,gK,dL,act,Int.reduceEq,Gl]<;>(repeat' split)<;>first |rfl|(exfalso; omega)
abbrev alF:T Lf:=(kJ (bX 2) (mk (bX 3)) (mk (bX 4)) bt (mk (bX 6)) (bX 7) (bX 8) (.lit 0) 2)
theorem aqL (H:TH d0 d1 s th 13 obj arg tries o c dn g r v) (hr:r.l= []):dV (dO d0 d1 s th 13 obj arg tries) alF=Gl d0 s th 13 obj arg tries o c dn g r v:=by exact al7
abbrev alE:T Lf:=(kJ (bX 2) (mk (bX 3)) (mk (bX 4)) bt (mk (bX 6)) (.eW (.i 1)) (bX 8) (.lit 0) 2)
theorem aqK (H:TH d0 d1 s th 14 obj arg tries o c dn g r v) (hr:r.l= []):dV (dO d0 d1 s th 14 obj arg tries) alE=Gl d0 s th 14 obj arg tries o c dn g r v:=by exact al7
end
end
end Go.As.Try
end

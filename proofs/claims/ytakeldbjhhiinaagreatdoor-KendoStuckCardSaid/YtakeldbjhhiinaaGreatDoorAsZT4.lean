import Derived.Test.YtakeldbjhhiinaaGreatDoorAsZT3
set_option linter.unusedSectionVars false
set_option linter.unusedVariables false
set_option linter.unusedSimpArgs false
section
namespace Go.As.Try
open Go hiding Stat Spec shape
open Go.As
set_option maxRecDepth 100000
abbrev bt:SE:=.op .bit (mk (bH 5)) (.lit 0)
abbrev kW:SE:=wr (.add kK (.lit 1))
abbrev kL:SE:=.sub (ln (bH 7)) kW
abbrev kD:SE:=.add kK kL
abbrev kC:SE:=.op .cat (.op .cat (.op .take (bH 7) kK) (.op .drop (.op .take (bH 7) (.add kW kL)) kW)) (.op .drop (bH 7) kD)
abbrev kF:SE:=.op .fill kC (cn (mk kD) (.dat (.i 0)))
section
variable {d0 d1 s r v:D} {th op obj arg tries o c dn g:Int}
abbrev YG:List SB:=[.eq (a0 9000 [.aP 5,.aP 2]) (.lit 1),.eq (a0 350 [.aP 0,.aP 1,.aP 2]) (.lit 1),.eq (a0 600 [.aP 4]) (.lit 1),.eq (a0 550 [.aP 2]) (.lit 1),.eq (a0 900 [bH 7,.aP 3]) (.lit 1),.eq (a0 850 [bH 7,.aP 3]) (.lit 1),.lt (.aP 3) (ln (.aP 1)),.lt (.aP 5) (ln (.aP 0)),.lt (.aP 5) (ln (bH 2)),.eq (rr 600 [.aP 4] 0) (nm (ce 0 (el (.aP 0) (.aP 5)))),.lt (ln (bH 7)) (.lit 17592186044415),.lt (ln (bH 8)) (.lit 17592186044415)]
abbrev NG:List SB:=[.lt (.aP 5) (.lit 0),.eq (rr 350 [.aP 0,.aP 1,.aP 2] 0) (.lit 0),.lt (.aP 3) (.lit 0),.lt (ln (bH 7)) (ln (bH 7)),.lt (ln (bH 8)) (.add (.lit 1) (.sub (ln (bH 8)) (.lit 1))),.lt (ln (bH 7)) (.add (.lit 1) (.sub (ln (bH 7)) (.lit 1)))]
theorem fG (H:TH d0 d1 s th op obj arg tries o c dn g r v):zY (dI d0 d1 s th op obj arg tries) YG/\zW (dI d0 d1 s th op obj arg tries) NG:=by have hb:=H.hb;have h1:=H.Hu; have h2:=H.Ht; have h3:=H.AQ; have h4:=H.AP; have h5:=H.hlen; have h6:=H.hr; have h7:=H.hv; have hp:=jF r th;simp only [zz,H.hcp,H.jR,H.hR,H.hk,has_is r th hb,dM r th hb]<;>omega
abbrev YA3:List SB:=[.eq (bH 0) (.lit 3)]
abbrev NA3:List SB:=[.eq (bH 0) (.lit 0),.eq (bH 0) (.lit 1),.eq (bH 0) (.lit 2),.eq (bH 0) (.lit 4),.eq (bH 0) (.lit 5),.eq (bH 0) (.lit 6),.lt (.sub (ln (bH 7)) (.lit 1)) (.lit 0),.lt (.sub (ln (bH 8)) (.lit 1)) (.lit 0)]
theorem fA3 (H:TH d0 d1 s th op obj arg tries o c dn g r v) (hr:0<r.l.length) (hv:0<v.l.length):zY (dI d0 d1 s th op obj arg tries) YA3/\zW (dI d0 d1 s th op obj arg tries) NA3:=by have hb:=H.hb;have h1:=H.Hu; have h2:=H.Ht; have h3:=H.AQ; have h4:=H.AP; have h5:=H.hlen; have h6:=H.hr; have h7:=H.hv; have hp:=jF r th;simp only [zz,H.hcp,H.jR,H.hR,H.hk,has_is r th hb,dM r th hb,alt3 hr hv]<;>omega
abbrev YA4:List SB:=[.eq (bH 0) (.lit 4)]
abbrev NA4:List SB:=[.eq (bH 0) (.lit 0),.eq (bH 0) (.lit 1),.eq (bH 0) (.lit 2),.eq (bH 0) (.lit 3),.eq (bH 0) (.lit 5),.eq (bH 0) (.lit 6),.lt (.sub (ln (bH 7)) (.lit 1)) (.lit 0)]
theorem fA4 (H:TH d0 d1 s th op obj arg tries o c dn g r v) (hr:0<r.l.length) (hv:v.l= []):zY (dI d0 d1 s th op obj arg tries) YA4/\zW (dI d0 d1 s th op obj arg tries) NA4:=by have hb:=H.hb;have h1:=H.Hu; have h2:=H.Ht; have h3:=H.AQ; have h4:=H.AP; have h5:=H.hlen; have h6:=H.hr; have h7:=H.hv; have hp:=jF r th;simp only [zz,H.hcp,H.jR,H.hR,H.hk,has_is r th hb,dM r th hb,aIN hr hv]<;>omega
abbrev YA5:List SB:=[.eq (bH 0) (.lit 5),.lt kK (.lit 0)]
abbrev NA5:List SB:=[.eq (bH 0) (.lit 0),.eq (bH 0) (.lit 1),.eq (bH 0) (.lit 2),.eq (bH 0) (.lit 3),.eq (bH 0) (.lit 4),.eq (bH 0) (.lit 6),.lt (.sub (ln (bH 8)) (.lit 1)) (.lit 0)]
theorem fA5 (H:TH d0 d1 s th op obj arg tries o c dn g r v) (hr:r.l= []) (hv:0<v.l.length):zY (dI d0 d1 s th op obj arg tries) YA5/\zW (dI d0 d1 s th op obj arg tries) NA5:=by have hb:=H.hb;have h1:=H.Hu; have h2:=H.Ht; have h3:=H.AQ; have h4:=H.AP; have h5:=H.hlen; have h6:=H.hr; have h7:=H.hv; have hp:=jF r th;simp only [zz,H.hcp,H.jR,H.hR,H.hk,has_is r th hb,dM r th hb,aIM hr hv,D5 hr]<;>omega
abbrev YA6:List SB:=[.eq (bH 0) (.lit 6),.lt kK (.lit 0)]
abbrev NA6:List SB:=[.eq (bH 0) (.lit 0),.eq (bH 0) (.lit 1),.eq (bH 0) (.lit 2),.eq (bH 0) (.lit 3),.eq (bH 0) (.lit 4),.eq (bH 0) (.lit 5)]
theorem fA6 (H:TH d0 d1 s th op obj arg tries o c dn g r v) (hr:r.l= []) (hv:v.l= []):zY (dI d0 d1 s th op obj arg tries) YA6/\zW (dI d0 d1 s th op obj arg tries) NA6:=by have hb:=H.hb;have h1:=H.Hu; have h2:=H.Ht; have h3:=H.AQ; have h4:=H.AP; have h5:=H.hlen; have h6:=H.hr; have h7:=H.hv; have hp:=jF r th;simp only [zz,H.hcp,H.jR,H.hR,H.hk,has_is r th hb,dM r th hb,aIL hr hv,D5 hr]<;>omega
abbrev YM:List SB:=[.lt mtx (ln (bH 2))]
abbrev NM:List SB:=[.lt mtx (.lit 0),.eq mtx (.aP 5)]
theorem fM (H:TH d0 d1 s th op obj arg tries o c dn g r v) (ho:op=12\/op=24):zY (dI d0 d1 s th op obj arg tries) YM/\zW (dI d0 d1 s th op obj arg tries) NM:=by have hb:=H.hb;have h1:=H.Hu; have h2:=H.Ht; have h3:=H.AQ; have h4:=H.AP; have h5:=H.hlen; have h6:=H.hr; have h7:=H.hv; have hp:=jF r th; have hm:=H.hM ho;simp only [zz,H.hcp,H.jR,H.hR,H.hk,has_is r th hb,dM r th hb]<;>omega
abbrev YK0:List SB:=[.lt kK (.lit 0)]
abbrev NK0:List SB:=[]
theorem fK0 (H:TH d0 d1 s th op obj arg tries o c dn g r v) (hk:place r th<0):zY (dI d0 d1 s th op obj arg tries) YK0/\zW (dI d0 d1 s th op obj arg tries) NK0:=by have hb:=H.hb;have h1:=H.Hu; have h2:=H.Ht; have h3:=H.AQ; have h4:=H.AP; have h5:=H.hlen; have h6:=H.hr; have h7:=H.hv; have hp:=jF r th;simp only [zz,H.hcp,H.jR,H.hR,H.hk,has_is r th hb,dM r th hb]<;>omega
abbrev YK1:List SB:=[.lt kD (ln (bH 7)),.eq (.add kD (.sub (ln (bH 7)) kD)) (ln kC)]
abbrev NK1:List SB:=[.lt kK (.lit 0),.lt kW kK,.lt (ln (bH 7)) kW,.eq kK kW,.lt (ln (bH 7)) kK,.lt kW (.lit 0),.lt kL (.lit 0),.lt (ln (bH 7)) (.add kW kL),.lt (ln (bH 7)) kD,.lt kD (.lit 0),.lt (ln kC) (ln (bH 7)),.lt (.sub (ln (bH 7)) kD) (.lit 0),.lt (ln kF) kD]
theorem fK1 (H:TH d0 d1 s th op obj arg tries o c dn g r v) (hk: ¬place r th<0):zY (dI d0 d1 s th op obj arg tries) YK1/\zW (dI d0 d1 s th op obj arg tries) NK1:=by have hb:=H.hb;have h1:=H.Hu; have h2:=H.Ht; have h3:=H.AQ; have h4:=H.AP; have h5:=H.hlen; have h6:=H.hr; have h7:=H.hv; have hp:=jF r th; have hw:IntKind.i64.wrap (place r th+1)=place r th+1:=mY (by omega) (by omega);simp only [zz,H.hcp,H.jR,H.hR,H.hk,has_is r th hb,dM r th hb,jC,aW,aJy,aJB,aJQ,aKr,hw]<;>omega
abbrev dA (d0 s r v:D) (th op obj arg tries o c dn g:Int):List Int:=[enc r,th,obj,Mx d0 obj,enc (dL (dY s.l (Mx d0 obj) (dL (dY (s.at (Mx d0 obj)).l 0 (.i (-1)))))),op,arg,tries,o,c,dn,g,enc v]
abbrev aIS:List SB:=[.eq (a0 12000 yK) (.lit 1),.eq (rr 12000 yK 0) (.lit 0)]
abbrev aIZ:List SB:=[]
theorem aIH (H:TH d0 d1 s th op obj arg tries o c dn g r v) (hd:L 12000 (dA d0 s r v th op obj arg tries o c dn g)=some (0::(dA d0 s r v th op obj arg tries o c dn g))):zY (dI d0 d1 s th op obj arg tries) aIS/\zW (dI d0 d1 s th op obj arg tries) aIZ:=by have hb:=H.hb;have h1:=H.Hu; have h2:=H.Ht; have h3:=H.AQ; have h4:=H.AP; have h5:=H.hlen; have h6:=H.hr; have h7:=H.hv; have hp:=jF r th;simp only [zz,H.hcp,H.jR,H.hR,H.hk,has_is r th hb,dM r th hb,hd]<;>omega
abbrev aIT:List SB:=[.eq (a0 12000 yK) (.lit 1),.eq (rr 12000 yK 0) (.lit 1)]
abbrev aI0:List SB:=[.eq (rr 12000 yK 0) (.lit 0),.lt (rr 12000 yK 14) (.lit 0),.lt (ln (rr 12000 yK 15)) (.add (rr 12000 yK 14) (.lit 1)),.lt (.add (rr 12000 yK 14) (.lit 1)) (.lit 0),.lt (ln (.op .cat (.op .cat (.op .take (rr 12000 yK 15) (rr 12000 yK 14)) (.op .snoc (.dat (.i 0)) (mk (.aP 3)))) (.op .drop (rr 12000 yK 15) (.add (rr 12000 yK 14) (.lit 1))))) (.add (rr 12000 yK 14) (.lit 1))]
theorem aII (H:TH d0 d1 s th op obj arg tries o c dn g r v) {n:Nat} {r1:D} (hn:n<r.l.length) (hl:r1.l.length=r.l.length) (hd:L 12000 (dA d0 s r v th op obj arg tries o c dn g)=some (1::((dA d0 s r v th op obj arg tries o c dn g)++ [(n:Int),enc r1,(r.l.length:Int)]))):zY (dI d0 d1 s th op obj arg tries) aIT/\zW (dI d0 d1 s th op obj arg tries) aI0:=by have hb:=H.hb;have h1:=H.Hu; have h2:=H.Ht; have h3:=H.AQ; have h4:=H.AP; have h5:=H.hlen; have h6:=H.hr; have h7:=H.hv; have hp:=jF r th;simp only [zz,H.hcp,H.jR,H.hR,H.hk,has_is r th hb,dM r th hb,hd,jC,aW,wX,aJv,aJo,aJy,aJB,aJQ,aJr,aJt]<;>omega
abbrev aIQ:List SB:=[.eq (a0 12100 yK) (.lit 1),.eq (rr 12100 yK 0) (.lit 0)]
abbrev aIX:List SB:=[]
theorem aIF (H:TH d0 d1 s th op obj arg tries o c dn g r v) (hd:L 12100 (dA d0 s r v th op obj arg tries o c dn g)=some (0::(dA d0 s r v th op obj arg tries o c dn g))):zY (dI d0 d1 s th op obj arg tries) aIQ/\zW (dI d0 d1 s th op obj arg tries) aIX:=by have hb:=H.hb;have h1:=H.Hu; have h2:=H.Ht; have h3:=H.AQ; have h4:=H.AP; have h5:=H.hlen; have h6:=H.hr; have h7:=H.hv; have hp:=jF r th;simp only [zz,H.hcp,H.jR,H.hR,H.hk,has_is r th hb,dM r th hb,hd]<;>omega
abbrev aIR:List SB:=[.eq (a0 12100 yK) (.lit 1),.eq (rr 12100 yK 0) (.lit 1)]
abbrev aIY:List SB:=[.eq (rr 12100 yK 0) (.lit 0),.lt (rr 12100 yK 14) (.lit 0),.lt (ln (rr 12100 yK 15)) (.add (rr 12100 yK 14) (.lit 1)),.lt (.add (rr 12100 yK 14) (.lit 1)) (.lit 0),.lt (ln (.op .cat (.op .cat (.op .take (rr 12100 yK 15) (rr 12100 yK 14)) (.op .snoc (.dat (.i 0)) (mk (.aP 3)))) (.op .drop (rr 12100 yK 15) (.add (rr 12100 yK 14) (.lit 1))))) (.add (rr 12100 yK 14) (.lit 1))]
theorem aIG (H:TH d0 d1 s th op obj arg tries o c dn g r v) {n:Nat} {r1:D} (hn:n<r.l.length) (hl:r1.l.length=r.l.length) (hd:L 12100 (dA d0 s r v th op obj arg tries o c dn g)=some (1::((dA d0 s r v th op obj arg tries o c dn g)++ [(n:Int),enc r1,(r.l.length:Int)]))):zY (dI d0 d1 s th op obj arg tries) aIR/\zW (dI d0 d1 s th op obj arg tries) aIY:=by have hb:=H.hb;have h1:=H.Hu; have h2:=H.Ht; have h3:=H.AQ; have h4:=H.AP; have h5:=H.hlen; have h6:=H.hr; have h7:=H.hv; have hp:=jF r th;simp only [zz,H.hcp,H.jR,H.hR,H.hk,has_is r th hb,dM r th hb,hd,jC,aW,wX,aJv,aJo,aJy,aJB,aJQ,aJr,aJt]<;>omega
abbrev aIP:List SB:=[.eq (a0 12200 yK) (.lit 1),.eq (rr 12200 yK 0) (.lit 0)]
abbrev aIW:List SB:=[]
theorem aIE (H:TH d0 d1 s th op obj arg tries o c dn g r v) (hd:L 12200 (dA d0 s r v th op obj arg tries o c dn g)=some (0::(dA d0 s r v th op obj arg tries o c dn g))):zY (dI d0 d1 s th op obj arg tries) aIP/\zW (dI d0 d1 s th op obj arg tries) aIW:=by have hb:=H.hb;have h1:=H.Hu; have h2:=H.Ht; have h3:=H.AQ; have h4:=H.AP; have h5:=H.hlen; have h6:=H.hr; have h7:=H.hv; have hp:=jF r th;simp only [zz,H.hcp,H.jR,H.hR,H.hk,has_is r th hb,dM r th hb,hd]<;>omega
abbrev aIO:List SB:=[.eq (a0 12300 yK) (.lit 1),.eq (rr 12300 yK 0) (.lit 0)]
abbrev aIV:List SB:=[]
theorem aID (H:TH d0 d1 s th op obj arg tries o c dn g r v) (hd:L 12300 (dA d0 s r v th op obj arg tries o c dn g)=some (0::(dA d0 s r v th op obj arg tries o c dn g))):zY (dI d0 d1 s th op obj arg tries) aIO/\zW (dI d0 d1 s th op obj arg tries) aIV:=by have hb:=H.hb;have h1:=H.Hu; have h2:=H.Ht; have h3:=H.AQ; have h4:=H.AP; have h5:=H.hlen; have h6:=H.hr; have h7:=H.hv; have hp:=jF r th;simp only [zz,H.hcp,H.jR,H.hR,H.hk,has_is r th hb,dM r th hb,hd]<;>omega
end
theorem PZ (l m:List D):fJ (dL l) m=fJ (.i 2) m:=by
 cases m with
 |cons a m=>rfl
 |nil=>cases l<;>rfl
theorem aeI (d:D) (h:0<d.l.length):fJ (fJ d (d.l.take (1+((d.l.length:Int)-1)).toNat)) ((fJ d (d.l.take (1+((d.l.length:Int)-1)).toNat)).l.drop (1:Int).toNat)=fJ d (d.l.drop 1):=by rw [F5 (fun e=>by rw [e]; rfl),jC,aKg (by omega)];rfl
theorem aFv (l:List D) (k:Nat) (hk:k<l.length) (R B:List D):((l.take k++(l.take l.length).drop (k+1)++B).take (l.length-1)++R).take (l.length-1)=l.take k++l.drop (k+1)\/B.length=0:=by
 by_cases hB:B.length=0
 ·exact .inr hB
 ·left;have e:(l.take k++(l.take l.length).drop (k+1)).length=l.length-1:=by simp only [aJy,aJB,aJQ]; omega
  rw [aKJ (by rw [aJB,aJy,e]; omega),aKW,aLN,aKJ (by omega),aKg (by omega),aKV]
section
variable {d0 d1 s r v:D} {th op obj arg tries o c dn g:Int}
abbrev zt0:T Lf:=(sp (.eq (bH 3) (.aP 3)) yB (sp (.eq (rr 900 [bH 7,.aP 3] 0) (.lit 0)) (sp (.lt (bH 3) (.lit 0)) (nD (bH 2) (mk (.aP 3)) (mk (bH 4)) bt (mk (bH 6)) (bH 7) (bH 8) (.lit 0) 2) EG) yB))
theorem sm0 (H:TH d0 d1 s th 1 obj arg tries o c dn g r v):dX (dI d0 d1 s th 1 obj arg tries) zt0=Gl d0 s th 1 obj arg tries o c dn g r v:=by
 have hb:=H.hb;simp only [zz,H.hcp,H.jR,H.hR,H.hk,has_is r th hb,dM r th hb,aC,BO,fH,dH,dG,bV,bU,dL,act,Int.reduceEq,Gl]<;>(repeat' split)<;>first |rfl|(exfalso; omega)
abbrev zt1:T Lf:=(sp (.eq (bH 3) (.aP 3)) (nD (bH 2) (.dat (.i (-1))) (mk (bH 4)) bt (mk (bH 6)) (bH 7) (bH 8) (.lit 0) 2) yB)
theorem sm1 (H:TH d0 d1 s th 2 obj arg tries o c dn g r v):dX (dI d0 d1 s th 2 obj arg tries) zt1=Gl d0 s th 2 obj arg tries o c dn g r v:=by
 have hb:=H.hb;simp only [zz,H.hcp,H.jR,H.hR,H.hk,has_is r th hb,dM r th hb,aC,BO,fH,dH,dG,bV,bU,dL,act,Int.reduceEq,Gl]<;>(repeat' split)<;>first |rfl|(exfalso; omega)
theorem sm2 (H:TH d0 d1 s th 8 obj arg tries o c dn g r v):dX (dI d0 d1 s th 8 obj arg tries) zt1=Gl d0 s th 8 obj arg tries o c dn g r v:=by
 have hb:=H.hb;simp only [zz,H.hcp,H.jR,H.hR,H.hk,has_is r th hb,dM r th hb,aC,BO,fH,dH,dG,bV,bU,dL,act,Int.reduceEq,Gl]<;>(repeat' split)<;>first |rfl|(exfalso; omega)
abbrev zt2:T Lf:=(sp (.lt (bH 3) (.lit 0)) (nD (bH 2) (mk (.aP 3)) (mk (bH 4)) bt (mk (bH 6)) (bH 7) (bH 8) (.lit 1) 2) (nD (bH 2) (mk (bH 3)) (mk (bH 4)) bt (mk (bH 6)) (bH 7) (bH 8) (.lit 0) 2))
theorem sm3 (H:TH d0 d1 s th 3 obj arg tries o c dn g r v):dX (dI d0 d1 s th 3 obj arg tries) zt2=Gl d0 s th 3 obj arg tries o c dn g r v:=by
 have hb:=H.hb;simp only [zz,H.hcp,H.jR,H.hR,H.hk,has_is r th hb,dM r th hb,aC,BO,fH,dH,dG,bV,bU,dL,act,Int.reduceEq,Gl]<;>(repeat' split)<;>first |rfl|(exfalso; omega)
abbrev zt3:T Lf:=(sp (.lt (bH 3) (.lit 0)) (nD (bH 2) (mk (.aP 3)) (mk (bH 4)) bt (mk (bH 6)) (bH 7) (bH 8) (.lit 1) 2) (sp (.lt (.aP 7) (.aP 6)) EG (nD (bH 2) (mk (bH 3)) (mk (bH 4)) bt (mk (bH 6)) (bH 7) (bH 8) (.lit 0) 2)))
theorem sm4 (H:TH d0 d1 s th 4 obj arg tries o c dn g r v):dX (dI d0 d1 s th 4 obj arg tries) zt3=Gl d0 s th 4 obj arg tries o c dn g r v:=by
 have hb:=H.hb;simp only [zz,H.hcp,H.jR,H.hR,H.hk,has_is r th hb,dM r th hb,aC,BO,fH,dH,dG,bV,bU,dL,act,Int.reduceEq,Gl]<;>(repeat' split)<;>first |rfl|(exfalso; omega)
abbrev zt4:T Lf:=(sp (.eq (bH 3) (.aP 3)) yB (sp (.eq (rr 900 [bH 7,.aP 3] 0) (.lit 0)) (sp (.lt (bH 3) (.lit 0)) (nD (bH 2) (mk (bH 3)) (mk (bH 4)) bt (mk (bH 6)) (.op .snoc (bH 7) (mk (.aP 3))) (bH 8) (.lit 0) 2) EG) yB))
theorem sm5 (H:TH d0 d1 s th 5 obj arg tries o c dn g r v) (hr:0<r.l.length):dX (dI d0 d1 s th 5 obj arg tries) zt4=Gl d0 s th 5 obj arg tries o c dn g r v:=by
 have hb:=H.hb;simp only [zz,H.hcp,H.jR,H.hR,H.hk,has_is r th hb,dM r th hb,wX,aJo,aC,BO,fH,dH,dG,bV,bU,dL,act,Int.reduceEq,Gl]<;>(repeat' split)<;>first |rfl|(exfalso; omega)
abbrev zt5:T Lf:=yB
theorem sm6 (H:TH d0 d1 s th 6 obj arg tries o c dn g r v) (hk:place r th<0):dX (dI d0 d1 s th 6 obj arg tries) zt5=Gl d0 s th 6 obj arg tries o c dn g r v:=by
 have hb:=H.hb;simp only [zz,H.hcp,H.jR,H.hR,H.hk,has_is r th hb,dM r th hb,hk,aC,BO,fH,dH,dG,bV,bU,dL,act,Int.reduceEq,Gl]<;>(repeat' split)<;>first |rfl|(exfalso; omega)
abbrev zt6:T Lf:=(nD (bH 2) (mk (bH 3)) (mk (bH 4)) bt (mk (bH 6)) (.op .take kF kD) (bH 8) (.lit 0) 2)
theorem sm7 (H:TH d0 d1 s th 6 obj arg tries o c dn g r v) (hr:0<r.l.length) (hk: ¬place r th<0):dX (dI d0 d1 s th 6 obj arg tries) zt6=Gl d0 s th 6 obj arg tries o c dn g r v:=by
 have hb:=H.hb;rcases tZ r th with ⟨hp,_⟩|⟨k,hkl,hp,_⟩
 ·exact absurd hk (by rw [hp]; omega)
 have hw:IntKind.i64.wrap ((k:Int)+1)=(k:Int)+1:=mY (by omega) (by omega);have e1:((k:Int)+1+((r.l.length:Int)-((k:Int)+1))).toNat=r.l.length:=by omega
 have e2:((k:Int)+((r.l.length:Int)-((k:Int)+1))).toNat=r.l.length-1:=by omega
 have e3:((k:Int)+1).toNat=k+1:=by omega
 have h0: ¬((k:Int)<0):=by omega
 have hd:=fun R=>(aFv r.l k hkl R (r.l.drop (r.l.length-1))).resolve_right (by rw [aJQ]; omega);simp only [zz,H.hcp,H.jR,H.hR,H.hk,has_is r th hb,dM r th hb,hp,hw,e1,e2,e3,h0,jC,aW,aJJ,hd,PZ,aC,BO,fH,dH,dG,bV,bU,dL,act,Int.reduceEq,Gl]<;>(repeat' split)<;>first |rfl|(exfalso; omega)
abbrev zt7:T Lf:=(sp (.eq (bH 3) (.aP 3)) yB (sp (.eq (rr 900 [bH 7,.aP 3] 0) (.lit 0)) (sp (.eq (ln (bH 7)) (.lit 0)) (sp (.lt (bH 3) (.lit 0)) (nD (bH 2) (mk (.aP 3)) (mk (bH 4)) bt (mk (bH 6)) (bH 7) (bH 8) (.lit 0) 2) EG) EG) yB))
theorem sm8 (H:TH d0 d1 s th 7 obj arg tries o c dn g r v) (hr:0<r.l.length):dX (dI d0 d1 s th 7 obj arg tries) zt7=Gl d0 s th 7 obj arg tries o c dn g r v:=by
 have hb:=H.hb;simp only [zz,H.hcp,H.jR,H.hR,H.hk,has_is r th hb,dM r th hb,aC,BO,fH,dH,dG,bV,bU,dL,act,Int.reduceEq,Gl]<;>(repeat' split)<;>first |rfl|(exfalso; omega)
abbrev zt8:T Lf:=(sp (.lt (.lit 0) (bH 4)) (nD (bH 2) (mk (bH 3)) (mk (wr (.sub (bH 4) (.lit 1)))) bt (mk (bH 6)) (bH 7) (bH 8) (.lit 0) 2) EG)
theorem sm9 (H:TH d0 d1 s th 9 obj arg tries o c dn g r v):dX (dI d0 d1 s th 9 obj arg tries) zt8=Gl d0 s th 9 obj arg tries o c dn g r v:=by
 have hb:=H.hb;simp only [zz,H.hcp,H.jR,H.hR,H.hk,has_is r th hb,dM r th hb,aC,BO,fH,dH,dG,bV,bU,dL,act,Int.reduceEq,Gl]<;>(repeat' split)<;>first |rfl|(exfalso; omega)
abbrev zt9:T Lf:=(sp (.lt (.lit 0) (bH 4)) (nD (bH 2) (mk (bH 3)) (mk (wr (.sub (bH 4) (.lit 1)))) bt (mk (bH 6)) (bH 7) (bH 8) (.lit 1) 2) (nD (bH 2) (mk (bH 3)) (mk (bH 4)) bt (mk (bH 6)) (bH 7) (bH 8) (.lit 0) 2))
theorem aIb (H:TH d0 d1 s th 11 obj arg tries o c dn g r v):dX (dI d0 d1 s th 11 obj arg tries) zt9=Gl d0 s th 11 obj arg tries o c dn g r v:=by
 have hb:=H.hb;simp only [zz,H.hcp,H.jR,H.hR,H.hk,has_is r th hb,dM r th hb,aC,BO,fH,dH,dG,bV,bU,dL,act,Int.reduceEq,Gl]<;>(repeat' split)<;>first |rfl|(exfalso; omega)
abbrev aFK:T Lf:=(sp (.lt (bH 4) mtx) (nD (bH 2) (mk (bH 3)) (mk (wr (.add (bH 4) (.lit 1)))) bt (mk (bH 6)) (bH 7) (bH 8) (.lit 0) 2) yB)
theorem aIa (H:TH d0 d1 s th 10 obj arg tries o c dn g r v):dX (dI d0 d1 s th 10 obj arg tries) aFK=Gl d0 s th 10 obj arg tries o c dn g r v:=by
 have hb:=H.hb;simp only [zz,H.hcp,H.jR,H.hR,H.hk,has_is r th hb,dM r th hb,aC,BO,fH,dH,dG,bV,bU,dL,act,Int.reduceEq,Gl]<;>(repeat' split)<;>first |rfl|(exfalso; omega)
abbrev aFJ:T Lf:=(sp (.lt (.aP 6) (wr (.sub (.lit 0) (bH 4)))) yB (sp (.lt (wr (.sub (.lit 1099511627776) (bH 4))) (.aP 6)) yB (nD (bH 2) (mk (bH 3)) (mk (wr (.add (bH 4) (.aP 6)))) bt (mk (bH 6)) (bH 7) (bH 8) (wr (.add (bH 4) (.aP 6))) 2)))
theorem aH9 (H:TH d0 d1 s th 17 obj arg tries o c dn g r v):dX (dI d0 d1 s th 17 obj arg tries) aFJ=Gl d0 s th 17 obj arg tries o c dn g r v:=by
 have hb:=H.hb;simp only [zz,H.hcp,H.jR,H.hR,H.hk,has_is r th hb,dM r th hb,aC,BO,fH,dH,dG,bV,bU,dL,act,Int.reduceEq,Gl]<;>(repeat' split)<;>first |rfl|(exfalso; omega)
abbrev aFI:T Lf:=(sp (.lt (.lit 0) (bH 4)) (nD (bH 2) (mk (bH 3)) (mk (wr (.sub (bH 4) (.lit 1)))) bt (mk (bH 6)) (bH 7) (bH 8) (wr (.sub (bH 4) (.lit 1))) 2) yB)
theorem aH8 (H:TH d0 d1 s th 18 obj arg tries o c dn g r v):dX (dI d0 d1 s th 18 obj arg tries) aFI=Gl d0 s th 18 obj arg tries o c dn g r v:=by
 have hb:=H.hb;simp only [zz,H.hcp,H.jR,H.hR,H.hk,has_is r th hb,dM r th hb,aC,BO,fH,dH,dG,bV,bU,dL,act,Int.reduceEq,Gl]<;>(repeat' split)<;>first |rfl|(exfalso; omega)
abbrev aFH:T Lf:=(sp (.eq (bH 4) (.lit 0)) (nD (bH 2) (mk (bH 3)) (mk (bH 4)) bt (mk (bH 6)) (bH 7) (bH 8) (.lit 0) 2) EG)
theorem aH7 (H:TH d0 d1 s th 19 obj arg tries o c dn g r v):dX (dI d0 d1 s th 19 obj arg tries) aFH=Gl d0 s th 19 obj arg tries o c dn g r v:=by
 have hb:=H.hb;simp only [zz,H.hcp,H.jR,H.hR,H.hk,has_is r th hb,dM r th hb,aC,BO,fH,dH,dG,bV,bU,dL,act,Int.reduceEq,Gl]<;>(repeat' split)<;>first |rfl|(exfalso; omega)
abbrev aFG:T Lf:=(nD (bH 2) (mk (bH 3)) (mk (bH 4)) bt (mk (bH 6)) (bH 7) (bH 8) (bH 4) 2)
theorem aH6 (H:TH d0 d1 s th 22 obj arg tries o c dn g r v):dX (dI d0 d1 s th 22 obj arg tries) aFG=Gl d0 s th 22 obj arg tries o c dn g r v:=by
 have hb:=H.hb;simp only [zz,H.hcp,H.jR,H.hR,H.hk,has_is r th hb,dM r th hb,aC,BO,fH,dH,dG,bV,bU,dL,act,Int.reduceEq,Gl]<;>(repeat' split)<;>first |rfl|(exfalso; omega)
abbrev aFF:T Lf:=(nD (bH 2) (mk (bH 3)) (mk (.aP 6)) bt (mk (bH 6)) (bH 7) (bH 8) (.aP 6) 2)
theorem aH5 (H:TH d0 d1 s th 23 obj arg tries o c dn g r v):dX (dI d0 d1 s th 23 obj arg tries) aFF=Gl d0 s th 23 obj arg tries o c dn g r v:=by
 have hb:=H.hb;simp only [zz,H.hcp,H.jR,H.hR,H.hk,has_is r th hb,dM r th hb,aC,BO,fH,dH,dG,bV,bU,dL,act,Int.reduceEq,Gl]<;>(repeat' split)<;>first |rfl|(exfalso; omega)
abbrev aDq:T Lf:=(sp (.lt (ln (bH 8)) mtx) (nD (bH 2) (mk (bH 3)) (mk (bH 4)) bt (mk (bH 6)) (bH 7) (.op .snoc (bH 8) (mk (.aP 6))) (.aP 6) 2) EG)
theorem aGa (H:TH d0 d1 s th 20 obj arg tries o c dn g r v) (hv:0<v.l.length):dX (dI d0 d1 s th 20 obj arg tries) aDq=Gl d0 s th 20 obj arg tries o c dn g r v:=by
 have hb:=H.hb;simp only [zz,H.hcp,H.jR,H.hR,H.hk,has_is r th hb,dM r th hb,wX,aJo,aC,BO,fH,dH,dG,bV,bU,dL,act,Int.reduceEq,Gl]<;>(repeat' split)<;>first |rfl|(exfalso; omega)
abbrev aDp:T Lf:=(sp (.eq (ln (bH 8)) (.lit 0)) EG (nD (bH 2) (mk (bH 3)) (mk (bH 4)) bt (mk (bH 6)) (bH 7) (.op .drop (.op .take (bH 8) (.add (.lit 1) (.sub (ln (bH 8)) (.lit 1)))) (.lit 1)) (nm (el (bH 8) (.lit 0))) 2))
theorem aF9 (H:TH d0 d1 s th 21 obj arg tries o c dn g r v) (hv:0<v.l.length):dX (dI d0 d1 s th 21 obj arg tries) aDp=Gl d0 s th 21 obj arg tries o c dn g r v:=by
 have hb:=H.hb;simp only [zz,H.hcp,H.jR,H.hR,H.hk,has_is r th hb,dM r th hb,aeI v hv,aC,BO,fH,dH,dG,bV,bU,dL,act,Int.reduceEq,Gl]<;>(repeat' split)<;>first |rfl|(exfalso; omega)
abbrev aDo:T Lf:=(sp (.eq (nm (ce 0 (el (bH 2) mtx))) (.aP 3)) (nD (ajK (.dat (.i (-1)))) (mk (bH 3)) (mk (bH 4)) bt (mk (bH 6)) (.op .snoc (bH 7) (mk (.aP 3))) (bH 8) (.lit 0) 3) yB)
theorem aF8 (H:TH d0 d1 s th 12 obj arg tries o c dn g r v) (hr:0<r.l.length) (hw:wo th r.l=r.l):dX (dI d0 d1 s th 12 obj arg tries) aDo=Gl d0 s th 12 obj arg tries o c dn g r v:=by
 have hb:=H.hb;simp only [zz,H.hcp,H.jR,H.hR,H.hk,has_is r th hb,dM r th hb,hw,aW,wX,aJo,aC,BO,fH,dH,dG,bV,bU,dL,act,Int.reduceEq,Gl]<;>(repeat' split)<;>first |rfl|(exfalso; omega)
abbrev aFE:T Lf:=(sp (.eq (nm (ce 0 (el (bH 2) mtx))) (.aP 3)) (nD (ajK (.dat (.i (-1)))) (mk (bH 3)) (mk (bH 4)) bt (mk (bH 6)) (.op .take (.op .cat (.op .cat (.op .take (rr 12000 yK 15) (rr 12000 yK 14)) (.op .snoc (.dat (.i 0)) (mk (.aP 3)))) (.op .drop (rr 12000 yK 15) (.add (rr 12000 yK 14) (.lit 1)))) (.add (rr 12000 yK 14) (.lit 1))) (bH 8) (.lit 0) 3) yB)
theorem aH4 (H:TH d0 d1 s th 12 obj arg tries o c dn g r v) (hr:0<r.l.length) (hv:0<v.l.length) {n:Nat} {r1:D} (hn:n<r.l.length) (hl:r1.l.length=r.l.length) (hw:r1.l.take n=wo th r.l) (hd:L 12000 (dA d0 s r v th 12 obj arg tries o c dn g)=some (1::((dA d0 s r v th 12 obj arg tries o c dn g)++ [(n:Int),enc r1,(r.l.length:Int)]))):dX (dI d0 d1 s th 12 obj arg tries) aFE=Gl d0 s th 12 obj arg tries o c dn g r v:=by
 have hb:=H.hb;have e3:((n:Int)+1).toNat=n+1:=by omega
 have hA: ∀B,(wo th r.l++ [D.i th]++B).take (n+1)=wo th r.l++ [.i th]:=fun B=>by
  have:(wo th r.l++ [D.i th]).length=n+1:=by rw [<- hw]; simp only [aJy,aJB,aJr,aJt]; omega
  rw [aKJ (by omega),aKg (by omega)]
 have hB:wo th r.l++ [D.i th]≠[]:=by simp
 simp only [zz,H.hcp,H.jR,H.hR,H.hk,has_is r th hb,dM r th hb,hd,aJv,e3,l_p,jC,aW,wX,aJo,aJJ,hw,hA,PZ,zM hB,aC,BO,fH,dH,dG,bV,bU,dL,act,Int.reduceEq,Gl]<;>(repeat' split)<;>first |rfl|(exfalso; omega)
abbrev aDn:T Lf:=(sp (.eq (ln (bH 7)) (.lit 0)) (nD (bH 2) (mk (bH 3)) (mk (bH 4)) bt (mk (bH 6)) (bH 7) (bH 8) (.lit 0) 2) (nD (bH 2) (mk (bH 3)) (mk (bH 4)) bt (mk (bH 6)) (.op .drop (.op .take (bH 7) (.add (.lit 1) (.sub (ln (bH 7)) (.lit 1)))) (.lit 1)) (bH 8) (wr (.add (nm (el (bH 7) (.lit 0))) (.lit 1))) 2))
theorem aF7 (H:TH d0 d1 s th 13 obj arg tries o c dn g r v) (hr:0<r.l.length):dX (dI d0 d1 s th 13 obj arg tries) aDn=Gl d0 s th 13 obj arg tries o c dn g r v:=by
 have hb:=H.hb;simp only [zz,H.hcp,H.jR,H.hR,H.hk,has_is r th hb,dM r th hb,aeI r hr,wX,aJo,aC,BO,fH,dH,dG,bV,bU,dL,act,Int.reduceEq,Gl]<;>(repeat' split)<;>first |rfl|(exfalso; omega)
abbrev aDm:T Lf:=(nD (bH 2) (mk (bH 3)) (mk (bH 4)) bt (mk (bH 6)) (.dat (.i 1)) (bH 8) (ln (bH 7)) 2)
theorem aF6 (H:TH d0 d1 s th 14 obj arg tries o c dn g r v) (hr:0<r.l.length):dX (dI d0 d1 s th 14 obj arg tries) aDm=Gl d0 s th 14 obj arg tries o c dn g r v:=by
 have hb:=H.hb;simp only [zz,H.hcp,H.jR,H.hR,H.hk,has_is r th hb,dM r th hb,wX,aJo,aC,BO,fH,dH,dG,bV,bU,dL,act,Int.reduceEq,Gl]<;>(repeat' split)<;>first |rfl|(exfalso; omega)
abbrev amF:T Lf:=(sp (.eq (rr 900 [bH 7,.aP 3] 0) (.lit 0)) (sp (.lt (nm (ce 0 (el (bH 2) mtx))) (.lit 0)) (nD (ajK (mk (.aP 3))) (mk (bH 3)) (mk (bH 4)) bt (mk (bH 6)) (bH 7) (bH 8) (.lit 0) 2) EG) EG)
theorem ayV (H:TH d0 d1 s th 24 obj arg tries o c dn g r v):dX (dI d0 d1 s th 24 obj arg tries) amF=Gl d0 s th 24 obj arg tries o c dn g r v:=by
 have hb:=H.hb;simp only [zz,H.hcp,H.jR,H.hR,H.hk,has_is r th hb,dM r th hb,aW,wX,aJo,aC,BO,fH,dH,dG,bV,bU,dL,act,Int.reduceEq,Gl]<;>(repeat' split)<;>first |rfl|(exfalso; omega)
abbrev aFD:T Lf:=(sp (.lt (bH 6) (.lit 4611686018427387904)) (sp (.eq (wr (.add (bH 4) (.lit 1))) mtx) (nD (bH 2) (mk (bH 3)) (.dat (.i 0)) bt (mk (wr (.add (bH 6) (.lit 1)))) (bH 7) (bH 8) (bH 6) 3) (nD (bH 2) (mk (bH 3)) (mk (wr (.add (bH 4) (.lit 1)))) bt (mk (bH 6)) (bH 7) (bH 8) (bH 6) 3)) yB)
theorem aH3 (H:TH d0 d1 s th 15 obj arg tries o c dn g r v):dX (dI d0 d1 s th 15 obj arg tries) aFD=Gl d0 s th 15 obj arg tries o c dn g r v:=by
 have hb:=H.hb;simp only [zz,H.hcp,H.jR,H.hR,H.hk,has_is r th hb,dM r th hb,aC,BO,fH,dH,dG,bV,bU,dL,act,Int.reduceEq,Gl]<;>(repeat' split)<;>first |rfl|(exfalso; omega)
abbrev aFC:T Lf:=(sp (.lt (.aP 6) (bH 6)) (nD (bH 2) (mk (bH 3)) (mk (bH 4)) bt (mk (bH 6)) (bH 7) (bH 8) (.aP 6) 2) EG)
theorem aH2 (H:TH d0 d1 s th 25 obj arg tries o c dn g r v):dX (dI d0 d1 s th 25 obj arg tries) aFC=Gl d0 s th 25 obj arg tries o c dn g r v:=by
 have hb:=H.hb;simp only [zz,H.hcp,H.jR,H.hR,H.hk,has_is r th hb,dM r th hb,aC,BO,fH,dH,dG,bV,bU,dL,act,Int.reduceEq,Gl]<;>(repeat' split)<;>first |rfl|(exfalso; omega)
abbrev aFB:T Lf:=(sp (.eq (bH 5) (.lit 0)) (sp (.eq (bH 3) (.aP 3)) yB (sp (.lt (bH 3) (.lit 0)) (nD (bH 2) (mk (.aP 3)) (mk (bH 4)) bt (mk (bH 6)) (bH 7) (bH 8) (.lit 1) 2) EG)) (nD (bH 2) (mk (bH 3)) (mk (bH 4)) bt (mk (bH 6)) (bH 7) (bH 8) (.lit 0) 2))
theorem aH1 (H:TH d0 d1 s th 16 obj arg tries o c dn g r v):dX (dI d0 d1 s th 16 obj arg tries) aFB=Gl d0 s th 16 obj arg tries o c dn g r v:=by
 have hb:=H.hb;simp only [zz,H.hcp,H.jR,H.hR,H.hk,has_is r th hb,dM r th hb,aC,BO,fH,dH,dG,bV,bU,dL,act,Int.reduceEq,Gl]<;>(repeat' split)<;>first |rfl|(exfalso; omega)
abbrev aFA:T Lf:=(sp (.eq (bH 3) (.aP 3)) (nD (bH 2) (.dat (.i (-1))) (mk (bH 4)) (.dat (.i 1)) (mk (bH 6)) (bH 7) (bH 8) (.lit 0) 2) yB)
theorem aH0 (H:TH d0 d1 s th 26 obj arg tries o c dn g r v):dX (dI d0 d1 s th 26 obj arg tries) aFA=Gl d0 s th 26 obj arg tries o c dn g r v:=by
 have hb:=H.hb;simp only [zz,H.hcp,H.jR,H.hR,H.hk,has_is r th hb,dM r th hb,aC,BO,fH,dH,dG,bV,bU,dL,act,Int.reduceEq,Gl]<;>(repeat' split)<;>first |rfl|(exfalso; omega)
abbrev aDl:T Lf:=(sp (.lt (.lit 0) mtx) (nD (bH 2) (mk (bH 3)) (mk (bH 4)) bt (mk (bH 6)) (bH 7) (.op .snoc (.dat (.i 0)) (mk (.aP 6))) (.aP 6) 2) EG)
theorem aF5 (H:TH d0 d1 s th 20 obj arg tries o c dn g r v) (hv:v.l= []):dX (dI d0 d1 s th 20 obj arg tries) aDl=Gl d0 s th 20 obj arg tries o c dn g r v:=by
 have hb:=H.hb;have hz2:((0:Nat):Int)=0:=rfl;simp only [zz,H.hcp,H.jR,H.hR,H.hk,has_is r th hb,dM r th hb,hv,aJt,aJo,hz2,wX,aC,BO,fH,dH,dG,bV,bU,dL,act,Int.reduceEq,Gl]<;>(repeat' split)<;>first |rfl|(exfalso; omega)
abbrev aDk:T Lf:=EG
theorem aF4 (H:TH d0 d1 s th 21 obj arg tries o c dn g r v) (hv:v.l= []):dX (dI d0 d1 s th 21 obj arg tries) aDk=Gl d0 s th 21 obj arg tries o c dn g r v:=by
 have hb:=H.hb;have hz2:((0:Nat):Int)=0:=rfl;simp only [zz,H.hcp,H.jR,H.hR,H.hk,has_is r th hb,dM r th hb,hv,aJt,aJo,hz2,aC,BO,fH,dH,dG,bV,bU,dL,act,Int.reduceEq,Gl]<;>(repeat' split)<;>first |rfl|(exfalso; omega)
abbrev aFz:T Lf:=(sp (.eq (nm (ce 0 (el (bH 2) mtx))) (.aP 3)) (nD (ajK (.dat (.i (-1)))) (mk (bH 3)) (mk (bH 4)) bt (mk (bH 6)) (.op .take (.op .cat (.op .cat (.op .take (rr 12100 yK 15) (rr 12100 yK 14)) (.op .snoc (.dat (.i 0)) (mk (.aP 3)))) (.op .drop (rr 12100 yK 15) (.add (rr 12100 yK 14) (.lit 1)))) (.add (rr 12100 yK 14) (.lit 1))) (bH 8) (.lit 0) 3) yB)
theorem aHZ (H:TH d0 d1 s th 12 obj arg tries o c dn g r v) (hr:0<r.l.length) (hv:v.l= []) {n:Nat} {r1:D} (hn:n<r.l.length) (hl:r1.l.length=r.l.length) (hw:r1.l.take n=wo th r.l) (hd:L 12100 (dA d0 s r v th 12 obj arg tries o c dn g)=some (1::((dA d0 s r v th 12 obj arg tries o c dn g)++ [(n:Int),enc r1,(r.l.length:Int)]))):dX (dI d0 d1 s th 12 obj arg tries) aFz=Gl d0 s th 12 obj arg tries o c dn g r v:=by
 have hb:=H.hb;have hz2:((0:Nat):Int)=0:=rfl;have e3:((n:Int)+1).toNat=n+1:=by omega
 have hA: ∀B,(wo th r.l++ [D.i th]++B).take (n+1)=wo th r.l++ [.i th]:=fun B=>by
  have:(wo th r.l++ [D.i th]).length=n+1:=by rw [<- hw]; simp only [aJy,aJB,aJr,aJt]; omega
  rw [aKJ (by omega),aKg (by omega)]
 have hB:wo th r.l++ [D.i th]≠[]:=by simp
 simp only [zz,H.hcp,H.jR,H.hR,H.hk,has_is r th hb,dM r th hb,hv,aJt,aJo,hz2,hd,aJv,e3,l_p,jC,aW,wX,aJJ,hw,hA,PZ,zM hB,aC,BO,fH,dH,dG,bV,bU,dL,act,Int.reduceEq,Gl]<;>(repeat' split)<;>first |rfl|(exfalso; omega)
abbrev aDj:T Lf:=(sp (.eq (bH 3) (.aP 3)) yB (sp (.eq (rr 900 [bH 7,.aP 3] 0) (.lit 0)) (sp (.lt (bH 3) (.lit 0)) (nD (bH 2) (mk (bH 3)) (mk (bH 4)) bt (mk (bH 6)) (.op .snoc (.dat (.i 0)) (mk (.aP 3))) (bH 8) (.lit 0) 2) EG) yB))
theorem aF3 (H:TH d0 d1 s th 5 obj arg tries o c dn g r v) (hr:r.l= []):dX (dI d0 d1 s th 5 obj arg tries) aDj=Gl d0 s th 5 obj arg tries o c dn g r v:=by
 have hb:=H.hb;have hz:((0:Nat):Int)=0:=rfl;simp only [zz,H.hcp,H.jR,H.hR,H.hk,has_is r th hb,dM r th hb,hr,aJt,aJo,hz,wX,aC,BO,fH,dH,dG,bV,bU,dL,act,Int.reduceEq,Gl]<;>(repeat' split)<;>first |rfl|(exfalso; omega)
theorem aF2 (H:TH d0 d1 s th 7 obj arg tries o c dn g r v) (hr:r.l= []):dX (dI d0 d1 s th 7 obj arg tries) zt0=Gl d0 s th 7 obj arg tries o c dn g r v:=by
 have hb:=H.hb;have hz:((0:Nat):Int)=0:=rfl;simp only [zz,H.hcp,H.jR,H.hR,H.hk,has_is r th hb,dM r th hb,hr,aJt,aJo,hz,aC,BO,fH,dH,dG,bV,bU,dL,act,Int.reduceEq,Gl]<;>(repeat' split)<;>first |rfl|(exfalso; omega)
abbrev aDi:T Lf:=(sp (.eq (nm (ce 0 (el (bH 2) mtx))) (.aP 3)) (nD (ajK (.dat (.i (-1)))) (mk (bH 3)) (mk (bH 4)) bt (mk (bH 6)) (.op .snoc (.dat (.i 0)) (mk (.aP 3))) (bH 8) (.lit 0) 3) yB)
theorem aF1 (H:TH d0 d1 s th 12 obj arg tries o c dn g r v) (hr:r.l= []):dX (dI d0 d1 s th 12 obj arg tries) aDi=Gl d0 s th 12 obj arg tries o c dn g r v:=by
 have hb:=H.hb;have hz:((0:Nat):Int)=0:=rfl;simp only [zz,H.hcp,H.jR,H.hR,H.hk,has_is r th hb,dM r th hb,hr,aJt,aJo,hz,aDr hr,aW,wX,aC,BO,fH,dH,dG,bV,bU,dL,act,Int.reduceEq,Gl]<;>(repeat' split)<;>first |rfl|(exfalso; omega)
abbrev aDh:T Lf:=(nD (bH 2) (mk (bH 3)) (mk (bH 4)) bt (mk (bH 6)) (bH 7) (bH 8) (.lit 0) 2)
theorem aF0 (H:TH d0 d1 s th 13 obj arg tries o c dn g r v) (hr:r.l= []):dX (dI d0 d1 s th 13 obj arg tries) aDh=Gl d0 s th 13 obj arg tries o c dn g r v:=by
 have hb:=H.hb;have hz:((0:Nat):Int)=0:=rfl;simp only [zz,H.hcp,H.jR,H.hR,H.hk,has_is r th hb,dM r th hb,hr,aJt,aJo,hz,wX,aC,BO,fH,dH,dG,bV,bU,dL,act,Int.reduceEq,Gl]<;>(repeat' split)<;>first |rfl|(exfalso; omega)
abbrev aDg:T Lf:=(nD (bH 2) (mk (bH 3)) (mk (bH 4)) bt (mk (bH 6)) (.dat (.i 1)) (bH 8) (.lit 0) 2)
theorem aFZ (H:TH d0 d1 s th 14 obj arg tries o c dn g r v) (hr:r.l= []):dX (dI d0 d1 s th 14 obj arg tries) aDg=Gl d0 s th 14 obj arg tries o c dn g r v:=by
 have hb:=H.hb;have hz:((0:Nat):Int)=0:=rfl;simp only [zz,H.hcp,H.jR,H.hR,H.hk,has_is r th hb,dM r th hb,hr,aJt,aJo,hz,wX,aC,BO,fH,dH,dG,bV,bU,dL,act,Int.reduceEq,Gl]<;>(repeat' split)<;>first |rfl|(exfalso; omega)
end
def ops:List Int:=[1,2,8,3,4,5,6,7,9,11,10,17,18,19,22,23,20,21,12,13,14,24,15,25,16,26]
abbrev Yo (k:Int):List SB:=[.eq (.aP 4) (.lit k)]
abbrev No (k:Int):List SB:=(ops.filter fun j=>!(j == k)).map fun j=> .eq (.aP 4) (.lit j)
abbrev p3:T Lf:=prune (YG++YA3) (NG++NA3) lK
abbrev p4:T Lf:=prune (YG++YA4) (NG++NA4) lK
abbrev p5:T Lf:=prune (YG++YA5) (NG++NA5) lK
abbrev p6:T Lf:=prune (YG++YA6) (NG++NA6) lK
section
variable {d0 d1 s r v:D} {th op obj arg tries o c dn g:Int}
theorem amI {ρ:Nat->Int}: ∀{l:List SB},(∀c∈l,¬c.den ρ=true)->zW ρ l
 |[],_=>trivial
 |c::l,h=> ⟨h c (by simp),amI fun x hx=>h x (aKY _ hx)⟩
theorem fO (k:Int):zY (dI d0 d1 s th k obj arg tries) (Yo k)/\zW (dI d0 d1 s th k obj arg tries) (No k):=by refine⟨by simp only [zz],amI fun c hc=>?_⟩;obtain⟨j,hj,rfl⟩:=aJE.1 hc;have:=(aKh.1 hj).2;simp only [zz];intro h;subst h;simp at this
theorem sp3 (H:TH d0 d1 s th op obj arg tries o c dn g r v) (hr:0<r.l.length) (hv:0<v.l.length):dX (dI d0 d1 s th op obj arg tries) p3=dX (dI d0 d1 s th op obj arg tries) lK:=dK (z2 (fG H) (fA3 H hr hv)) lK
theorem sp4 (H:TH d0 d1 s th op obj arg tries o c dn g r v) (hr:0<r.l.length) (hv:v.l= []):dX (dI d0 d1 s th op obj arg tries) p4=dX (dI d0 d1 s th op obj arg tries) lK:=dK (z2 (fG H) (fA4 H hr hv)) lK
theorem sp5 (H:TH d0 d1 s th op obj arg tries o c dn g r v) (hr:r.l= []) (hv:0<v.l.length):dX (dI d0 d1 s th op obj arg tries) p5=dX (dI d0 d1 s th op obj arg tries) lK:=dK (z2 (fG H) (fA5 H hr hv)) lK
theorem sp6 (H:TH d0 d1 s th op obj arg tries o c dn g r v) (hr:r.l= []) (hv:v.l= []):dX (dI d0 d1 s th op obj arg tries) p6=dX (dI d0 d1 s th op obj arg tries) lK:=dK (z2 (fG H) (fA6 H hr hv)) lK
theorem lG {k:Int} {t u:T Lf} {Q:RS} (e:prune (Yo k) (No k) t=u) (h:dX (dI d0 d1 s th k obj arg tries) u=Q):dX (dI d0 d1 s th k obj arg tries) t=Q:=by rw [<- dK (fO k) t,e,h]
theorem lH (H:TH d0 d1 s th op obj arg tries o c dn g r v) {u:T Lf} {Q:RS} (e3:prune (Yo op) (No op) p3=u) (e4:prune (Yo op) (No op) p4=u) (e5:prune (Yo op) (No op) p5=u) (e6:prune (Yo op) (No op) p6=u) (h:dX (dI d0 d1 s th op obj arg tries) u=Q):dX (dI d0 d1 s th op obj arg tries) lK=Q:=by
 rcases lT r.l with hr|hr<;>rcases lT v.l with hv|hv
 ·exact (sp6 H hr hv).symm.trans (lG e6 h)
 ·exact (sp5 H hr hv).symm.trans (lG e5 h)
 ·exact (sp4 H hr hv).symm.trans (lG e4 h)
 ·exact (sp3 H hr hv).symm.trans (lG e3 h)
theorem o1 (H:TH d0 d1 s th 1 obj arg tries o c dn g r v):dX (dI d0 d1 s th 1 obj arg tries) lK=Gl d0 s th 1 obj arg tries o c dn g r v:=lH H (u:=zt0) (by kernel_rfl) (by kernel_rfl) (by kernel_rfl) (by kernel_rfl) (sm0 H)
theorem o2 (H:TH d0 d1 s th 2 obj arg tries o c dn g r v):dX (dI d0 d1 s th 2 obj arg tries) lK=Gl d0 s th 2 obj arg tries o c dn g r v:=lH H (u:=zt1) (by kernel_rfl) (by kernel_rfl) (by kernel_rfl) (by kernel_rfl) (sm1 H)
theorem o8 (H:TH d0 d1 s th 8 obj arg tries o c dn g r v):dX (dI d0 d1 s th 8 obj arg tries) lK=Gl d0 s th 8 obj arg tries o c dn g r v:=lH H (u:=zt1) (by kernel_rfl) (by kernel_rfl) (by kernel_rfl) (by kernel_rfl) (sm2 H)
theorem o3 (H:TH d0 d1 s th 3 obj arg tries o c dn g r v):dX (dI d0 d1 s th 3 obj arg tries) lK=Gl d0 s th 3 obj arg tries o c dn g r v:=lH H (u:=zt2) (by kernel_rfl) (by kernel_rfl) (by kernel_rfl) (by kernel_rfl) (sm3 H)
theorem o4 (H:TH d0 d1 s th 4 obj arg tries o c dn g r v):dX (dI d0 d1 s th 4 obj arg tries) lK=Gl d0 s th 4 obj arg tries o c dn g r v:=lH H (u:=zt3) (by kernel_rfl) (by kernel_rfl) (by kernel_rfl) (by kernel_rfl) (sm4 H)
theorem o5 (H:TH d0 d1 s th 5 obj arg tries o c dn g r v):dX (dI d0 d1 s th 5 obj arg tries) lK=Gl d0 s th 5 obj arg tries o c dn g r v:=by
 rcases lT r.l with hr|hr<;>rcases lT v.l with hv|hv
 ·exact (sp6 H hr hv).symm.trans (lG (u:=aDj) (by kernel_rfl) (aF3 H hr))
 ·exact (sp5 H hr hv).symm.trans (lG (u:=aDj) (by kernel_rfl) (aF3 H hr))
 ·exact (sp4 H hr hv).symm.trans (lG (u:=zt4) (by kernel_rfl) (sm5 H hr))
 ·exact (sp3 H hr hv).symm.trans (lG (u:=zt4) (by kernel_rfl) (sm5 H hr))
theorem o6 (H:TH d0 d1 s th 6 obj arg tries o c dn g r v):dX (dI d0 d1 s th 6 obj arg tries) lK=Gl d0 s th 6 obj arg tries o c dn g r v:=by
 rcases lT r.l with hr|hr<;>rcases lT v.l with hv|hv
 ·exact (sp6 H hr hv).symm.trans (lG (u:=zt5) (by kernel_rfl) (sm6 H (by rw [D5 hr]; omega)))
 ·exact (sp5 H hr hv).symm.trans (lG (u:=zt5) (by kernel_rfl) (sm6 H (by rw [D5 hr]; omega)))
 ·by_cases hk:place r th<0
  ·exact (sp4 H hr hv).symm.trans ((dK (fK0 H hk) _).symm.trans (lG (u:=zt5) (by kernel_rfl) (sm6 H hk)))
  ·exact (sp4 H hr hv).symm.trans ((dK (fK1 H hk) _).symm.trans (lG (u:=zt6) (by kernel_rfl) (sm7 H hr hk)))
 ·by_cases hk:place r th<0
  ·exact (sp3 H hr hv).symm.trans ((dK (fK0 H hk) _).symm.trans (lG (u:=zt5) (by kernel_rfl) (sm6 H hk)))
  ·exact (sp3 H hr hv).symm.trans ((dK (fK1 H hk) _).symm.trans (lG (u:=zt6) (by kernel_rfl) (sm7 H hr hk)))
theorem o7 (H:TH d0 d1 s th 7 obj arg tries o c dn g r v):dX (dI d0 d1 s th 7 obj arg tries) lK=Gl d0 s th 7 obj arg tries o c dn g r v:=by
 rcases lT r.l with hr|hr<;>rcases lT v.l with hv|hv
 ·exact (sp6 H hr hv).symm.trans (lG (u:=zt0) (by kernel_rfl) (aF2 H hr))
 ·exact (sp5 H hr hv).symm.trans (lG (u:=zt0) (by kernel_rfl) (aF2 H hr))
 ·exact (sp4 H hr hv).symm.trans (lG (u:=zt7) (by kernel_rfl) (sm8 H hr))
 ·exact (sp3 H hr hv).symm.trans (lG (u:=zt7) (by kernel_rfl) (sm8 H hr))
theorem o9 (H:TH d0 d1 s th 9 obj arg tries o c dn g r v):dX (dI d0 d1 s th 9 obj arg tries) lK=Gl d0 s th 9 obj arg tries o c dn g r v:=lH H (u:=zt8) (by kernel_rfl) (by kernel_rfl) (by kernel_rfl) (by kernel_rfl) (sm9 H)
theorem o11 (H:TH d0 d1 s th 11 obj arg tries o c dn g r v):dX (dI d0 d1 s th 11 obj arg tries) lK=Gl d0 s th 11 obj arg tries o c dn g r v:=lH H (u:=zt9) (by kernel_rfl) (by kernel_rfl) (by kernel_rfl) (by kernel_rfl) (aIb H)
theorem o10 (H:TH d0 d1 s th 10 obj arg tries o c dn g r v):dX (dI d0 d1 s th 10 obj arg tries) lK=Gl d0 s th 10 obj arg tries o c dn g r v:=lH H (u:=aFK) (by kernel_rfl) (by kernel_rfl) (by kernel_rfl) (by kernel_rfl) (aIa H)
theorem o17 (H:TH d0 d1 s th 17 obj arg tries o c dn g r v):dX (dI d0 d1 s th 17 obj arg tries) lK=Gl d0 s th 17 obj arg tries o c dn g r v:=lH H (u:=aFJ) (by kernel_rfl) (by kernel_rfl) (by kernel_rfl) (by kernel_rfl) (aH9 H)
theorem o18 (H:TH d0 d1 s th 18 obj arg tries o c dn g r v):dX (dI d0 d1 s th 18 obj arg tries) lK=Gl d0 s th 18 obj arg tries o c dn g r v:=lH H (u:=aFI) (by kernel_rfl) (by kernel_rfl) (by kernel_rfl) (by kernel_rfl) (aH8 H)
theorem o19 (H:TH d0 d1 s th 19 obj arg tries o c dn g r v):dX (dI d0 d1 s th 19 obj arg tries) lK=Gl d0 s th 19 obj arg tries o c dn g r v:=lH H (u:=aFH) (by kernel_rfl) (by kernel_rfl) (by kernel_rfl) (by kernel_rfl) (aH7 H)
theorem o22 (H:TH d0 d1 s th 22 obj arg tries o c dn g r v):dX (dI d0 d1 s th 22 obj arg tries) lK=Gl d0 s th 22 obj arg tries o c dn g r v:=lH H (u:=aFG) (by kernel_rfl) (by kernel_rfl) (by kernel_rfl) (by kernel_rfl) (aH6 H)
theorem o23 (H:TH d0 d1 s th 23 obj arg tries o c dn g r v):dX (dI d0 d1 s th 23 obj arg tries) lK=Gl d0 s th 23 obj arg tries o c dn g r v:=lH H (u:=aFF) (by kernel_rfl) (by kernel_rfl) (by kernel_rfl) (by kernel_rfl) (aH5 H)
theorem o20 (H:TH d0 d1 s th 20 obj arg tries o c dn g r v):dX (dI d0 d1 s th 20 obj arg tries) lK=Gl d0 s th 20 obj arg tries o c dn g r v:=by
 rcases lT r.l with hr|hr<;>rcases lT v.l with hv|hv
 ·exact (sp6 H hr hv).symm.trans (lG (u:=aDl) (by kernel_rfl) (aF5 H hv))
 ·exact (sp5 H hr hv).symm.trans (lG (u:=aDq) (by kernel_rfl) (aGa H hv))
 ·exact (sp4 H hr hv).symm.trans (lG (u:=aDl) (by kernel_rfl) (aF5 H hv))
 ·exact (sp3 H hr hv).symm.trans (lG (u:=aDq) (by kernel_rfl) (aGa H hv))
theorem o21 (H:TH d0 d1 s th 21 obj arg tries o c dn g r v):dX (dI d0 d1 s th 21 obj arg tries) lK=Gl d0 s th 21 obj arg tries o c dn g r v:=by
 rcases lT r.l with hr|hr<;>rcases lT v.l with hv|hv
 ·exact (sp6 H hr hv).symm.trans (lG (u:=aDk) (by kernel_rfl) (aF4 H hv))
 ·exact (sp5 H hr hv).symm.trans (lG (u:=aDp) (by kernel_rfl) (aF9 H hv))
 ·exact (sp4 H hr hv).symm.trans (lG (u:=aDk) (by kernel_rfl) (aF4 H hv))
 ·exact (sp3 H hr hv).symm.trans (lG (u:=aDp) (by kernel_rfl) (aF9 H hv))
theorem o12 (H:TH d0 d1 s th 12 obj arg tries o c dn g r v):dX (dI d0 d1 s th 12 obj arg tries) lK=Gl d0 s th 12 obj arg tries o c dn g r v:=by
 rcases lT r.l with hr|hr<;>rcases lT v.l with hv|hv
 ·have hd:=aBg r th obj (Mx d0 obj) (enc (dL (dY s.l (Mx d0 obj) (dL (dY (s.at (Mx d0 obj)).l 0 (.i (-1))))))) 12 arg tries o c dn g (enc v);exact (sp6 H hr hv).symm.trans ((dK (fM H (by omega)) _).symm.trans ((dK (aID H hd) _).symm.trans (lG (u:=aDi) (by kernel_rfl) (aF1 H hr))))
 ·have hd:=aBh r th obj (Mx d0 obj) (enc (dL (dY s.l (Mx d0 obj) (dL (dY (s.at (Mx d0 obj)).l 0 (.i (-1))))))) 12 arg tries o c dn g (enc v);exact (sp5 H hr hv).symm.trans ((dK (fM H (by omega)) _).symm.trans ((dK (aIE H hd) _).symm.trans (lG (u:=aDi) (by kernel_rfl) (aF1 H hr))))
 ·rcases aBi r th (by have:=H.hr; omega) H.hn with ⟨hw,hd⟩|hd
  ·have hd:=hd obj (Mx d0 obj) (enc (dL (dY s.l (Mx d0 obj) (dL (dY (s.at (Mx d0 obj)).l 0 (.i (-1))))))) 12 arg tries o c dn g (enc v);exact (sp4 H hr hv).symm.trans ((dK (fM H (by omega)) _).symm.trans ((dK (aIF H hd) _).symm.trans (lG (u:=aDo) (by kernel_rfl) (aF8 H hr hw))))
  ·obtain⟨n,r1,hn,hl,hw,hd⟩:=hd obj (Mx d0 obj) (enc (dL (dY s.l (Mx d0 obj) (dL (dY (s.at (Mx d0 obj)).l 0 (.i (-1))))))) 12 arg tries o c dn g (enc v);exact (sp4 H hr hv).symm.trans ((dK (fM H (by omega)) _).symm.trans ((dK (aIG H hn hl hd) _).symm.trans (lG (u:=aFz) (by kernel_rfl) (aHZ H hr hv hn hl hw hd))))
 ·rcases aBj r th (by have:=H.hr; omega) H.hn with ⟨hw,hd⟩|hd
  ·have hd:=hd obj (Mx d0 obj) (enc (dL (dY s.l (Mx d0 obj) (dL (dY (s.at (Mx d0 obj)).l 0 (.i (-1))))))) 12 arg tries o c dn g (enc v);exact (sp3 H hr hv).symm.trans ((dK (fM H (by omega)) _).symm.trans ((dK (aIH H hd) _).symm.trans (lG (u:=aDo) (by kernel_rfl) (aF8 H hr hw))))
  ·obtain⟨n,r1,hn,hl,hw,hd⟩:=hd obj (Mx d0 obj) (enc (dL (dY s.l (Mx d0 obj) (dL (dY (s.at (Mx d0 obj)).l 0 (.i (-1))))))) 12 arg tries o c dn g (enc v);exact (sp3 H hr hv).symm.trans ((dK (fM H (by omega)) _).symm.trans ((dK (aII H hn hl hd) _).symm.trans (lG (u:=aFE) (by kernel_rfl) (aH4 H hr hv hn hl hw hd))))
theorem o13 (H:TH d0 d1 s th 13 obj arg tries o c dn g r v):dX (dI d0 d1 s th 13 obj arg tries) lK=Gl d0 s th 13 obj arg tries o c dn g r v:=by
 rcases lT r.l with hr|hr<;>rcases lT v.l with hv|hv
 ·exact (sp6 H hr hv).symm.trans (lG (u:=aDh) (by kernel_rfl) (aF0 H hr))
 ·exact (sp5 H hr hv).symm.trans (lG (u:=aDh) (by kernel_rfl) (aF0 H hr))
 ·exact (sp4 H hr hv).symm.trans (lG (u:=aDn) (by kernel_rfl) (aF7 H hr))
 ·exact (sp3 H hr hv).symm.trans (lG (u:=aDn) (by kernel_rfl) (aF7 H hr))
theorem o14 (H:TH d0 d1 s th 14 obj arg tries o c dn g r v):dX (dI d0 d1 s th 14 obj arg tries) lK=Gl d0 s th 14 obj arg tries o c dn g r v:=by
 rcases lT r.l with hr|hr<;>rcases lT v.l with hv|hv
 ·exact (sp6 H hr hv).symm.trans (lG (u:=aDg) (by kernel_rfl) (aFZ H hr))
 ·exact (sp5 H hr hv).symm.trans (lG (u:=aDg) (by kernel_rfl) (aFZ H hr))
 ·exact (sp4 H hr hv).symm.trans (lG (u:=aDm) (by kernel_rfl) (aF6 H hr))
 ·exact (sp3 H hr hv).symm.trans (lG (u:=aDm) (by kernel_rfl) (aF6 H hr))
theorem o24 (H:TH d0 d1 s th 24 obj arg tries o c dn g r v):dX (dI d0 d1 s th 24 obj arg tries) lK=Gl d0 s th 24 obj arg tries o c dn g r v:=by
 rcases lT r.l with hr|hr<;>rcases lT v.l with hv|hv
 ·exact (sp6 H hr hv).symm.trans ((dK (fM H (by omega)) _).symm.trans (lG (u:=amF) (by kernel_rfl) (ayV H)))
 ·exact (sp5 H hr hv).symm.trans ((dK (fM H (by omega)) _).symm.trans (lG (u:=amF) (by kernel_rfl) (ayV H)))
 ·exact (sp4 H hr hv).symm.trans ((dK (fM H (by omega)) _).symm.trans (lG (u:=amF) (by kernel_rfl) (ayV H)))
 ·exact (sp3 H hr hv).symm.trans ((dK (fM H (by omega)) _).symm.trans (lG (u:=amF) (by kernel_rfl) (ayV H)))
theorem o15 (H:TH d0 d1 s th 15 obj arg tries o c dn g r v):dX (dI d0 d1 s th 15 obj arg tries) lK=Gl d0 s th 15 obj arg tries o c dn g r v:=lH H (u:=aFD) (by kernel_rfl) (by kernel_rfl) (by kernel_rfl) (by kernel_rfl) (aH3 H)
theorem o25 (H:TH d0 d1 s th 25 obj arg tries o c dn g r v):dX (dI d0 d1 s th 25 obj arg tries) lK=Gl d0 s th 25 obj arg tries o c dn g r v:=lH H (u:=aFC) (by kernel_rfl) (by kernel_rfl) (by kernel_rfl) (by kernel_rfl) (aH2 H)
theorem o16 (H:TH d0 d1 s th 16 obj arg tries o c dn g r v):dX (dI d0 d1 s th 16 obj arg tries) lK=Gl d0 s th 16 obj arg tries o c dn g r v:=lH H (u:=aFB) (by kernel_rfl) (by kernel_rfl) (by kernel_rfl) (by kernel_rfl) (aH1 H)
theorem o26 (H:TH d0 d1 s th 26 obj arg tries o c dn g r v):dX (dI d0 d1 s th 26 obj arg tries) lK=Gl d0 s th 26 obj arg tries o c dn g r v:=lH H (u:=aFA) (by kernel_rfl) (by kernel_rfl) (by kernel_rfl) (by kernel_rfl) (aH0 H)
theorem axU (H:TH d0 d1 s th op obj arg tries o c dn g r v) (hop:op∈ops):L 400 [enc d0,enc d1,enc s,th,op,obj,arg,tries]=some (outA s th op obj (Mx d0 obj) (act (Mx d0 obj) (Mo d0 s obj) th op arg tries o c dn g r v)):=by
 rw [aN,aFq]
 suffices h:dX (dI d0 d1 s th op obj arg tries) lK=Gl d0 s th op obj arg tries o c dn g r v by rw [h]; rfl
 unfold ops at hop;simp only [aJq,aJ4,or_false] at hop;rcases hop with rfl|rfl|rfl|rfl|rfl|rfl|rfl|rfl|rfl|rfl|rfl|rfl|rfl|rfl|rfl|rfl|rfl|rfl|rfl|rfl|rfl|rfl|rfl|rfl|rfl|rfl
 ·exact o1 H
 ·exact o2 H
 ·exact o8 H
 ·exact o3 H
 ·exact o4 H
 ·exact o5 H
 ·exact o6 H
 ·exact o7 H
 ·exact o9 H
 ·exact o11 H
 ·exact o10 H
 ·exact o17 H
 ·exact o18 H
 ·exact o19 H
 ·exact o22 H
 ·exact o23 H
 ·exact o20 H
 ·exact o21 H
 ·exact o12 H
 ·exact o13 H
 ·exact o14 H
 ·exact o24 H
 ·exact o15 H
 ·exact o25 H
 ·exact o16 H
 ·exact o26 H
end
abbrev aqI:T Lf:=ou [.op .set (bH 2) (thg (mk (bH 3)) (mk (bH 4)) bt (mk (bH 6)) (bH 7) (bH 8)),.lit 0,.lit 0,.lit 0,.lit 0,.lit 0,.lit 0]
abbrev Ya (a:Int):List SB:=[.eq (a0 9000 [.aP 5,.aP 2]) (.lit 1),.eq (bH 0) (.lit a),.eq (a0 350 [.aP 0,.aP 1,.aP 2]) (.lit 1)]
abbrev Na (a:Int):List SB:=([0,1,2,3,4,5].filter fun j=>!(j == a)).map fun j=> .eq (bH 0) (.lit j)
abbrev r3:SB:=.eq (rr 350 [.aP 0,.aP 1,.aP 2] 0) (.lit 0)
abbrev t3:SB:=.lt (.aP 3) (.lit 0)
abbrev u3:SB:=.lt (.aP 3) (ln (.aP 1))
section
variable {d0 d1 s r v:D} {th op obj arg tries o c dn g b kop a:Int} (hR:L 350 [enc d0,enc d1,enc s]=some [b])
include hR
theorem fa {l:List Int} (hc:L 9000 [obj,enc s]=some (a::l)):zY (dI d0 d1 s th op obj arg tries) (Ya a)/\zW (dI d0 d1 s th op obj arg tries) (Na a):=by refine⟨by simp only [zz,hc,hR],amI fun c hc'=>?_⟩;obtain⟨j,hj,rfl⟩:=aJE.1 hc';have:=(aKh.1 hj).2;simp only [zz,hc];intro h;subst h;simp at this
theorem yF (k:dX (dI d0 d1 s th op obj arg tries) lK= .out [enc s,0,0,0,0,0,0]):L 400 [enc d0,enc d1,enc s,th,op,obj,arg,tries]=some [enc s,0,0,0,0,0,0]:=by rw [aN,aFq];exact congrArg (fin L) k
section
variable (ha:a=3\/a=4\/a=5\/a=6) (hcp:L 9000 [obj,enc s]=some [a,obj,enc s,o,c,dn,g,enc r,enc v]) (AQ:0<=obj) (AP:obj<(s.l.length:Int)) (hd:dn=0\/dn=1) (hs:s=dL (dY s.l obj (dL [.i o,.i c,.i dn,.i g,r,v])))
include ha hcp AQ AP hd hs
omit ha hR AQ AP in
theorem LU:dX (dI d0 d1 s th op obj arg tries) aqI= .out [enc s,0,0,0,0,0,0]:=by
 have e:(if dn=0 then (0:Int) else 1)=dn:=by rcases hd with rfl|rfl<;>rfl
 simp only [dL] at hs;simp only [zz,hcp,e,<- hs]
theorem aIf (h:b=0):L 400 [enc d0,enc d1,enc s,th,op,obj,arg,tries]=some [enc s,0,0,0,0,0,0]:=
 yF hR (bD (Ya a++ [r3]) (Na a++ []) aqI (z2 (fa hR hcp) (by simp only [zz,hcp,hR]<;>omega)) (by rcases ha with rfl|rfl|rfl|rfl<;>kernel_rfl) (LU hcp hd hs))
theorem aIe (hb:b≠0) (h:th<0):L 400 [enc d0,enc d1,enc s,th,op,obj,arg,tries]=some [enc s,0,0,0,0,0,0]:=
 yF hR (bD (Ya a++ [t3]) (Na a++ [r3]) aqI (z2 (fa hR hcp) (by simp only [zz,hcp,hR]<;>omega)) (by rcases ha with rfl|rfl|rfl|rfl<;>kernel_rfl) (LU hcp hd hs))
theorem aId (hb:b≠0) (h0:0<=th) (h: ¬th<(d1.l.length:Int)):L 400 [enc d0,enc d1,enc s,th,op,obj,arg,tries]=some [enc s,0,0,0,0,0,0]:=
 yF hR (bD (Ya a++ []) (Na a++ [r3,t3,u3]) aqI (z2 (fa hR hcp) (by simp only [zz,hcp,hR]<;>omega)) (by rcases ha with rfl|rfl|rfl|rfl<;>kernel_rfl) (LU hcp hd hs))
theorem aIg (hb:b≠0) (h0:0<=th) (h:th<(d1.l.length:Int)) (hk:L 600 [op]=some [kop]) (hlen:s.l.length=d0.l.length) (hne: ¬kop=((d0.at obj).hd 0).n):L 400 [enc d0,enc d1,enc s,th,op,obj,arg,tries]=some [enc s,0,0,0,0,0,0]:=
 yF hR (bD (Ya a++ [u3,.lt (.aP 5) (ln (bH 2)),.eq (a0 600 [.aP 4]) (.lit 1),.lt (.aP 5) (ln (.aP 0))]) (Na a++ [r3,t3,.lt (.aP 5) (.lit 0),.eq (rr 600 [.aP 4] 0) (nm (ce 0 (el (.aP 0) (.aP 5))))]) aqI (z2 (fa hR hcp) (by simp only [zz,hcp,hR,hk]<;>omega)) (by rcases ha with rfl|rfl|rfl|rfl<;>kernel_rfl) (LU hcp hd hs))
end
theorem aGl (hcp:L 9000 [obj,enc s]=some [0,obj,enc s]) (h:obj<0):L 400 [enc d0,enc d1,enc s,th,op,obj,arg,tries]=some [enc s,0,0,0,0,0,0]:=
 yF hR (bD (Ya 0++ [.lt (.aP 5) (.lit 0)]) (Na 0++ []) (sp r3 (ou [bH 2,.lit 0,.lit 0,.lit 0,.lit 0,.lit 0,.lit 0]) (sp t3 (ou [bH 2,.lit 0,.lit 0,.lit 0,.lit 0,.lit 0,.lit 0]) (sp u3 (ou [bH 2,.lit 0,.lit 0,.lit 0,.lit 0,.lit 0,.lit 0]) (ou [bH 2,.lit 0,.lit 0,.lit 0,.lit 0,.lit 0,.lit 0])))) (z2 (fa hR hcp) (by simp only [zz,hcp]<;>omega)) (by kernel_rfl) (by simp only [zz,hcp,hR,ite_self]))
theorem aGk (hcp:L 9000 [obj,enc s]=some [0,obj,enc s]) (h0:0<=obj) (h: ¬obj<(s.l.length:Int)):L 400 [enc d0,enc d1,enc s,th,op,obj,arg,tries]=some [enc s,0,0,0,0,0,0]:=
 yF hR (bD (Ya 0++ []) (Na 0++ [.lt (.aP 5) (.lit 0),.lt (.aP 5) (ln (bH 2))]) (sp r3 (ou [bH 2,.lit 0,.lit 0,.lit 0,.lit 0,.lit 0,.lit 0]) (sp t3 (ou [bH 2,.lit 0,.lit 0,.lit 0,.lit 0,.lit 0,.lit 0]) (sp u3 (ou [bH 2,.lit 0,.lit 0,.lit 0,.lit 0,.lit 0,.lit 0]) (ou [bH 2,.lit 0,.lit 0,.lit 0,.lit 0,.lit 0,.lit 0])))) (z2 (fa hR hcp) (by simp only [zz,hcp]<;>omega)) (by kernel_rfl) (by simp only [zz,hcp,hR,ite_self]))
theorem aGj (hcp:L 9000 [obj,enc s]=some [1,obj]) (h:obj<0) (hs:s= .i 1):L 400 [enc d0,enc d1,enc s,th,op,obj,arg,tries]=some [enc s,0,0,0,0,0,0]:=
 yF hR (bD (Ya 1++ [.lt (.aP 5) (.lit 0)]) (Na 1++ []) (sp r3 (ou [.dat (.i 1),.lit 0,.lit 0,.lit 0,.lit 0,.lit 0,.lit 0]) (sp t3 (ou [.dat (.i 1),.lit 0,.lit 0,.lit 0,.lit 0,.lit 0,.lit 0]) (sp u3 (ou [.dat (.i 1),.lit 0,.lit 0,.lit 0,.lit 0,.lit 0,.lit 0]) (ou [.dat (.i 1),.lit 0,.lit 0,.lit 0,.lit 0,.lit 0,.lit 0])))) (z2 (fa hR hcp) (by simp only [zz,hcp]<;>omega)) (by kernel_rfl) (by simp only [zz,hcp,hR,hs,ite_self]))
theorem aGi (hcp:L 9000 [obj,enc s]=some [1,obj]) (h0:0<=obj) (h: ¬obj<(s.l.length:Int)) (hs:s= .i 1):L 400 [enc d0,enc d1,enc s,th,op,obj,arg,tries]=some [enc s,0,0,0,0,0,0]:=
 yF hR (bD (Ya 1++ []) (Na 1++ [.lt (.aP 5) (.lit 0)]) (sp r3 (ou [.dat (.i 1),.lit 0,.lit 0,.lit 0,.lit 0,.lit 0,.lit 0]) (sp t3 (ou [.dat (.i 1),.lit 0,.lit 0,.lit 0,.lit 0,.lit 0,.lit 0]) (sp u3 (ou [.dat (.i 1),.lit 0,.lit 0,.lit 0,.lit 0,.lit 0,.lit 0]) (ou [.dat (.i 1),.lit 0,.lit 0,.lit 0,.lit 0,.lit 0,.lit 0])))) (z2 (fa hR hcp) (by simp only [zz,hcp]<;>omega)) (by kernel_rfl) (by simp only [zz,hcp,hR,hs,ite_self]))
theorem aGh (hcp:L 9000 [obj,enc s]=some [2,obj]) (h:obj<0) (hs:s= .i 2):L 400 [enc d0,enc d1,enc s,th,op,obj,arg,tries]=some [enc s,0,0,0,0,0,0]:=
 yF hR (bD (Ya 2++ [.lt (.aP 5) (.lit 0)]) (Na 2++ []) (sp r3 (ou [.dat (.i 2),.lit 0,.lit 0,.lit 0,.lit 0,.lit 0,.lit 0]) (sp t3 (ou [.dat (.i 2),.lit 0,.lit 0,.lit 0,.lit 0,.lit 0,.lit 0]) (sp u3 (ou [.dat (.i 2),.lit 0,.lit 0,.lit 0,.lit 0,.lit 0,.lit 0]) (ou [.dat (.i 2),.lit 0,.lit 0,.lit 0,.lit 0,.lit 0,.lit 0])))) (z2 (fa hR hcp) (by simp only [zz,hcp]<;>omega)) (by kernel_rfl) (by simp only [zz,hcp,hR,hs,ite_self]))
theorem aGg (hcp:L 9000 [obj,enc s]=some [2,obj]) (h0:0<=obj) (h: ¬obj<(s.l.length:Int)) (hs:s= .i 2):L 400 [enc d0,enc d1,enc s,th,op,obj,arg,tries]=some [enc s,0,0,0,0,0,0]:=
 yF hR (bD (Ya 2++ []) (Na 2++ [.lt (.aP 5) (.lit 0)]) (sp r3 (ou [.dat (.i 2),.lit 0,.lit 0,.lit 0,.lit 0,.lit 0,.lit 0]) (sp t3 (ou [.dat (.i 2),.lit 0,.lit 0,.lit 0,.lit 0,.lit 0,.lit 0]) (sp u3 (ou [.dat (.i 2),.lit 0,.lit 0,.lit 0,.lit 0,.lit 0,.lit 0]) (ou [.dat (.i 2),.lit 0,.lit 0,.lit 0,.lit 0,.lit 0,.lit 0])))) (z2 (fa hR hcp) (by simp only [zz,hcp]<;>omega)) (by kernel_rfl) (by simp only [zz,hcp,hR,hs,ite_self]))
end
def kindOf (o:Int):Int:=if o<27 then (if o=0 then 0 else if o=1 then 1 else if o=2 then 1 else if o=3 then 1 else if o=4 then 1 else if o=5 then 2 else if o=6 then 2 else if o=7 then 2 else if o=8 then 2 else if o=9 then 3 else if o=10 then 3 else if o=11 then 3 else if o=12 then 4 else if o=13 then 4 else if o=14 then 4 else if o=15 then 5 else if o=16 then 6 else if o=17 then 7 else if o=18 then 7 else if o=19 then 7 else if o=20 then 8 else if o=21 then 8 else if o=22 then 9 else if o=23 then 9 else if o=24 then 4 else if o=25 then 5 else 6) else 0
theorem Yx (o:Int) (h:iM .u8 o):L 600 [o]=some [kindOf o]:=by
 have h1:=h.1;have w:=aFN h;have c1: ¬(o<0):=by omega
 rw [aN,aHy];simp only [aDB,zz,w,c1];by_cases h27:o<27
 ·simp only [aJe h27];have:o=0\/o=1\/o=2\/o=3\/o=4\/o=5\/o=6\/o=7\/o=8\/o=9\/o=10\/o=11\/o=12\/o=13\/o=14\/o=15\/o=16\/o=17\/o=18\/o=19\/o=20\/o=21\/o=22\/o=23\/o=24\/o=25\/o=26:=by omega
  rcases this with rfl|rfl|rfl|rfl|rfl|rfl|rfl|rfl|rfl|rfl|rfl|rfl|rfl|rfl|rfl|rfl|rfl|rfl|rfl|rfl|rfl|rfl|rfl|rfl|rfl|rfl|rfl
  all_goals rfl
 ·simp only [aJd h27];unfold kindOf;rw [aJd h27];rfl
theorem arB {o:Int} (h0:0<=o) (h:kindOf o≠0):o∈ops:=by
 have h27:o<27:=by refine Decidable.byContradiction fun hn=>h ?_;unfold kindOf;rw [aJd hn]
 have:o=0\/o=1\/o=2\/o=3\/o=4\/o=5\/o=6\/o=7\/o=8\/o=9\/o=10\/o=11\/o=12\/o=13\/o=14\/o=15\/o=16\/o=17\/o=18\/o=19\/o=20\/o=21\/o=22\/o=23\/o=24\/o=25\/o=26:=by omega
 rcases this with rfl|rfl|rfl|rfl|rfl|rfl|rfl|rfl|rfl|rfl|rfl|rfl|rfl|rfl|rfl|rfl|rfl|rfl|rfl|rfl|rfl|rfl|rfl|rfl|rfl|rfl|rfl
 all_goals first |exact absurd rfl h|decide
structure Acc (d0 d1 s:D) (th op obj:Int):Prop where
 r:L 350 [enc d0,enc d1,enc s]=some [1]
 t0:0<=th
 t1:th<(d1.l.length:Int)
 o0:0<=obj
 o1:obj<(s.l.length:Int)
 k:kindOf op=((d0.at obj).hd 0).n
structure Tg (x:D) (o c dn g:Int) (r v:D):Prop where
 is:x=dL [.i o,.i c,.i dn,.i g,r,v]
 ho:iM .i64 o
 hc:iM .i64 c
 hd:dn=0\/dn=1
 hg:iM .i64 g
 hr:Wd (.sl 0) r
 hv:Wd (.sl 0) v
theorem Nb {x:D} (h:Ec x): ∃o c dn g r v,Tg x o c dn g r v:=by obtain⟨o,c,d,g,r,v,h1,h2,h3,h4,h5,h6,h7⟩:=h;exact⟨o,c,d,g,r,v,h1,h2,h3,h4,h5,h6,h7⟩
theorem axQ {r:D} (h:Wd (.sl 0) r): ∀x∈r.l,x= .i x.n:=by intro x hx;obtain⟨n,rfl,_⟩:=(h.el1 rfl x hx).i;rfl
def few (s:D):Prop:= ∀x∈s.l,(x.hd 4).l.length<17592186044415/\(x.hd 5).l.length<17592186044415
theorem few.rows {s:D} (h:few s):FB s:=fun x hx=>by have:=(h x hx).1; omega
section
variable {d0 d1 s:D} {th op obj arg tries:Int} (h0:Wd (.sl 3) d0) (h1:Wd (.sl 4) d1) (hs:Wd (.sl 7) s) (hf:few s) (hop:iM .u8 op)
include h0 h1 hf in
theorem N7 (h:L 350 [enc d0,enc d1,enc s]=some [1]):yA d0 d1/\s.l.length=d0.l.length:=by obtain⟨b,hb,_,hi⟩:=nY h0 h1 hf.rows;rw [h] at hb;simp only [aJf,List.cons.injEq,and_true] at hb;obtain⟨hC,hle,_⟩:=hi.1 hb.symm;obtain⟨ys,hC',c,rfl,_,hok⟩:=zQ h0 h1;rw [hC] at hC';simp only [aJf,List.cons.injEq,and_true] at hC';exact⟨(hok hC'.symm).1,hle⟩
include h0 h1 hf in
theorem aiY (A:Acc d0 d1 s th op obj):agG d0 (d0.at obj)/\s.l.length=d0.l.length:=by
 obtain⟨hok,hle⟩:=N7 h0 h1 hf A.r;refine⟨?_,hle⟩;have a1:=A.o0; have a2:=A.o1;obtain⟨i,rfl⟩ : ∃i:Nat,obj=(i:Int):=⟨obj.toNat,by omega⟩;have hi:i<d0.l.length:=by omega
 rw [aX hi];exact hok.2.2 _ (aJm hi)
include h0 h1 hs hf hop
theorem QN (A:Acc d0 d1 s th op obj) (h:op=12\/op=24):0<=Mx d0 obj/\Mx d0 obj<(s.l.length:Int)/\Mx d0 obj≠obj:=by
 obtain⟨ho,hle⟩:=aiY h0 h1 hf A
 have h4:((d0.at obj).hd 0).n=4:=by rw [<- A.k];rcases h with rfl|rfl<;>rfl
 obtain⟨m1,m2,m3⟩:=ho.2.2.2.2.2 h4;refine⟨m1,by rw [hle]; exact m2,fun he=>?_⟩;have he:((d0.at obj).hd 2).n=obj:=he;rw [he,h4] at m3;omega
theorem xG (A:Acc d0 d1 s th op obj):op∈ops/\∃o c dn g r v,Tg (s.at obj) o c dn g r v/\
 L 400 [enc d0,enc d1,enc s,th,op,obj,arg,tries]=some (outA s th op obj (Mx d0 obj) (act (Mx d0 obj) (Mo d0 s obj) th op arg tries o c dn g r v)):=by
 obtain⟨ho,hle⟩:=aiY h0 h1 hf A;have hin:op∈ops:=arB hop.1 (by rw [A.k]; have:=ho.1; omega);have a1:=A.o0; have a2:=A.o1;obtain⟨i,rfl⟩ : ∃i:Nat,obj=(i:Int):=⟨obj.toNat,by omega⟩;have hi:i<s.l.length:=by omega
 have ht:=BZ hs (by omega);obtain⟨o,c,dn,g,r,v,T⟩:=Nb (hs.thing _ (aJm hi));have hfx:=hf _ (aJm hi);rw [T.is] at hfx;have hkk:L 600 [op]=some [((d0.at (i:Int)).hd 0).n]:=by rw [Yx op hop,A.k]
 refine⟨hin,o,c,dn,g,r,v,by rw [aX hi]; exact T,?_⟩;refine axU ⟨aC9 s ht i hi o c dn g r v T.is,awL s hs,A.r,A.t0,A.t1,A.o0,A.o1,hle,hkk,?_,?_,(axQ T.hr),fun h=>QN h0 h1 hs hf hop A h⟩ hin
 ·have:(r.l.length:Int)<17592186044415:=aKX.2 hfx.1;exact this
 ·have:(v.l.length:Int)<17592186044415:=aKX.2 hfx.2;exact this
theorem I8 (A: ¬Acc d0 d1 s th op obj):L 400 [enc d0,enc d1,enc s,th,op,obj,arg,tries]=some [enc s,0,0,0,0,0,0]:=by
 obtain⟨b,hb,hb2,_⟩:=nY h0 h1 hf.rows;by_cases ho:0<=obj/\obj<(s.l.length:Int)
 ·obtain⟨i,rfl⟩ : ∃i:Nat,obj=(i:Int):=⟨obj.toNat,by omega⟩;have hi:i<s.l.length:=by omega
  have ht:=BZ hs (by omega);obtain⟨o,c,dn,g,r,v,T⟩:=Nb (hs.thing _ (aJm hi));have hcp:=aC9 s ht i hi o c dn g r v T.is
  have hss:s=dL (dY s.l (i:Int) (dL [.i o,.i c,.i dn,.i g,r,v])):=by have:=set_self ht.sh hi;rw [T.is] at this;exact this.symm
  have hkk:=Yx op hop
  have key: ∀alt:Int,(alt=3\/alt=4\/alt=5\/alt=6)->L 9000 [(i:Int),enc s]=some [alt,(i:Int),enc s,o,c,dn,g,enc r,enc v]->L 400 [enc d0,enc d1,enc s,th,op,(i:Int),arg,tries]=some [enc s,0,0,0,0,0,0]:=by
   intro alt ha hcp;by_cases hb0:b=0
   ·exact aIf hb ha hcp ho.1 ho.2 T.hd hss hb0
   ·have hb1:b=1:=by omega
    by_cases t0:th<0
    ·exact aIe hb ha hcp ho.1 ho.2 T.hd hss hb0 t0
    ·by_cases t1:th<(d1.l.length:Int)
     ·have hne: ¬kindOf op=((d0.at (i:Int)).hd 0).n:=fun hk=>A ⟨by rw [hb,hb1],by omega,t1,ho.1,ho.2,hk⟩;obtain⟨_,hle⟩:=N7 h0 h1 hf (by rw [hb,hb1]);exact aIg hb ha hcp ho.1 ho.2 T.hd hss hb0 (by omega) t1 hkk hle hne
     ·exact aId hb ha hcp ho.1 ho.2 T.hd hss hb0 (by omega) t1
  refine key _ ?_ hcp;unfold qE;split<;>split<;>simp
 ·obtain⟨ys,hc,hys⟩:=copyN s hs obj (by omega);by_cases hn:obj<0
  ·rcases hys with rfl|⟨rfl,he⟩|⟨rfl,he⟩
   ·exact aGl hb hc hn
   ·exact aGj hb hc hn he
   ·exact aGh hb hc hn he
  ·rcases hys with rfl|⟨rfl,he⟩|⟨rfl,he⟩
   ·exact aGk hb hc (by omega) (by omega)
   ·exact aGi hb hc (by omega) (by omega) he
   ·exact aGg hb hc (by omega) (by omega) he
end
theorem LJ {d:D} {l:List D} (h: ∀x∈l,∃n,x= .i n/\iM .i64 n) (hl:l.length<=17592186043904):Wd (.sl 0) (fJ d l):=by
 cases l with
 |nil=>
  show Wd (.sl 0) (if d= .i 1 then .i 1 else .i 2);split
  ·exact .nil 0
  ·exact .non 0
 |cons a l=> refine .one 0 (.int .i64) (a::l) rfl (by simp) (by have:xC 0=8:=rfl; rw [this]; omega) fun x hx=>?_;obtain⟨n,rfl,hn⟩:=h x hx;exact .int _ _ hn
theorem zZ {l:List D} (h: ∀x∈l,∃n,x= .i n/\iM .i64 n) (hn:l≠[]) (hl:l.length<=17592186043904):Wd (.sl 0) (dL l):=by rw [<- zM (d:=.i 2) hn];exact LJ h hl
theorem Aa {r:D} (h:Wd (.sl 0) r): ∀x∈r.l,∃n,x= .i n/\iM .i64 n:=fun x hx=>(h.el1 rfl x hx).i
theorem wrap_in (z:Int):iM .i64 (IntKind.i64.wrap z):=by constructor<;>(rw [IntKind.wrap_i64]; omega)
def QZ (n:Nat):Act->Prop
 | .res o c dn g r v m _ oc=>iM .i64 o/\iM .i64 c/\(dn=0\/dn=1)/\iM .i64 g/\Wd (.sl 0) r/\r.l.length<=n/\Wd (.sl 0) v/\v.l.length<=n/\(∀q,m=some q->iM .i64 q)/\(oc=2\/oc=3)
 |_=>True
theorem QZ.ite {n:Nat} {p:Prop} [Decidable p] {a b:Act} (ha:QZ n a) (hb:QZ n b):QZ n (if p then a else b):=by
 split
 ·exact ha
 ·exact hb
def NoM:Act->Prop
 | .res _ _ _ _ _ _ m _ _=>m=none
 |_=>True
theorem NoM.ite {p:Prop} [Decidable p] {a b:Act} (ha:NoM a) (hb:NoM b):NoM (if p then a else b):=by
 split
 ·exact ha
 ·exact hb
section
variable {x:D} {M mo th op arg tries o c dn g:Int} {r v:D}
theorem axE (T:Tg x o c dn g r v) {n:Nat} (hr:r.l.length<=n) (hv:v.l.length<=n) (hn:n<17592186043904) (ht:iM .i64 th) (ha:iM .i64 arg):QZ (n+1) (act M mo th op arg tries o c dn g r v):=by
 have hm:iM .i64 (-1):=⟨by omega,by omega⟩;have hz:iM .i64 0:=⟨by omega,by omega⟩;have e1: ∀q:Int,(none:Option Int)=some q->iM .i64 q:=fun q h=>by simp at h
 have e2: ∀{p:Int},iM .i64 p->∀q:Int,some p=some q->iM .i64 q:=fun hp q h=>by simp only [aJf] at h; exact h▸hp
 have hr1:r.l.length<=n+1:=by omega
 have hv1:v.l.length<=n+1:=by omega
 have w:=@wrap_in
 have sn: ∀{l:List D} {t:Int},(∀x∈l,∃n,x= .i n/\iM .i64 n)->iM .i64 t->∀x∈l++ [.i t],∃n,x= .i n/\iM .i64 n:=fun h ht x hx=>by
  rcases aJ0.1 hx with hx|hx
  ·exact h x hx
  ·simp only [aJq,aJ4,or_false] at hx;exact⟨_,hx,ht⟩
 have r5:Wd (.sl 0) (dL (r.l++ [.i th])):=zZ (sn (Aa T.hr) ht) (by simp) (by simp; omega);have l5:(dL (r.l++ [.i th])).l.length<=n+1:=by rw [aW]; simp; omega
 have r20:Wd (.sl 0) (dL (v.l++ [.i arg])):=zZ (sn (Aa T.hv) ha) (by simp) (by simp; omega);have l20:(dL (v.l++ [.i arg])).l.length<=n+1:=by rw [aW]; simp; omega
 have r12:Wd (.sl 0) (dL (wo th r.l++ [.i th])):=zZ (sn (fun x hx=>(Aa T.hr) x (aKh.1 hx).1) ht) (by simp) (by have:=amO th r.l; simp; omega);have l12:(dL (wo th r.l++ [.i th])).l.length<=n+1:=by have:=amO th r.l; rw [aW]; simp; omega
 have r6: ∀k,Wd (.sl 0) (fJ (.i 2) (r.l.take k++r.l.drop (k+1))):=fun k=>LJ (fun x hx=>by
  rcases aJ0.1 hx with hx|hx
  ·exact (Aa T.hr) x (aJX hx)
  ·exact (Aa T.hr) x (aJT hx)) (by simp only [aJy,aJB,aJQ]; omega)
 have l6: ∀k,(fJ (.i 2) (r.l.take k++r.l.drop (k+1))).l.length<=n+1:=fun k=>by rw [jC]; simp only [aJy,aJB,aJQ]; omega
 have r21:Wd (.sl 0) (fJ v (v.l.drop 1)):=LJ (fun x hx=>(Aa T.hv) x (aJT hx)) (by simp; omega);have l21:(fJ v (v.l.drop 1)).l.length<=n+1:=by rw [jC]; simp; omega
 have r13:Wd (.sl 0) (fJ r (r.l.drop 1)):=LJ (fun x hx=>(Aa T.hr) x (aJT hx)) (by simp; omega);have l13:(fJ r (r.l.drop 1)).l.length<=n+1:=by rw [jC]; simp; omega
 have r14:Wd (.sl 0) (.i 1):=.nil 0;have l14:(D.i 1).l.length<=n+1:=by simp [D.l]
 unfold act
 repeat' refine QZ.ite ?_ ?_
 all_goals first
  |trivial
  |exact⟨by first |exact T.ho|exact ht|exact hm,by first |exact T.hc|exact w _|exact ha|exact hz,by first |exact T.hd|exact .inr rfl,by first |exact T.hg|exact w _,by first |exact T.hr|exact r5|exact r6 _|exact r12|exact r13|exact r14,by first |exact hr1|exact l5|exact l6 _|exact l12|exact l13|exact l14,by first |exact T.hv|exact r20|exact r21,by first |exact hv1|exact l20|exact l21,by first |exact e1|exact e2 hm|exact e2 ht,by first |exact .inl rfl|exact .inr rfl⟩
theorem UU (h12:op≠12) (h24:op≠24):NoM (act M mo th op arg tries o c dn g r v):=by
 unfold act;rw [aJd h12,aJd h24]
 repeat' refine NoM.ite ?_ ?_
 all_goals first
  |exact rfl
  |trivial
end
def isN (ys:List Int):Prop:= ∃v:Int,ys= [v]/\iM .i64 v
theorem arH:isN [0]:=⟨0,rfl,by constructor<;>omega⟩
theorem arG:isN [1]:=⟨1,rfl,by constructor<;>omega⟩
theorem aCd (z:Int):isN [IntKind.i64.wrap z]:=⟨_,rfl,wrap_in z⟩
theorem NS: ∀{d x:D},x∈d.l->SizeOf.sizeOf x<SizeOf.sizeOf d
 | .i _,x,h=>by simp [D.l] at h
 | .p a b,x,h=>by
   simp only [D.l,aJq] at h;rcases h with rfl|h
   ·simp only [D.p.sizeOf_spec]; omega
   ·have:=NS (d:=b) h;simp only [D.p.sizeOf_spec]; omega
def Nums (l:List D):Prop:= ∀y∈l,iM .i64 (awD y).n
theorem aqJ:Nums []:=fun y h=>by simp at h
theorem G8: ∀{l:List D} {k v:D},Nums l->iM .i64 v.n->Nums (CX l k v)
 |[],k,v,_,hv=>by intro y hy;simp only [CX,aJq,aJ4,or_false] at hy;subst hy;exact hv
 |d::l,k,v,hl,hv=>by
  intro y hy;simp only [CX] at hy;split at hy
  ·simp only [aJq] at hy;rcases hy with rfl|hy
   ·exact hv
   ·exact hl y (by simp [hy])
  ·simp only [aJq] at hy;rcases hy with rfl|hy
   ·exact hl _ (by simp)
   ·exact G8 (fun z hz=>hl z (by simp [hz])) hv y hy
theorem Yk: ∀{l:List D} {k:D},Nums l->iM .i64 ((pG l k).getD (.i 0)).n
 |[],k,_=>by constructor<;>simp [pG,D.n]
 |d::l,k,hl=>by
  simp only [pG];split
  ·exact hl d (by simp)
  ·exact Yk fun y hy=>hl y (by simp [hy])
theorem aAi {l:List D} {k:D} (h:Nums l):isN [((pG l k).getD (.i 0)).n]:=⟨_,rfl,Yk h⟩
def Ints (d:D):Prop:= ∀x∈d.l,iM .i64 x.n
theorem ints_at {d:D} (h:Ints d) {i:Int} (h0: ¬i<0) (h1:i<(d.l.length:Int)):iM .i64 (d.at i).n:=by obtain⟨k,rfl⟩ : ∃k:Nat,i=(k:Int):=⟨i.toNat,by omega⟩;rw [aX (by omega:k<d.l.length)];exact h _ (aJm _)
set_option maxHeartbeats 4000000 in
theorem YR: ∀(N:Nat) (kids:D),SizeOf.sizeOf kids<=N->Wd (.sl 6) kids->∀(k n:Int) (s loc:D),iM .i64 n->Ints loc->Tot 1950 [k,enc s,n,enc kids,enc loc] isN
 |0,kids,hN,_,_,_,_,_,_,_=>by exfalso;cases kids<;>simp at hN
 |N+1,kids,hN,hk,k,n,s,loc,hn,hi=>by
  have sub: ∀i:Nat,∃v:Int,iM .i64 v/\(i<kids.l.length->L 1950 [((kids.at (i:Int)).hd 0).n,enc ((kids.at (i:Int)).hd 1),((kids.at (i:Int)).hd 2).n,enc ((kids.at (i:Int)).hd 3),enc loc]=some [v]):=by
   intro i;by_cases hil:i<kids.l.length
   ·obtain⟨k',s',n',ks',he,_,_,hn',h2⟩:=Ej hk hil
    have hsz:SizeOf.sizeOf ks'<SizeOf.sizeOf kids.l[i]:=by rw [he];exact NS (by rw [aW]; simp)
    have hsz2:=NS (aJm hil);obtain⟨ys,hL,v,rfl,hv⟩:=YR N ks' (by omega) h2 k' n' s' loc hn' hi;refine⟨v,hv,fun _=>?_⟩;rw [aX hil,he];simp only [zg,aJl];exact hL
   ·exact⟨0,by constructor<;>omega,fun h=>absurd h hil⟩
  obtain⟨v0,hv0,h0⟩:=sub 0;obtain⟨v1,hv1,h1⟩:=sub 1;by_cases l1:(kids.l.length:Int)=1
  ·have h0:=h0 (by omega);simp only [aJR] at h0;refine Tot.of ?_;rw [ahU];simp only [XR,zz,l1,h0]
   repeat' first |exact .out ⟨_,rfl,hn⟩|exact .out arH|exact .out arG|exact .out (aCd _)|exact .out ⟨_,rfl,ints_at hi ‹_› ‹_›⟩|refine .ite (fun _=>?_) (fun _=>?_)
  ·by_cases l2:(kids.l.length:Int)=2
   ·have h0:=h0 (by omega);have h1:=h1 (by omega);simp only [aJR,aJH] at h0 h1;refine Tot.of ?_;rw [ahU];simp only [XR,zz,l1,l2,h0,h1]
    repeat' first |exact .out ⟨_,rfl,hn⟩|exact .out arH|exact .out arG|exact .out (aCd _)|exact .out ⟨_,rfl,ints_at hi ‹_› ‹_›⟩|(simp only [aW]; exact .out (aAi (G8 (G8 (G8 aqJ (wrap_in _)) (wrap_in _)) (wrap_in _))))|refine .ite (fun _=>?_) (fun _=>?_)
   ·refine Tot.of ?_;rw [ahU];simp only [XR,zz,l1,l2]
    repeat' first |exact .out ⟨_,rfl,hn⟩|exact .out arH|exact .out arG|exact .out ⟨_,rfl,ints_at hi ‹_› ‹_›⟩|refine .ite (fun _=>?_) (fun _=>?_)
structure Kt (x:D) (a:Int) (lc:D) (w o g tr:Int):Prop where
 is:x=dL [.i a,lc,.i w,.i o,.i g,.i tr]
 ha:iM .i64 a
 hl:Wd (.sl 0) lc
 hw:iM .u8 w
 ho:iM .i64 o
 hg:iM .i64 g
 ht:iM .i64 tr
theorem jO {d:D} (h:Wd (.sl 8) d): ∀x∈d.l,∃a lc w o g tr,Kt x a lc w o g tr:=by intro x hx;obtain⟨r,rfl,hl,hc⟩:=h.elN (cs:=[.int .i64,.sl 0,.int .u8,.int .i64,.int .i64,.int .i64]) rfl x hx;obtain⟨a,b,c,d,e,f,rfl⟩:=six hl;obtain⟨a,rfl,ha⟩:=(hc 0 _ _ rfl rfl).i;obtain⟨w,rfl,hw⟩:=(hc 2 _ _ rfl rfl).i;obtain⟨o,rfl,ho⟩:=(hc 3 _ _ rfl rfl).i;obtain⟨g,rfl,hg⟩:=(hc 4 _ _ rfl rfl).i;obtain⟨t,rfl,ht⟩:=(hc 5 _ _ rfl rfl).i;exact⟨a,b,w,o,g,t,rfl,ha,hc 1 _ _ rfl rfl,hw,ho,hg,ht⟩
structure Tk (d:D):Prop where
 wd:Wd (.sl 8) d
 sh:d=dL d.l
 few:d.l.length<=2199023255500
theorem BU {d:D} (h:Wd (.sl 8) d) (hn:0<d.l.length):Tk d:=by
 refine⟨h,?_,?_⟩
 ·rcases h.sh with rfl|rfl|⟨h1,_⟩
  ·simp [D.l] at hn
  ·simp [D.l] at hn
  ·exact h1
 ·have hr:=h.room;have h3:xC 8=64:=rfl;rw [h3] at hr;omega
theorem EO (a b c d e f x:D):dY [a,b,c,d,e,f] 1 x= [a,x,c,d,e,f]:=rfl
theorem aK (j:Nat) (xs:List Int):fin L (.jump j xs)=L j xs:=rfl
theorem aG (ys:List Int):fin L (.out ys)=some ys:=rfl
def DF (lc:D):Int:=if 0<lc.l.length then 3 else 4
theorem Zu {lc:D} (h:(0:Int)<(lc.l.length:Int)):DF lc=3:=aJe (by omega)
theorem aiF (d:D) (h:Th d) (k:D): ∀(j i:Nat),i+j=d.l.length->L 1901 [(d.l.length:Int),(i:Int),enc d,enc k]=L 1910 [(k.l.length:Int),0,enc d,enc k]
 |0,i,hi=>by
  have c1: ¬(i:Int)<(d.l.length:Int):=by omega
  rw [aN,auJ];simp only [afN,zz,c1,aK,aJR]
 |j+1,i,hi=>by
  have hl:=h.few;have hil:i<d.l.length:=by omega
  have c1:(i:Int)<(d.l.length:Int):=by omega
  have c2: ¬((i:Int)<0):=by omega
  have w:=aZ (n:=i) (by omega);have ih:=aiF d h k j (i+1) (by omega);obtain⟨o,c,dn,g,r,v,he,_,_,_,_,hr,hv⟩:=h.wd.thing _ (aJm hil);have hs:=set_self h.sh hil;rw [he] at hs;rw [aN,auJ];rcases bF hr with rfl|rfl|⟨r1,r2⟩ <;>rcases bF hv with rfl|rfl|⟨v1,v2⟩
  all_goals
   simp only [afN,zz,c1,c2,w,aX hil,he,eP,aW,aJn,aJk,NU,NT,hs,len1,len2,nI,iP]
   try simp only [r1,r2,zz]
   try simp only [v1,v2,zz]
   try simp only [aK]
   exact ih
theorem aiE (d:D) (h:Th d): ∀(j i:Nat),i+j=d.l.length->L 1902 [(d.l.length:Int),(i:Int),enc d]=L 1911 [enc d]
 |0,i,hi=>by
  have c1: ¬(i:Int)<(d.l.length:Int):=by omega
  rw [aN,auI];simp only [afM,zz,c1,aK,aJR]
 |j+1,i,hi=>by
  have hl:=h.few;have hil:i<d.l.length:=by omega
  have c1:(i:Int)<(d.l.length:Int):=by omega
  have c2: ¬((i:Int)<0):=by omega
  have w:=aZ (n:=i) (by omega);have ih:=aiE d h j (i+1) (by omega);obtain⟨o,c,dn,g,r,v,he,_,_,_,_,hr,hv⟩:=h.wd.thing _ (aJm hil);have hs:=set_self h.sh hil;rw [he] at hs;rw [aN,auI];rcases bF hr with rfl|rfl|⟨r1,r2⟩ <;>rcases bF hv with rfl|rfl|⟨v1,v2⟩
  all_goals
   simp only [afM,zz,c1,c2,w,aX hil,he,eP,aW,aJn,aJk,NU,NT,hs,len1,len2,nI,iP]
   try simp only [r1,r2,zz]
   try simp only [v1,v2,zz]
   try simp only [aK]
   exact ih
theorem Xc (d:D) (h:Th d) (x0:Int) (k:D): ∀(j i:Nat),i+j=d.l.length->L 9051 [x0,(d.l.length:Int),(i:Int),enc d,enc k]=L 9060 [x0,(k.l.length:Int),0,enc d,enc k]
 |0,i,hi=>by
  have c1: ¬(i:Int)<(d.l.length:Int):=by omega
  rw [aN,atD];simp only [aeO,zz,c1,aK,aJR]
 |j+1,i,hi=>by
  have hl:=h.few;have hil:i<d.l.length:=by omega
  have c1:(i:Int)<(d.l.length:Int):=by omega
  have c2: ¬((i:Int)<0):=by omega
  have w:=aZ (n:=i) (by omega);have ih:=Xc d h x0 k j (i+1) (by omega);obtain⟨o,c,dn,g,r,v,he,_,_,_,_,hr,hv⟩:=h.wd.thing _ (aJm hil);have hs:=set_self h.sh hil;rw [he] at hs;rw [aN,atD];rcases bF hr with rfl|rfl|⟨r1,r2⟩ <;>rcases bF hv with rfl|rfl|⟨v1,v2⟩
  all_goals
   simp only [aeO,zz,c1,c2,w,aX hil,he,eP,aW,aJn,aJk,NU,NT,hs,len1,len2,nI,iP]
   try simp only [r1,r2,zz]
   try simp only [v1,v2,zz]
   try simp only [aK]
   exact ih
theorem aiD (d:D) (h:Th d) (x0:Int): ∀(j i:Nat),i+j=d.l.length->L 9052 [x0,(d.l.length:Int),(i:Int),enc d]=L 9061 [x0,enc d]
 |0,i,hi=>by
  have c1: ¬(i:Int)<(d.l.length:Int):=by omega
  rw [aN,atC];simp only [aeN,zz,c1,aK,aJR]
 |j+1,i,hi=>by
  have hl:=h.few;have hil:i<d.l.length:=by omega
  have c1:(i:Int)<(d.l.length:Int):=by omega
  have c2: ¬((i:Int)<0):=by omega
  have w:=aZ (n:=i) (by omega);have ih:=aiD d h x0 j (i+1) (by omega);obtain⟨o,c,dn,g,r,v,he,_,_,_,_,hr,hv⟩:=h.wd.thing _ (aJm hil);have hs:=set_self h.sh hil;rw [he] at hs;rw [aN,atC];rcases bF hr with rfl|rfl|⟨r1,r2⟩ <;>rcases bF hv with rfl|rfl|⟨v1,v2⟩
  all_goals
   simp only [aeN,zz,c1,c2,w,aX hil,he,eP,aW,aJn,aJk,NU,NT,hs,len1,len2,nI,iP]
   try simp only [r1,r2,zz]
   try simp only [v1,v2,zz]
   try simp only [aK]
   exact ih
theorem aiN (k:D) (h:Tk k) (s:D): ∀(j i:Nat),i+j=k.l.length->L 1910 [(k.l.length:Int),(i:Int),enc s,enc k]=some [enc s,enc k]
 |0,i,hi=>by
  have c1: ¬(i:Int)<(k.l.length:Int):=by omega
  rw [aN,auH];simp only [afL,zz,c1,aG]
 |j+1,i,hi=>by
  have hl:=h.few;have hil:i<k.l.length:=by omega
  have c1:(i:Int)<(k.l.length:Int):=by omega
  have c2: ¬((i:Int)<0):=by omega
  have w:=aZ (n:=i) (by omega);have ih:=aiN k h s j (i+1) (by omega);obtain⟨a,lc,w',o,g,tr,T⟩:=jO h.wd _ (aJm hil);have hs:=set_self h.sh hil;rw [T.is] at hs;rw [aN,auH];rcases bF T.hl with rfl|rfl|⟨r1,r2⟩
  all_goals
   simp only [afL,zz,c1,c2,w,aX hil,T.is,eP,aW,aJn,aJk,EO,hs,len1,len2,nI,iP]
   try simp only [r1,r2,zz]
   try simp only [aK]
   exact ih
theorem aiM (k:D) (h:Tk k): ∀(j i:Nat),i+j=k.l.length->L 1913 [(k.l.length:Int),(i:Int),enc k]=some [enc (.i 1),enc k]
 |0,i,hi=>by
  have c1: ¬(i:Int)<(k.l.length:Int):=by omega
  rw [aN,auG];simp only [afK,zz,c1,aG]
 |j+1,i,hi=>by
  have hl:=h.few;have hil:i<k.l.length:=by omega
  have c1:(i:Int)<(k.l.length:Int):=by omega
  have c2: ¬((i:Int)<0):=by omega
  have w:=aZ (n:=i) (by omega);have ih:=aiM k h j (i+1) (by omega);obtain⟨a,lc,w',o,g,tr,T⟩:=jO h.wd _ (aJm hil);have hs:=set_self h.sh hil;rw [T.is] at hs;rw [aN,auG];rcases bF T.hl with rfl|rfl|⟨r1,r2⟩
  all_goals
   simp only [afK,zz,c1,c2,w,aX hil,T.is,eP,aW,aJn,aJk,EO,hs,len1,len2,nI,iP]
   try simp only [r1,r2,zz]
   try simp only [aK]
   exact ih
theorem aiL (k:D) (h:Tk k) (x0:Int) (s:D): ∀(j i:Nat),(hx:x0<0\/(k.l.length:Int)<=x0)->i+j=k.l.length->L 9060 [x0,(k.l.length:Int),(i:Int),enc s,enc k]=some [0,x0,enc s,enc k]
 |0,i,hx,hi=>by
  have c1: ¬(i:Int)<(k.l.length:Int):=by omega
  rw [aN,Y9];by_cases c0:(i:Int)=x0
  ·subst c0;simp only [Gt,zz,c1,aG]
  ·simp only [Gt,zz,c0,c1,aG]
 |j+1,i,hx,hi=>by
  have hl:=h.few;have hil:i<k.l.length:=by omega
  have c1:(i:Int)<(k.l.length:Int):=by omega
  have c2: ¬((i:Int)<0):=by omega
  have c0: ¬((i:Int)=x0):=by omega
  have w:=aZ (n:=i) (by omega);have ih:=aiL k h x0 s j (i+1) hx (by omega);obtain⟨a,lc,w',o,g,tr,T⟩:=jO h.wd _ (aJm hil);have hs:=set_self h.sh hil;rw [T.is] at hs;rw [aN,Y9];rcases bF T.hl with rfl|rfl|⟨r1,r2⟩
  all_goals
   simp only [Gt,zz,c0,c1,c2,w,aX hil,T.is,eP,aW,aJn,aJk,EO,hs,len1,len2,nI,iP]
   try simp only [r1,r2,zz]
   try simp only [aK]
   exact ih
theorem aiK (k:D) (h:Tk k) (x0:Int): ∀(j i:Nat),(hx:x0<0\/(k.l.length:Int)<=x0)->i+j=k.l.length->L 9063 [x0,(k.l.length:Int),(i:Int),enc k]=some [0,x0,enc (.i 1),enc k]
 |0,i,hx,hi=>by
  have c1: ¬(i:Int)<(k.l.length:Int):=by omega
  rw [aN,Y8];by_cases c0:(i:Int)=x0
  ·subst c0;simp only [Gq,zz,c1,aG]
  ·simp only [Gq,zz,c0,c1,aG]
 |j+1,i,hx,hi=>by
  have hl:=h.few;have hil:i<k.l.length:=by omega
  have c1:(i:Int)<(k.l.length:Int):=by omega
  have c2: ¬((i:Int)<0):=by omega
  have c0: ¬((i:Int)=x0):=by omega
  have w:=aZ (n:=i) (by omega);have ih:=aiK k h x0 j (i+1) hx (by omega);obtain⟨a,lc,w',o,g,tr,T⟩:=jO h.wd _ (aJm hil);have hs:=set_self h.sh hil;rw [T.is] at hs;rw [aN,Y8];rcases bF T.hl with rfl|rfl|⟨r1,r2⟩
  all_goals
   simp only [Gq,zz,c0,c1,c2,w,aX hil,T.is,eP,aW,aJn,aJk,EO,hs,len1,len2,nI,iP]
   try simp only [r1,r2,zz]
   try simp only [aK]
   exact ih
theorem aiJ (k:D) (h:Tk k) (gi:Nat) (x4 x5 x6 x7 x8 x9:Int) (s:D): ∀(j i:Nat),gi<i->i+j=k.l.length->L 9069 [(gi:Int),(k.l.length:Int),(i:Int),enc s,enc k,x4,x5,x6,x7,x8,x9]=some [3,(gi:Int),enc s,enc k,x4,x5,x6,x7,x8,x9]
 |0,i,hg,hi=>by
  have c1: ¬(i:Int)<(k.l.length:Int):=by omega
  have c0: ¬((i:Int)=(gi:Int)):=by omega
  rw [aN,atB];simp only [aeM,zz,c0,c1,aG]
 |j+1,i,hg,hi=>by
  have hl:=h.few;have hil:i<k.l.length:=by omega
  have c1:(i:Int)<(k.l.length:Int):=by omega
  have c2: ¬((i:Int)<0):=by omega
  have c0: ¬((i:Int)=(gi:Int)):=by omega
  have w:=aZ (n:=i) (by omega);have ih:=aiJ k h gi x4 x5 x6 x7 x8 x9 s j (i+1) (by omega) (by omega);obtain⟨a,lc,w',o,g,tr,T⟩:=jO h.wd _ (aJm hil);have hs:=set_self h.sh hil;rw [T.is] at hs;rw [aN,atB];rcases bF T.hl with rfl|rfl|⟨r1,r2⟩
  all_goals
   simp only [aeM,zz,c0,c1,c2,w,aX hil,T.is,eP,aW,aJn,aJk,EO,hs,len1,len2,nI,iP]
   try simp only [r1,r2,zz]
   try simp only [aK]
   exact ih
theorem Xe (k:D) (h:Tk k) (gi:Nat) (x4 x5 x6 x7 x8 x9:Int) (s:D): ∀(j i:Nat),gi<i->i+j=k.l.length->L 9070 [(gi:Int),(k.l.length:Int),(i:Int),enc s,enc k,x4,x5,x6,x7,x8,x9]=some [4,(gi:Int),enc s,enc k,x4,x5,x6,x7,x8,x9]
 |0,i,hg,hi=>by
  have c1: ¬(i:Int)<(k.l.length:Int):=by omega
  have c0: ¬((i:Int)=(gi:Int)):=by omega
  rw [aN,atA];simp only [aeL,zz,c0,c1,aG]
 |j+1,i,hg,hi=>by
  have hl:=h.few;have hil:i<k.l.length:=by omega
  have c1:(i:Int)<(k.l.length:Int):=by omega
  have c2: ¬((i:Int)<0):=by omega
  have c0: ¬((i:Int)=(gi:Int)):=by omega
  have w:=aZ (n:=i) (by omega);have ih:=Xe k h gi x4 x5 x6 x7 x8 x9 s j (i+1) (by omega) (by omega);obtain⟨a,lc,w',o,g,tr,T⟩:=jO h.wd _ (aJm hil);have hs:=set_self h.sh hil;rw [T.is] at hs;rw [aN,atA];rcases bF T.hl with rfl|rfl|⟨r1,r2⟩
  all_goals
   simp only [aeL,zz,c0,c1,c2,w,aX hil,T.is,eP,aW,aJn,aJk,EO,hs,len1,len2,nI,iP]
   try simp only [r1,r2,zz]
   try simp only [aK]
   exact ih
theorem aiI (k:D) (h:Tk k) (gi:Nat) (x4 x5 x6 x7 x8 x9:Int): ∀(j i:Nat),gi<i->i+j=k.l.length->L 9071 [(gi:Int),(k.l.length:Int),(i:Int),enc k,x4,x5,x6,x7,x8,x9]=some [3,(gi:Int),enc (.i 1),enc k,x4,x5,x6,x7,x8,x9]
 |0,i,hg,hi=>by
  have c1: ¬(i:Int)<(k.l.length:Int):=by omega
  have c0: ¬((i:Int)=(gi:Int)):=by omega
  rw [aN,asZ];simp only [aeK,zz,c0,c1,aG]
 |j+1,i,hg,hi=>by
  have hl:=h.few;have hil:i<k.l.length:=by omega
  have c1:(i:Int)<(k.l.length:Int):=by omega
  have c2: ¬((i:Int)<0):=by omega
  have c0: ¬((i:Int)=(gi:Int)):=by omega
  have w:=aZ (n:=i) (by omega);have ih:=aiI k h gi x4 x5 x6 x7 x8 x9 j (i+1) (by omega) (by omega);obtain⟨a,lc,w',o,g,tr,T⟩:=jO h.wd _ (aJm hil);have hs:=set_self h.sh hil;rw [T.is] at hs;rw [aN,asZ];rcases bF T.hl with rfl|rfl|⟨r1,r2⟩
  all_goals
   simp only [aeK,zz,c0,c1,c2,w,aX hil,T.is,eP,aW,aJn,aJk,EO,hs,len1,len2,nI,iP]
   try simp only [r1,r2,zz]
   try simp only [aK]
   exact ih
theorem Xd (k:D) (h:Tk k) (gi:Nat) (x4 x5 x6 x7 x8 x9:Int): ∀(j i:Nat),gi<i->i+j=k.l.length->L 9072 [(gi:Int),(k.l.length:Int),(i:Int),enc k,x4,x5,x6,x7,x8,x9]=some [4,(gi:Int),enc (.i 1),enc k,x4,x5,x6,x7,x8,x9]
 |0,i,hg,hi=>by
  have c1: ¬(i:Int)<(k.l.length:Int):=by omega
  have c0: ¬((i:Int)=(gi:Int)):=by omega
  rw [aN,asY];simp only [aeJ,zz,c0,c1,aG]
 |j+1,i,hg,hi=>by
  have hl:=h.few;have hil:i<k.l.length:=by omega
  have c1:(i:Int)<(k.l.length:Int):=by omega
  have c2: ¬((i:Int)<0):=by omega
  have c0: ¬((i:Int)=(gi:Int)):=by omega
  have w:=aZ (n:=i) (by omega);have ih:=Xd k h gi x4 x5 x6 x7 x8 x9 j (i+1) (by omega) (by omega);obtain⟨a,lc,w',o,g,tr,T⟩:=jO h.wd _ (aJm hil);have hs:=set_self h.sh hil;rw [T.is] at hs;rw [aN,asY];rcases bF T.hl with rfl|rfl|⟨r1,r2⟩
  all_goals
   simp only [aeJ,zz,c0,c1,c2,w,aX hil,T.is,eP,aW,aJn,aJk,EO,hs,len1,len2,nI,iP]
   try simp only [r1,r2,zz]
   try simp only [aK]
   exact ih
theorem aiH (k:D) (h:Tk k) (s:D) (gi:Nat) (hgi:gi<k.l.length) (a:Int) (lc:D) (w o g tr:Int) (T:Kt k.l[gi] a lc w o g tr): ∀(j i:Nat),i+j=gi->L 9060 [(gi:Int),(k.l.length:Int),(i:Int),enc s,enc k]=some [DF lc,(gi:Int),enc s,enc k,a,enc lc,w,o,g,tr]
 |0,i,hi=>by
  have hl:=h.few;have he:i=gi:=by omega
  subst he;have c1:(i:Int)<(k.l.length:Int):=by omega
  have c2: ¬((i:Int)<0):=by omega
  have w':=aZ (n:=i) (by omega);rw [aN,Y9];rcases bF T.hl with rfl|rfl|⟨r1,r2⟩
  ·have ih:=Xe k h i a (enc (.i 1)) w o g tr s (k.l.length-(i+1)) (i+1) (by omega) (by omega);simp only [Gt,zz,c1,c2,w',aX hgi,T.is,eP,aW,aJn,aJk,aLl,aKF,len1,len2,nI,iP,aK];exact ih
  ·have ih:=Xe k h i a (enc (.i 2)) w o g tr s (k.l.length-(i+1)) (i+1) (by omega) (by omega);simp only [Gt,zz,c1,c2,w',aX hgi,T.is,eP,aW,aJn,aJk,aLl,aKF,len1,len2,nI,iP,aK];exact ih
  ·have ih:=aiJ k h i a (enc lc) w o g tr s (k.l.length-(i+1)) (i+1) (by omega) (by omega);simp only [Gt,zz,c1,c2,w',aX hgi,T.is,eP,aW,aJn,aJk,len1,len2,nI,iP];simp only [r1,r2,zz,aK];rw [Zu r1];exact ih
 |j+1,i,hi=>by
  have hl:=h.few;have hil:i<k.l.length:=by omega
  have c1:(i:Int)<(k.l.length:Int):=by omega
  have c2: ¬((i:Int)<0):=by omega
  have c0: ¬((i:Int)=(gi:Int)):=by omega
  have w1:=aZ (n:=i) (by omega);have ih:=aiH k h s gi hgi a lc w o g tr T j (i+1) (by omega);obtain⟨a',lc',w',o',g',tr',T'⟩:=jO h.wd _ (aJm hil);have hs:=set_self h.sh hil;rw [T'.is] at hs;rw [aN,Y9];rcases bF T'.hl with rfl|rfl|⟨r1,r2⟩
  all_goals
   simp only [Gt,zz,c0,c1,c2,w1,aX hil,T'.is,eP,aW,aJn,aJk,EO,hs,len1,len2,nI,iP]
   try simp only [r1,r2,zz]
   try simp only [aK]
   exact ih
theorem aiG (k:D) (h:Tk k) (gi:Nat) (hgi:gi<k.l.length) (a:Int) (lc:D) (w o g tr:Int) (T:Kt k.l[gi] a lc w o g tr): ∀(j i:Nat),i+j=gi->L 9063 [(gi:Int),(k.l.length:Int),(i:Int),enc k]=some [DF lc,(gi:Int),enc (.i 1),enc k,a,enc lc,w,o,g,tr]
 |0,i,hi=>by
  have hl:=h.few;have he:i=gi:=by omega
  subst he;have c1:(i:Int)<(k.l.length:Int):=by omega
  have c2: ¬((i:Int)<0):=by omega
  have w':=aZ (n:=i) (by omega);rw [aN,Y8];rcases bF T.hl with rfl|rfl|⟨r1,r2⟩
  ·have ih:=Xd k h i a (enc (.i 1)) w o g tr (k.l.length-(i+1)) (i+1) (by omega) (by omega);simp only [Gq,zz,c1,c2,w',aX hgi,T.is,eP,aW,aJn,aJk,aLl,aKF,len1,len2,nI,iP,aK];exact ih
  ·have ih:=Xd k h i a (enc (.i 2)) w o g tr (k.l.length-(i+1)) (i+1) (by omega) (by omega);simp only [Gq,zz,c1,c2,w',aX hgi,T.is,eP,aW,aJn,aJk,aLl,aKF,len1,len2,nI,iP,aK];exact ih
  ·have ih:=aiI k h i a (enc lc) w o g tr (k.l.length-(i+1)) (i+1) (by omega) (by omega);simp only [Gq,zz,c1,c2,w',aX hgi,T.is,eP,aW,aJn,aJk,len1,len2,nI,iP];simp only [r1,r2,zz,aK];rw [Zu r1];exact ih
 |j+1,i,hi=>by
  have hl:=h.few;have hil:i<k.l.length:=by omega
  have c1:(i:Int)<(k.l.length:Int):=by omega
  have c2: ¬((i:Int)<0):=by omega
  have c0: ¬((i:Int)=(gi:Int)):=by omega
  have w1:=aZ (n:=i) (by omega);have ih:=aiG k h gi hgi a lc w o g tr T j (i+1) (by omega);obtain⟨a',lc',w',o',g',tr',T'⟩:=jO h.wd _ (aJm hil);have hs:=set_self h.sh hil;rw [T'.is] at hs;rw [aN,Y8];rcases bF T'.hl with rfl|rfl|⟨r1,r2⟩
  all_goals
   simp only [Gq,zz,c0,c1,c2,w1,aX hil,T'.is,eP,aW,aJn,aJk,EO,hs,len1,len2,nI,iP]
   try simp only [r1,r2,zz]
   try simp only [aK]
   exact ih
structure Sk (s k:D):Prop where
 ws:Wd (.sl 7) s
 wk:Wd (.sl 8) k
 n2s:s≠.i 2
 n2k:k≠.i 2
theorem Ou {t:Nat} {d:D} (h:Wd (.sl t) d) (h2:d≠.i 2):d= .i 1\/0<d.l.length:=by
 rcases h.sh with h1|h1|⟨_,h1⟩
 ·exact .inl h1
 ·exact absurd h1 h2
 ·exact .inr (aKe.2 h1)
theorem azT (x0:Int) (s:D):L 9061 [x0,enc s]=some [1,x0,enc s]:=by rw [aN,aCk];simp only [anG,zz];split<;>rfl
theorem azS (x0:Int):L 9064 [x0]=some [1,x0,enc (.i 1)]:=by rw [aN,aCj];simp only [anF,zz];split<;>rfl
theorem azV (s:D):L 1911 [enc s]=some [enc s,enc (.i 1)]:=by rw [aN,aCP];rfl
theorem azU:L 1914 []=some [enc (.i 1),enc (.i 1)]:=by rw [aN,aCO];rfl
theorem asB (x0:Int) (k:D):L 9054 [x0,enc k]=L 9063 [x0,(k.l.length:Int),0,enc k]:=by rw [aN,aCm];simp only [anH,zz,aK]
theorem aEh (x0:Int):L 9055 [x0]=L 9064 [x0]:=by rw [aN,aCl];rfl
theorem aEj (k:D):L 1904 [enc k]=L 1913 [(k.l.length:Int),0,enc k]:=by rw [aN,aCR];simp only [aoK,zz,aK]
theorem aEi:L 1905 []=L 1914 []:=by rw [aN,aCQ];rfl
section
variable {s k:D} (h:Sk s k)
include h
theorem UM:L 1900 [enc s,enc k]=some [enc s,enc k]:=by
 rw [aN,aCS];rcases Ou h.ws h.n2s with rfl|hs<;>rcases Ou h.wk h.n2k with rfl|hk
 ·simp only [RY,zz,len1,nI,aK];exact aEi.trans azU
 ·have hK:=BU h.wk hk;have hl:=hK.few;have c1:(0:Int)<(k.l.length:Int):=by omega
  have c2:(k.l.length:Int)<2199023255552:=by omega
  simp only [RY,zz,len1,nI,c1,c2,aK];exact (aEj k).trans (aiM k hK k.l.length 0 (by omega))
 ·have hT:=BZ h.ws hs;have hl:=hT.few;have c1:(0:Int)<(s.l.length:Int):=by omega
  have c2:(s.l.length:Int)<1759218604441:=by omega
  simp only [RY,zz,len1,nI,c1,c2,aK];exact (aiE s hT s.l.length 0 (by omega)).trans (azV s)
 ·have hT:=BZ h.ws hs;have hl:=hT.few;have c1:(0:Int)<(s.l.length:Int):=by omega
  have c2:(s.l.length:Int)<1759218604441:=by omega
  have hK:=BU h.wk hk;have hl':=hK.few;have c1':(0:Int)<(k.l.length:Int):=by omega
  have c2':(k.l.length:Int)<2199023255552:=by omega
  simp only [RY,zz,nI,c1,c2,c1',c2',aK];exact (aiF s hT k s.l.length 0 (by omega)).trans (aiN k hK s k.l.length 0 (by omega))
theorem UN {gi:Nat} (hgi:gi<k.l.length) {a:Int} {lc:D} {w o g tr:Int} (T:Kt k.l[gi] a lc w o g tr):L 9050 [(gi:Int),enc s,enc k]=some [DF lc,(gi:Int),enc s,enc k,a,enc lc,w,o,g,tr]:=by
 have hk:0<k.l.length:=by omega
 have hK:=BU h.wk hk;have hl':=hK.few;have c1':(0:Int)<(k.l.length:Int):=by omega
 have c2':(k.l.length:Int)<2199023255552:=by omega
 rw [aN,atE];rcases Ou h.ws h.n2s with rfl|hs
 ·simp only [JR,zz,len1,nI,c1',c2',aK];exact (asB _ k).trans (aiG k hK gi hgi a lc w o g tr T gi 0 (by omega))
 ·have hT:=BZ h.ws hs;have hl:=hT.few;have c1:(0:Int)<(s.l.length:Int):=by omega
  have c2:(s.l.length:Int)<1759218604441:=by omega
  simp only [JR,zz,nI,c1,c2,c1',c2',aK];exact (Xc s hT _ k s.l.length 0 (by omega)).trans (aiH k hK s gi hgi a lc w o g tr T gi 0 (by omega))
theorem alT {x:Int} (hx:x<0\/(k.l.length:Int)<=x):L 9050 [x,enc s,enc k]=some [0,x,enc s,enc k]\/L 9050 [x,enc s,enc k]=some [1,x,enc s]/\k= .i 1:=by
 rw [aN,atE];rcases Ou h.ws h.n2s with rfl|hs<;>rcases Ou h.wk h.n2k with rfl|hk
 ·refine .inr ⟨?_,rfl⟩;simp only [JR,zz,len1,nI,aK];exact (aEh _).trans (azS _)
 ·have hK:=BU h.wk hk;have hl:=hK.few;have c1:(0:Int)<(k.l.length:Int):=by omega
  have c2:(k.l.length:Int)<2199023255552:=by omega
  refine .inl ?_;simp only [JR,zz,len1,nI,c1,c2,aK];exact (asB _ k).trans (aiK k hK _ k.l.length 0 hx (by omega))
 ·have hT:=BZ h.ws hs;have hl:=hT.few;have c1:(0:Int)<(s.l.length:Int):=by omega
  have c2:(s.l.length:Int)<1759218604441:=by omega
  refine .inr ⟨?_,rfl⟩;simp only [JR,zz,len1,nI,c1,c2,aK];exact (aiD s hT _ s.l.length 0 (by omega)).trans (azT _ s)
 ·have hT:=BZ h.ws hs;have hl:=hT.few;have c1:(0:Int)<(s.l.length:Int):=by omega
  have c2:(s.l.length:Int)<1759218604441:=by omega
  have hK:=BU h.wk hk;have hl':=hK.few;have c1':(0:Int)<(k.l.length:Int):=by omega
  have c2':(k.l.length:Int)<2199023255552:=by omega
  refine .inl ?_;simp only [JR,zz,nI,c1,c2,c1',c2',aK];exact (Xc s hT _ k s.l.length 0 (by omega)).trans (aiL k hK _ s k.l.length 0 hx (by omega))
end
def EqI (a b:D) (i:Nat):Prop:= ∀(k:Nat) (h1:k<a.l.length) (h2:k<b.l.length),i<=k->(a.l[k]).n=(b.l[k]).n
theorem EqI.step {a b:D} {i:Nat} (h1:i<a.l.length) (h2:i<b.l.length) (h:(a.l[i]).n=(b.l[i]).n):EqI a b i↔EqI a b (i+1):=by
 constructor
 ·intro q k x y z;exact q k x y (by omega)
 ·intro q k x y z;by_cases hk:k=i
  ·subst hk;exact h
  ·exact q k x y (by omega)
theorem EqI.end' {a b:D} {i:Nat} (h:a.l.length<=i):EqI a b i:=fun k h1 _ h3=>absurd h1 (by omega)
section
variable {a b:D} (hle:a.l.length=b.l.length) (hlen:a.l.length<=140737488351232)
include hle hlen
theorem Uc: ∀(j i:Nat),i+j=a.l.length->∃c:Int,L 251 [enc a,enc b,(i:Int)]=some [c]/\(c=0\/c=1)/\(c=1↔EqI a b i)
 |0,i,hi=>by
  have c1: ¬(i:Int)<(a.l.length:Int):=by omega
  refine⟨1,?_,.inr rfl,fun _=>EqI.end' (by omega),fun _=>rfl⟩;rw [aN,e251];simp only [aoH,zz,c1,fin]
 |j+1,i,hi=>by
  have hil:i<a.l.length:=by omega
  have hib:i<b.l.length:=by omega
  have c1:(i:Int)<(a.l.length:Int):=by omega
  have c2: ¬((i:Int)<0):=by omega
  have c3:(i:Int)<(b.l.length:Int):=by omega
  have w:=aZ (n:=i) (by omega);obtain⟨c,h1,h2,h3⟩:=Uc j (i+1) (by omega);by_cases he:(a.l[i]).n=(b.l[i]).n
  ·refine⟨c,?_,h2,h3.trans (EqI.step hil hib he).symm⟩;rw [aN,e251];simp only [aoH,zz,c1,c2,c3,w,aX hil,aX hib,he,fin,h1]
  ·refine⟨0,?_,.inl rfl,fun h=>absurd h (by omega),fun h=>absurd (h i hil hib (aJi i)) he⟩;rw [aN,e251];simp only [aoH,zz,c1,c2,c3,w,aX hil,aX hib,he,fin]
end
def axH (a b:D):Prop:=a.l.length=b.l.length/\EqI a b 0
theorem akQ (a b:D) (hlen:a.l.length<=140737488351232): ∃c:Int,L 250 [enc a,enc b]=some [c]/\(c=0\/c=1)/\(c=1↔axH a b):=by
 by_cases hl:a.l.length=b.l.length
 ·obtain⟨c,h1,h2,h3⟩:=Uc hl hlen a.l.length 0 (by omega);refine⟨c,?_,h2,h3.trans ⟨fun h=> ⟨hl,h⟩,fun h=>h.2⟩⟩;have hl':(a.l.length:Int)=(b.l.length:Int):=by omega
  rw [aN,e250,ayP,dP,aJe,pR]
  ·simp only [List.map,bT,aY,Nat.reduceLT,aQ,aT,fin];exact h1
  ·simp only [jD,iK,aY,Nat.reduceLT,aQ,aT,aF,jG];exact hl'
 ·refine⟨0,?_,.inl rfl,fun h=>absurd h (by omega),fun h=>absurd h.1 hl⟩;have hl': ¬(a.l.length:Int)=(b.l.length:Int):=by omega
  rw [aN,e250,ayP,dP,aJd]
  ·simp only [kR,List.map,bT,fin]
  ·simp only [jD,iK,aY,Nat.reduceLT,aQ,aT,aF,jG];exact hl'
theorem RN (x y:D) (hle:x.l.length=y.l.length) (hlen:x.l.length<=140737488351232) (x0 x1 x2:Int) (i:Nat) (hi:i<9223372036854775807) (c:Int) (hc:c=0\/c=1) (h:L 201 [x0,x1,x2,((i+1:Nat):Int)]=some [c]) (x6 x7 x8 x9 x10 x12 x13 x14 x15 x16:Int) :
 ∀(j k:Nat),k+j=x.l.length->∃e:Int,L 202 [x0,x1,x2,(i:Int),(x.l.length:Int),(k:Int),x6,x7,x8,x9,x10,enc x,x12,x13,x14,x15,x16,enc y]=some [e]/\(e=0\/e=1)/\(e=1↔EqI x y k/\c=1)
 |0,k,hk=>by
  have c1: ¬(k:Int)<(x.l.length:Int):=by omega
  have w:=aZ (n:=i) (by omega);refine⟨c,?_,hc,fun h=> ⟨EqI.end' (by omega),h⟩,fun h=>h.2⟩;rw [aN,aA7];simp only [aoJ,zz,c1,w,fin,h]
 |j+1,k,hk=>by
  have hil:k<x.l.length:=by omega
  have hib:k<y.l.length:=by omega
  have c1:(k:Int)<(x.l.length:Int):=by omega
  have c2: ¬((k:Int)<0):=by omega
  have c3:(k:Int)<(y.l.length:Int):=by omega
  have w:=aZ (n:=k) (by omega);obtain⟨e,h1,h2,h3⟩:=RN x y hle hlen x0 x1 x2 i hi c hc h x6 x7 x8 x9 x10 x12 x13 x14 x15 x16 j (k+1) (by omega);by_cases he:(x.l[k]).n=(y.l[k]).n
  ·refine⟨e,?_,h2,h3.trans ⟨fun q=> ⟨(EqI.step hil hib he).2 q.1,q.2⟩,fun q=> ⟨(EqI.step hil hib he).1 q.1,q.2⟩⟩⟩;rw [aN,aA7];simp only [aoJ,zz,c1,c2,c3,w,aX hil,aX hib,he,fin,h1]
  ·refine⟨0,?_,.inl rfl,fun h=>absurd h (by omega),fun h=>absurd (h.1 k hil hib (aJi k)) he⟩;rw [aN,aA7];simp only [aoJ,zz,c1,c2,c3,w,aX hil,aX hib,he,fin]
theorem mJ (ρ) (a b:SB):((SB.and a b).den ρ=true)=(a.den ρ=true/\b.den ρ=true):=by simp [SB.den]
structure aHX (x y:D):Prop where
 o:(x.hd 0).n=(y.hd 0).n
 c:(x.hd 1).n=(y.hd 1).n
 d:(x.hd 2).n=0↔(y.hd 2).n=0
 g:(x.hd 3).n=(y.hd 3).n
 r:axH (x.hd 4) (y.hd 4)
 v:axH (x.hd 5) (y.hd 5)
def Zz (a b:D) (i:Nat):Prop:= ∀(k:Nat) (h1:k<a.l.length) (h2:k<b.l.length),i<=k->aHX a.l[k] b.l[k]
theorem bits {p q:Int}:((¬(¬p=0/\¬q=0))/\¬(¬¬p=0/\¬¬q=0))↔¬(p=0↔q=0):=by omega
def Vz (s:D):Prop:= ∀x∈s.l,(x.hd 4).l.length<=140737488351232/\(x.hd 5).l.length<=140737488351232
section
variable {a b:D} (hle:a.l.length=b.l.length) (hlen:a.l.length<=140737488351232) (hr:Vz a)
include hle hlen hr
theorem SH: ∀(j i:Nat),i+j=a.l.length->∃c:Int,L 201 [enc a,enc b,(a.l.length:Int),(i:Int)]=some [c]/\(c=0\/c=1)/\(c=1↔Zz a b i)
 |0,i,hi=>by
  have c1: ¬(i:Int)<(a.l.length:Int):=by omega
  refine⟨1,?_,.inr rfl,fun _ k h1 _ h3=>absurd h1 (by omega),fun _=>rfl⟩;rw [aN,WW];simp only [t201,zz,c1,fin]
 |j+1,i,hi=>by
  have hil:i<a.l.length:=by omega
  have hib:i<b.l.length:=by omega
  have c1:(i:Int)<(a.l.length:Int):=by omega
  have c2: ¬((i:Int)<0):=by omega
  have c3:(i:Int)<(b.l.length:Int):=by omega
  obtain⟨c,h1,h2,h3⟩:=SH j (i+1) (by omega);have hb:=hr _ (aJm hil);by_cases b0:((a.l[i]).hd 0).n=((b.l[i]).hd 0).n
  case neg=>
   refine⟨0,?_,.inl rfl,fun h=>absurd h (by omega),fun h=>absurd (h i hil hib (aJi i)).o b0⟩;rw [aN,WW];simp only [t201,zz,c1,c2,c3,aX hil,aX hib,b0,fin]
  by_cases b1:((a.l[i]).hd 1).n=((b.l[i]).hd 1).n
  case neg=>
   refine⟨0,?_,.inl rfl,fun h=>absurd h (by omega),fun h=>absurd (h i hil hib (aJi i)).c b1⟩;rw [aN,WW];simp only [t201,zz,c1,c2,c3,aX hil,aX hib,b0,b1,fin]
  by_cases b2:(((a.l[i]).hd 2).n=0↔((b.l[i]).hd 2).n=0)
  case neg=>
   refine⟨0,?_,.inl rfl,fun h=>absurd h (by omega),fun h=>absurd (h i hil hib (aJi i)).d b2⟩;rw [aN,WW];have b2':=bits.2 b2;simp only [t201,zz,mJ,NV,c1,c2,c3,aX hil,aX hib,b0,b1,aJe b2',fin]
  have b2': ¬_:=fun h=>bits.1 h b2;by_cases b3:((a.l[i]).hd 3).n=((b.l[i]).hd 3).n
  case neg=>
   refine⟨0,?_,.inl rfl,fun h=>absurd h (by omega),fun h=>absurd (h i hil hib (aJi i)).g b3⟩;rw [aN,WW];simp only [t201,zz,mJ,NV,c1,c2,c3,aX hil,aX hib,b0,b1,aJd b2',b3,fin]
  obtain⟨e,g1,g2,g3⟩:=akQ ((a.l[i]).hd 4) ((b.l[i]).hd 4) hb.1;by_cases b4:e=0
  ·subst b4;refine⟨0,?_,.inl rfl,fun h=>absurd h (by omega),fun h=>absurd (g3.2 (h i hil hib (aJi i)).r) (by omega)⟩;rw [aN,WW];simp only [t201,zz,mJ,NV,c1,c2,c3,aX hil,aX hib,b0,b1,aJd b2',b3,g1,fin]
  have he:e=1:=by omega
  subst he;by_cases b5:((a.l[i]).hd 5).l.length=((b.l[i]).hd 5).l.length
  case neg=>
   have b5': ¬(((a.l[i]).hd 5).l.length:Int)=(((b.l[i]).hd 5).l.length:Int):=by omega
   refine⟨0,?_,.inl rfl,fun h=>absurd h (by omega),fun h=>absurd (h i hil hib (aJi i)).v.1 b5⟩;rw [aN,WW];simp only [t201,zz,mJ,NV,c1,c2,c3,aX hil,aX hib,b0,b1,aJd b2',b3,g1,aC,b5',fin]
  have b5':(((a.l[i]).hd 5).l.length:Int)=(((b.l[i]).hd 5).l.length:Int):=by omega
  obtain⟨f,f1,f2,f3⟩:=RN ((a.l[i]).hd 5) ((b.l[i]).hd 5) b5 hb.2 (enc a) (enc b) (a.l.length:Int) i (by omega) c h2 h1 ((b.l[i]).hd 0).n ((b.l[i]).hd 1).n ((a.l[i]).hd 2).n ((b.l[i]).hd 3).n (enc ((a.l[i]).hd 4)) ((b.l[i]).hd 0).n ((b.l[i]).hd 1).n ((b.l[i]).hd 2).n ((b.l[i]).hd 3).n (enc ((b.l[i]).hd 4)) ((a.l[i]).hd 5).l.length 0 (by omega);refine⟨f,?_,f2,fun h k k1 k2 k3=>?_,fun h=>f3.2 ⟨(h i hil hib (aJi i)).v.2,h3.2 fun k k1 k2 k3=>h k k1 k2 (by omega)⟩⟩
  ·rw [aN,WW];rw [b5'] at f1;simp only [t201,zz,mJ,NV,c1,c2,c3,aX hil,aX hib,b0,b1,aJd b2',b3,g1,aC,b5',fin];exact f1
  ·by_cases hk:k=i
   ·subst hk;exact⟨b0,b1,b2,b3,g3.1 rfl,b5,(f3.1 h).1⟩
   ·exact h3.1 (f3.1 h).2 k k1 k2 (by omega)
end
theorem ajO (a b:D) (hlen:a.l.length<=140737488351232) (hr:Vz a): ∃c:Int,L 200 [enc a,enc b]=some [c]/\(c=0\/c=1)/\(c=1↔a.l.length=b.l.length/\Zz a b 0):=by
 by_cases hl:a.l.length=b.l.length
 ·obtain⟨c,h1,h2,h3⟩:=SH hl hlen hr a.l.length 0 (by omega);refine⟨c,?_,h2,h3.trans ⟨fun h=> ⟨hl,h⟩,fun h=>h.2⟩⟩;have hl':(a.l.length:Int)=(b.l.length:Int):=by omega
  rw [aN,aFr,ayQ,dP,aJe,pR]
  ·simp only [List.map,bT,iK,jG,aY,Nat.reduceLT,aQ,aT,aF,fin];exact h1
  ·simp only [jD,iK,aY,Nat.reduceLT,aQ,aT,aF,jG];exact hl'
 ·refine⟨0,?_,.inl rfl,fun h=>absurd h (by omega),fun h=>absurd h.1 hl⟩;have hl': ¬(a.l.length:Int)=(b.l.length:Int):=by omega
  rw [aN,aFr,ayQ,dP,aJd]
  ·simp only [kR,List.map,bT,fin]
  ·simp only [jD,iK,aY,Nat.reduceLT,aQ,aT,aF,jG];exact hl'
theorem asX (x0 x4 x5 x6 x7 x8 x10 x11 x12 x14:Int):Tot 501 [x0,enc (.i 1),0,0,x4,x5,x6,x7,x8,-1,x10,x11,x12,enc (.i 1),x14] (fun ys=>ys= [1]):=by
 refine Tot.of ?_;rw [alN,XP,dP,aJd]
 ·simp only [zz,wX,aJt]
  repeat' first
   |exact .out rfl
   |(exfalso; omega)
   |refine .ite (fun _=>?_) (fun _=>?_)
 ·simp only [oZ,aY,Nat.reduceLT,aQ,aT];omega
theorem ajI (k n x1 x3 x4:Int) (m:Nat) (h3:k=3->1<=n) (h5:k=5->1<=n/\n<=16) :
 Tot 500 [k,x1,n,x3,x4,-1,(if k=3\/k=9 then n else 0),0,0,enc (.i 1),enc (.i 1),(m:Int)] (fun ys=>ys= [1]):=by
 have w:k=5->IntKind.i64.wrap (n-1)=n-1:=fun h=>mY (by have:=h5 h; omega) (by have:=h5 h; omega)
 have aIA: ∃a b:Int,L 650 [k,x1,n,x3,x4]=some [a,b]/\(b=0\/b=1)/\(b≠0->k≠9/\0<=(if k=3\/k=9 then n else 0)/\(if k=3\/k=9 then n else 0)<=a):=by
  have:Tot 650 [k,x1,n,x3,x4] (fun ys=> ∃a b:Int,ys= [a,b]/\(b=0\/b=1)/\(b≠0->k≠9/\0<=(if k=3\/k=9 then n else 0)/\(if k=3\/k=9 then n else 0)<=a)):=by
   refine Tot.of ?_;rw [aA3];simp only [anL,zz]
   repeat' first
    |exact .out ⟨_,_,rfl,by omega,fun h=> ⟨by omega,by split<;>omega,by split<;>omega⟩⟩
    |refine .ite (fun _=>?_) (fun _=>?_)
   all_goals exact .out ⟨_,_,rfl,by omega,fun h=> ⟨by omega,by split<;>omega,by rw [w (by assumption)]; have:=h5 (by assumption); split<;>omega⟩⟩
  obtain⟨ys,h,a,b,rfl,h2⟩:=this;exact⟨a,b,h,h2⟩
 obtain⟨a,b,hm,hb,hr⟩:=aIA;refine Tot.of ?_;rw [aA4];simp only [ajF,zz,hm,wX,aJt]
 repeat' first
  |exact .out rfl
  |exact .jump (asX _ _ _ _ _ _ _ _ _ _)
  |(exfalso; omega)
  |refine .ite (fun _=>?_) (fun _=>?_)
theorem alV {d0:D} (hl:d0.l.length<=64) (hn:0<d0.l.length):L 301 [enc d0,(d0.l.length:Int)]=some [enc (dL (d0.l.map kG))]:=by
 have e0:=QK d0 hl (d0.l.length-1) 1 [kG (d0.l[0]'hn)] (by omega) rfl
 have e1:[kG (d0.l[0]'hn)]++(d0.l.drop 1).map kG=d0.l.map kG:=by
  conv=>rhs; rw [<- aKf (l:=d0.l),aJN hn]
  rfl
 rw [e1] at e0;have a0:d0.at 0=d0.l[0]'hn:=aX (i:=0) hn;have c1:(0:Int)<(d0.l.length:Int):=by omega
 have key: ∀q:Int,q=(if (((d0.l[0]'hn)).hd 0).n=3\/((d0.l[0]'hn).hd 0).n=9 then ((d0.l[0]'hn).hd 2).n else 0)->enc (dL [kG (d0.l[0]'hn)])=enc (.p (.p (.i (-1)) (.p (.i q) (.p (.i 0) (.p (.i 0) (.p (.i 1) (.p (.i 1) (.i 0))))))) (.i 0)):=fun q hq=>by rw [hq]; rfl
 have k:dX (bQ L (low [enc d0,(d0.l.length:Int)])) aaA= .jump 302 [enc (dL [kG (d0.l[0]'hn)]),enc d0,(d0.l.length:Int),1]:=by
  by_cases h3:((d0.l[0]'hn).hd 0).n=3
  ·rw [key _ (by rw [aJe (.inl h3)])];simp only [aaA,zz,c1,a0,wX,aJo,h3,dL]
  ·by_cases h9:((d0.l[0]'hn).hd 0).n=9
   ·rw [key _ (by rw [aJe (.inr h9)])];simp only [aaA,zz,c1,a0,wX,aJo,aJd h3,aJe h9,dL]
   ·rw [key 0 (by rw [aJd (by omega)])];simp only [aaA,zz,c1,a0,wX,aJo,aJd h3,aJd h9,dL]
 rw [aN,e301];exact (congrArg (fin L) k).trans e0
theorem awY {d0 d1:D} (hc:L 450 [enc d0,enc d1]=some [0]) (hl:d0.l.length<=64) (hn:0<d0.l.length):L 300 [enc d0,enc d1]=some [enc (dL (d0.l.map kG))]:=by
 have k:dX (bQ L (low [enc d0,enc d1])) aoF= .jump 301 [enc d0,(d0.l.length:Int)]:=by refine bD [.eq (a0 450 [.aP 0,.aP 1]) (.lit 1),.eq (rr 450 [.aP 0,.aP 1] 0) (.lit 0)] [] (ju 301 [.aP 0,ln (.aP 0)]) (by simp only [zz,hc]) (by kernel_rfl) ?_;simp only [pR,List.map,aY,iK,Nat.reduceLT,aQ,aT,aF]
 rw [aN,e300];exact (congrArg (fin L) k).trans (alV hl hn)
theorem awX {d0 d1:D} {c:Int} (hc:L 450 [enc d0,enc d1]=some [c]) (h:c≠0\/d0.l.length=0):L 300 [enc d0,enc d1]=some [enc (.i 1)]:=by
 by_cases h0:c=0
 ·subst h0;have hz:d0.l.length=0:=h.resolve_left (fun h=>h rfl)
  have k:dX (bQ L (low [enc d0,enc d1])) aoF= .jump 301 [enc d0,0]:=by refine bD [.eq (a0 450 [.aP 0,.aP 1]) (.lit 1),.eq (rr 450 [.aP 0,.aP 1] 0) (.lit 0)] [] (ju 301 [.aP 0,ln (.aP 0)]) (by simp only [zz,hc]) (by kernel_rfl) ?_;simp only [pR,List.map,aY,iK,Nat.reduceLT,aQ,aT,aF,hz];rfl
  have k1:dX (bQ L (low [enc d0,0])) aaA= .out [enc (.i 1)]:=by refine bD [] [.lt (.lit 0) (.aP 1)] (ou [.dat (.i 1)]) (by simp only [zz]<;>omega) (by kernel_rfl) rfl
  rw [aN,e300];refine (congrArg (fin L) k).trans ?_;show L 301 [enc d0,0]=_;rw [aN,e301];exact congrArg (fin L) k1
 ·have k:dX (bQ L (low [enc d0,enc d1])) aoF= .out [enc (.i 1)]:=by
   refine bD [.eq (a0 450 [.aP 0,.aP 1]) (.lit 1)] [.eq (rr 450 [.aP 0,.aP 1] 0) (.lit 0)] (ou [.dat (.i 1)]) (by simp only [zz,hc]<;>omega) (by kernel_rfl) rfl
  rw [aN,e300];exact congrArg (fin L) k
structure Gs (s:D) (n:Nat):Prop where
 wd:Wd (.sl 7) s
 rows: ∀x∈s.l,(x.hd 4).l.length<=n/\(x.hd 5).l.length<=n
theorem Gs.few {s:D} {n:Nat} (h:Gs s n) (hn:n<17592186044415):few s:=fun x hx=>by have:=h.rows x hx; omega
theorem Gs.mono {s:D} {n m:Nat} (h:Gs s n) (hm:n<=m):Gs s m:=⟨h.wd,fun x hx=>by have:=h.rows x hx; omega⟩
theorem RH {l:List D} (h: ∀x∈l,Ec x) (hn:l≠[]) (hl:l.length<=1759218604390):Wd (.sl 7) (dL l):=by
 have e:(l.map fun x=>x.l).map dL=l:=by
  rw [aKD]
  conv=>rhs; rw [<- aK6 l]
  apply aKL;intro x hx;obtain⟨o,c,d,g,r,v,rfl,_⟩:=h x hx;rfl
 rw [<- e];refine .many 7 [.int .i64,.int .i64,.bool,.int .i64,.sl 0,.sl 0] _ rfl (by simpa using hn) (by have:xC 7=80:=rfl; rw [this,aJZ]; omega) (fun r hr=>?_) fun r hr j d c h1 h2=>?_
 ·obtain⟨x,hx,rfl⟩:=aJE.1 hr;obtain⟨o,c,d,g,r,v,rfl,_⟩:=h x hx;rfl
 ·obtain⟨x,hx,rfl⟩:=aJE.1 hr;obtain⟨o,c',d',g,r,v,rfl,ho,hc,hd,hg,hr,hv⟩:=h x hx;rw [aW] at h1
  match j with
  |0=>simp at h1 h2; subst h1 h2; exact .int _ _ ho
  |1=>simp at h1 h2; subst h1 h2; exact .int _ _ hc
  |2=>
   simp at h1 h2; subst h1 h2;rcases hd with rfl|rfl
   ·exact .bool false
   ·exact .bool true
  |3=>simp at h1 h2; subst h1 h2; exact .int _ _ hg
  |4=>simp at h1 h2; subst h1 h2; exact hr
  |5=>simp at h1 h2; subst h1 h2; exact hv
  |j+6=>simp at h1
theorem Tg.thing {x:D} {o c dn g:Int} {r v:D} (T:Tg x o c dn g r v):Ec x:=⟨o,c,dn,g,r,v,T.is,T.ho,T.hc,T.hd,T.hg,T.hr,T.hv⟩
theorem zB {l:List D} {z:Int} {y x:D} (h:x∈dY l z y):x∈l\/x=y:=by
 unfold dY at h;split at h
 ·exact .inl h
 ·exact aLT h
theorem lZ {l:List D} {z:Int} {y:D} {k:Nat} (h:(k:Int)≠z):(dY l z y)[k]?=l[k]?:=by
 unfold dY;split
 ·rfl
 ·rw [aKS,aJd (by omega)]
theorem zG {l:List D} {k:Nat} {y:D} (h:k<l.length):(dY l (k:Int) y)[k]?=some y:=by rw [yQ,aKS,aJe rfl,aJe h]
theorem acE {s:D} {n:Nat} (G:Gs s n) {z:Int} {y:D} (hy:Ec y) (h4:(y.hd 4).l.length<=n) (h5:(y.hd 5).l.length<=n) (hn:0<s.l.length):Gs (dL (dY s.l z y)) n:=by
 have ht:=BZ G.wd hn;refine⟨RH (fun x hx=>?_) (fun he=>?_) (by rw [dQ]; exact ht.few),fun x hx=>?_⟩
 ·rcases zB hx with h|rfl
  ·exact G.wd.thing x h
  ·exact hy
 ·have:=dQ s.l z y;rw [he] at this;simp at this;omega
 ·rw [aW] at hx;rcases zB hx with h|rfl
  ·exact G.rows x h
  ·exact⟨h4,h5⟩
theorem Oh (s:D) (obj M:Int) (A:Act):(CQ s obj M A).l.length=s.l.length:=by
 cases A with
 |blk=>rfl
 |mis=>rfl
 |res o c dn g r v m a oc=>
  unfold CQ;rw [aW,dQ]
  cases m with
  |none=>rfl
  |some q=>exact dQ _ _ _
theorem agB {s:D} {n:Nat} (G:Gs s n) {obj M:Int} {A:Act} (hA:QZ (n+1) A) (ho0:0<=obj) (ho1:obj<(s.l.length:Int)) (hM:NoM A\/0<=M/\M<(s.l.length:Int)):Gs (CQ s obj M A) (n+1):=by
 have G1:=G.mono (aJ2 n)
 cases A with
 |blk=>exact G1
 |mis=>exact G1
 |res o c dn g r v m a oc=>
  obtain⟨h1,h2,h3,h4,h5,h6,h7,h8,h9,_⟩:=hA
  have hd:(if dn=0 then (0:Int) else 1)=dn:=by rcases h3 with rfl|rfl<;>rfl
  have hy:Ec (dL [.i o,.i c,.i (if dn=0 then 0 else 1),.i g,r,v]):=⟨o,c,_,g,r,v,rfl,h1,h2,by rw [hd]; exact h3,h4,h5,h7⟩
  cases m with
  |none=>exact acE G1 hy h6 h8 (by omega)
  |some q=>
   have hM:0<=M/\M<(s.l.length:Int):=hM.resolve_left (fun h=>by simp [NoM] at h);obtain⟨k,rfl⟩ : ∃k:Nat,M=(k:Int):=⟨M.toNat,by omega⟩;have hk:k<s.l.length:=by omega
   obtain⟨o',c',d',g',r',v',he,q1,q2,q3,q4,q5,q6⟩:=G.wd.thing _ (aJm hk);have hrw:=G1.rows _ (aJm hk);rw [he] at hrw;have hz:dL (dY (s.at (k:Int)).l 0 (.i q))=dL [.i q,.i c',.i d',.i g',r',v']:=by rw [aX hk,he]; rfl
   have G2:Gs (dL (dY s.l (k:Int) (dL (dY (s.at (k:Int)).l 0 (.i q))))) (n+1):=by rw [hz];exact acE G1 ⟨q,c',d',g',r',v',rfl,h9 q rfl,q2,q3,q4,q5,q6⟩ hrw.1 hrw.2 (by omega)
   have:=acE (z:=obj) G2 hy h6 h8 (by rw [aW,dQ]; omega);rw [aW] at this;exact this
theorem apY {s:D} {obj M:Int} {A:Act} {k:Nat} (h:(k:Int)≠obj) (hM:NoM A\/(k:Int)≠M):(CQ s obj M A).l[k]?=s.l[k]?:=by
 cases A with
 |blk=>rfl
 |mis=>rfl
 |res o c dn g r v m a oc=>
  unfold CQ;rw [aW,lZ h]
  cases m with
  |none=>rfl
  |some q=> have hM:(k:Int)≠M:=hM.resolve_left (fun h=>by simp [NoM] at h);exact lZ hM
def evA (th op obj:Int):Act->List Int
 | .blk=>[0,0,0,0,0,0]
 | .mis=>[th,27,obj,IntKind.i64.wrap op,0,2]
 | .res _ _ _ _ _ _ _ a oc=>[th,op,obj,a,0,oc]
theorem D6 (s:D) (th op obj M:Int) (A:Act):outA s th op obj M A=enc (CQ s obj M A)::evA th op obj A:=by cases A<;>rfl
theorem z6:((2:Int)=1)=False/\((4:Int)=3)=False/\((5:Int)=3)=False/\((5:Int)=4)=False/\((6:Int)=3)=False/\((6:Int)=4)=False/\((6:Int)=5)=False/\((7:Int)=3)=False/\((7:Int)=4)=False/\((7:Int)=5)=False/\((7:Int)=6)=False:=by simp
structure KT where
 a:Int
 lc:D
 w:Int
 o:Int
 g:Int
 tr:Int
abbrev KT.d (x:KT):D:=dL [.i x.a,x.lc,.i x.w,.i x.o,.i x.g,.i x.tr]
structure Cd (d0 d1:D):Prop where
 h0:Wd (.sl 3) d0
 h1:Wd (.sl 4) d1
 ok:yA d0 d1
 ins: ∀x∈d1.l,ahB d0 x
theorem MR.code {d0 d1 s k:D} (h0:Wd (.sl 3) d0) (h1:Wd (.sl 4) d1) (hr:FB s) (M:MR d0 d1 s k):Cd d0 d1/\s.l.length=d0.l.length:=by obtain⟨b,hb,_,hi⟩:=nY h0 h1 hr;rw [M.1] at hb;simp only [aJf,List.cons.injEq,and_true] at hb;obtain⟨hC,hle,_⟩:=hi.1 hb.symm;obtain⟨ys,hC',c,rfl,_,hok⟩:=zQ h0 h1;rw [hC] at hC';simp only [aJf,List.cons.injEq,and_true] at hC';have:=hok hC'.symm;exact⟨⟨h0,h1,this.1,this.2⟩,hle⟩
structure Rt (d0 d1:D) (t:Int) (x:KT):Prop where
 t0:0<=t
 t1:t<(d1.l.length:Int)
 ok:OkT d0 ((d1.at t).hd 1).l.length ((d1.at t).hd 2).l.length x.a x.lc.l.length x.w x.o x.g x.tr
 hl:Wd (.sl 0) x.lc
 hg:iM .i64 x.g
abbrev Ins (d1:D) (t:Int) (x:KT):D:=((d1.at t).hd 2).at x.a
abbrev Nc (d1:D) (t:Int):Nat:=((d1.at t).hd 2).l.length
structure InF (d0:D) (nl nc:Nat) (I:D):Prop where
 ok:OkI d0 nl nc (I.hd 0).n (I.hd 1).n (I.hd 2).n (I.hd 3).n (I.hd 4).n (I.hd 6).l.length
 op:iM .u8 (I.hd 1).n
 ob:iM .i64 (I.hd 2).n
 to:iM .i64 (I.hd 4).n
 nn:iM .i64 (I.hd 5).n
 ar:Wd (.sl 6) (I.hd 6)
theorem Cd.at {d0 d1:D} (C:Cd d0 d1) {t:Int} (t0:0<=t) (t1:t<(d1.l.length:Int)):d1.at t∈d1.l:=by obtain⟨i,rfl⟩ : ∃i:Nat,t=(i:Int):=⟨t.toNat,by omega⟩;rw [aX (by omega:i<d1.l.length)];exact aJm _
theorem VU {d:D} {i:Int} (h0:0<=i) (h1:i<(d.l.length:Int)):d.at i∈d.l:=by obtain⟨k,rfl⟩ : ∃k:Nat,i=(k:Int):=⟨i.toNat,by omega⟩;rw [aX (by omega:k<d.l.length)];exact aJm _
theorem Cd.code {d0 d1:D} (C:Cd d0 d1) {t:Int} (t0:0<=t) (t1:t<(d1.l.length:Int)):Wd (.sl 5) ((d1.at t).hd 2):=by
 obtain⟨i,rfl⟩ : ∃i:Nat,t=(i:Int):=⟨t.toNat,by omega⟩;have hi:i<d1.l.length:=by omega
 obtain⟨nm',lc,cd,he,_,_,h⟩:=Gp C.h1 hi;rw [aX hi,he];exact h
theorem Cd.inf {d0 d1:D} (C:Cd d0 d1) {t:Int} {x:KT} (R:Rt d0 d1 t x) (h:x.a<(Nc d1 t:Int)):InF d0 ((d1.at t).hd 1).l.length (Nc d1 t) (Ins d1 t x):=by
 have ha:=R.ok.1;have h1:=C.ins _ (C.at R.t0 R.t1) (Ins d1 t x) (VU ha h);obtain⟨i,hi⟩ : ∃i:Nat,x.a=(i:Int):=⟨x.a.toNat,by omega⟩;have hil:i<((d1.at t).hd 2).l.length:=by unfold Nc at h; omega
 obtain⟨a,b,c,e,f,g,Rh,he,_,hb,hc,_,hf,hg,hw⟩:=abZ (C.code R.t0 R.t1) hil;have hI:Ins d1 t x=dL [.i a,.i b,.i c,.i e,.i f,.i g,Rh]:=by unfold Ins; rw [hi,aX hil,he]
 refine⟨h1,?_,?_,?_,?_,?_⟩
 all_goals
  rw [hI];simp only [zg,aJl,n_i];assumption
theorem Rt.ints {d0 d1:D} {t:Int} {x:KT} (R:Rt d0 d1 t x):Ints x.lc:=fun y hy=>by obtain⟨n,rfl,hn⟩:=(R.hl.el1 rfl y hy).i;exact hn
section
variable {d0 d1 s k:D} {t:Int} {x:KT} (hk:k.at t=x.d) (ht:t<(k.l.length:Int)) (R:Rt d0 d1 t x)
include hk ht R
def fE (d1:D) (t:Int) (x:KT):Int:=if x.w=0 then (if x.a=(Nc d1 t:Int) then 1 else 0) else 0
theorem vI:L 1650 [enc d0,enc d1,enc s,enc k,t]=some [fE d1 t x]:=by
 have c1: ¬t<0:=by have:=R.t0; omega
 have c2:=R.t1;unfold fE Nc;rw [aN,aCU];simp only [aoL,zz,hk,c1,ht,c2,zg];by_cases w0:x.w=0
 ·simp only [w0,if_true];by_cases a0:x.a=(((d1.at t).hd 2).l.length:Int)
  ·simp only [a0,if_true];rfl
  ·simp only [a0,if_false];rfl
 ·simp only [w0,if_false];rfl
end
noncomputable def ev (e lc:D):Int:=low ((L 1950 [(e.hd 0).n,enc (e.hd 1),(e.hd 2).n,enc (e.hd 3),enc lc]).getD []) 0
theorem YS {JK lc:D} (ha:Wd (.sl 6) JK) (hl:Ints lc) {i:Int} (i0:0<=i) (i1:i<(JK.l.length:Int)):L 1950 [((JK.at i).hd 0).n,enc ((JK.at i).hd 1),((JK.at i).hd 2).n,enc ((JK.at i).hd 3),enc lc]=some [ev (JK.at i) lc]/\iM .i64 (ev (JK.at i) lc):=by
 obtain⟨j,rfl⟩ : ∃j:Nat,i=(j:Int):=⟨i.toNat,by omega⟩;have hj:j<JK.l.length:=by omega
 obtain⟨k',s',n',ks',he,_,_,hn',h2⟩:=Ej ha hj;obtain⟨ys,hL,v,rfl,hv⟩:=YR _ ks' (aJi _) h2 k' n' s' lc hn' hl;have e1:JK.at (j:Int)=dL [.i k',s',.i n',ks']:=by rw [aX hj,he]
 unfold ev;rw [e1];simp only [zg,aJl,n_i,hL,aQ];exact⟨trivial,hv⟩
noncomputable def QL (JK lc:D):Int:=if JK.l.length=0 then 0 else ev (JK.at ((JK.l.length:Int)-1)) lc
theorem aBr {JK lc:D} (ha:Wd (.sl 6) JK) (hl:Ints lc):iM .i64 (QL JK lc):=by
 unfold QL;split
 ·constructor<;>omega
 ·exact (YS ha hl (by omega) (by omega)).2
theorem TF {JK lc:D} (ha:Wd (.sl 6) JK) (hl:Ints lc) (x3 x5 x6 x7 x8 x9 x10:Int): ∀(j i:Nat) (v:Int),i+j=JK.l.length->L 1751 [enc JK,(JK.l.length:Int),(i:Int),x3,enc lc,x5,x6,x7,x8,x9,x10,v]=some [x9,x10,if j=0 then v else QL JK lc,x8,1]
 |0,i,v,hi=>by
  have c1: ¬(i:Int)<(JK.l.length:Int):=by omega
  rw [aN,auL];simp only [afO,zz,c1,aG,if_true]
 |j+1,i,v,hi=>by
  have hr:=ha.len;have c1:(i:Int)<(JK.l.length:Int):=by omega
  have c2: ¬((i:Int)<0):=by omega
  have w:=aZ (n:=i) (by omega);obtain⟨he,_⟩:=YS ha hl (i:=(i:Int)) (by omega) c1;have ih:=TF ha hl x3 x5 x6 x7 x8 x9 x10 j (i+1) (ev (JK.at (i:Int)) lc) (by omega);rw [aN,auL];simp only [afO,zz,c1,c2,w,he,aK];rw [ih,aJd (Nat.succ_ne_zero j)];by_cases hj:j=0
  ·subst hj;rw [aJe rfl];unfold QL;rw [aJd (by omega),show ((JK.l.length:Int)-1)=(i:Int) by omega]
  ·rw [aJd hj]
noncomputable def eX (d1:D) (t:Int) (x:KT):List Int:=
 if x.w=0 then
  if x.a=(Nc d1 t:Int) then [0,0,0,0,0]
  else if ((Ins d1 t x).hd 0).n=1 then [((Ins d1 t x).hd 1).n,((Ins d1 t x).hd 2).n,QL ((Ins d1 t x).hd 6) x.lc,x.tr,1]
  else if ((Ins d1 t x).hd 0).n=2 then [26,((Ins d1 t x).hd 2).n,0,0,1]
  else [0,0,0,0,0]
 else [x.w,x.o,x.g,0,1]
section
variable {d0 d1 s k:D} {t:Int} {x:KT} (C:Cd d0 d1) (hk:k.at t=x.d) (ht:t<(k.l.length:Int)) (R:Rt d0 d1 t x)
include C hk ht R
theorem xJ:L 1750 [enc d0,enc d1,enc s,enc k,t]=some (eX d1 t x):=by
 have c1: ¬t<0:=by have:=R.t0; omega
 have c2:=R.t1;have c3: ¬x.a<0:=by have:=R.ok.1; omega
 have ho:=vI (s:=s) hk ht R;unfold eX;rw [aN,aCT];by_cases w0:x.w=0
 ·by_cases a0:x.a=(Nc d1 t:Int)
  ·have e:fE d1 t x=1:=by unfold fE; rw [aJe w0,aJe a0]
   rw [e] at ho;rw [aJe w0,aJe a0];simp only [Nq,zz,hk,c1,ht,c2,zg,w0,ho,aC,aG]
  ·have e:fE d1 t x=0:=by unfold fE; rw [aJe w0,aJd a0]
   rw [e] at ho;have hlt:x.a<(Nc d1 t:Int):=by have:=R.ok.2.1; unfold Nc at a0 ⊢; omega
   have F:=C.inf R hlt;rw [aJe w0,aJd a0];unfold Ins at F ⊢;unfold Nc at hlt;by_cases h1:((((d1.at t).hd 2).at x.a).hd 0).n=1
   ·rw [aJe h1];have lp:=TF F.ar R.ints x.a x.w x.o x.g x.tr ((((d1.at t).hd 2).at x.a).hd 1).n ((((d1.at t).hd 2).at x.a).hd 2).n ((((d1.at t).hd 2).at x.a).hd 6).l.length 0 0 (by omega)
    have e2:(if ((((d1.at t).hd 2).at x.a).hd 6).l.length=0 then 0 else QL ((((d1.at t).hd 2).at x.a).hd 6) x.lc)=QL ((((d1.at t).hd 2).at x.a).hd 6) x.lc:=by
     by_cases hz:((((d1.at t).hd 2).at x.a).hd 6).l.length=0
     ·rw [aJe hz]; unfold QL; rw [aJe hz]
     ·rw [aJd hz]
    rw [e2] at lp;simp only [Nq,zz,hk,c1,ht,c2,c3,zg,w0,ho,hlt,h1,aK];rw [w0] at lp;exact lp
   ·by_cases h2:((((d1.at t).hd 2).at x.a).hd 0).n=2
    ·rw [aJd h1,aJe h2];simp only [Nq,zz,hk,c1,ht,c2,c3,zg,w0,ho,hlt,h2,aG,if_false,z6]
    ·rw [aJd h1,aJd h2];simp only [Nq,zz,hk,c1,ht,c2,c3,zg,w0,ho,hlt,h1,h2,aG]
 ·rw [aJd w0];simp only [Nq,zz,hk,c1,ht,zg,w0,aG]
end
noncomputable def gW (I:D) (x:KT):KT:=
 if (I.hd 0).n=3 then { x with a:=x.a+1,lc:=dL (dY x.lc.l (I.hd 3).n (.i (ev ((I.hd 6).at 0) x.lc))) }
 else if (I.hd 0).n=4 then (if ev ((I.hd 6).at 0) x.lc=0 then { x with a:=(I.hd 4).n } else { x with a:=x.a+1 })
 else if (I.hd 0).n=5 then { x with a:=(I.hd 4).n }
 else if (I.hd 0).n=6 then { x with a:=x.a+1,lc:=dL (dY x.lc.l (I.hd 3).n (.i (I.hd 5).n)) }
 else if 0<(x.lc.at (I.hd 3).n).n then { x with a:=x.a+1,lc:=dL (dY x.lc.l (I.hd 3).n (.i (IntKind.i64.wrap ((x.lc.at (I.hd 3).n).n-1)))) }
 else { x with a:=(I.hd 4).n }
structure Loc (d1:D) (t:Int) (x:KT):Prop where
 w:x.w=0
 a:x.a<(Nc d1 t:Int)
 n1:((Ins d1 t x).hd 0).n≠1
 n2:((Ins d1 t x).hd 0).n≠2
theorem FQ {d0 d1:D} {t:Int} {x:KT} (R:Rt d0 d1 t x) (ho:fE d1 t x=0) (hn:low (eX d1 t x) 4=0):Loc d1 t x:=by
 unfold fE at ho;unfold eX at hn;have h2:=R.ok.2.1;by_cases w0:x.w=0
 ·rw [aJe w0] at ho hn;by_cases a0:x.a=(Nc d1 t:Int)
  ·rw [aJe a0] at ho;omega
  ·rw [aJd a0] at hn;by_cases h1:((Ins d1 t x).hd 0).n=1
   ·rw [aJe h1] at hn;simp only [aT,aQ] at hn;omega
   ·by_cases h2':((Ins d1 t x).hd 0).n=2
    ·rw [aJd h1,aJe h2'] at hn;simp only [aT,aQ] at hn;omega
    ·exact⟨w0,by unfold Nc at a0 ⊢; omega,h1,h2'⟩
 ·rw [aJd w0] at hn;simp only [aT,aQ] at hn;omega
section
variable {d0 d1 s k:D} {t:Int} {x:KT} (C:Cd d0 d1) (ht:t<(k.l.length:Int)) (R:Rt d0 d1 t x) (Lc:Loc d1 t x)
include C ht R Lc
theorem Yt:L 14000 [enc d0,enc d1,t,enc s,enc k,x.a,enc x.lc,x.w,x.o,x.g,x.tr]=some [0,enc d0,enc d1,t,enc s,enc k,x.a,enc x.lc,x.w,x.o,x.g,x.tr,(gW (Ins d1 t x) x).a,enc (gW (Ins d1 t x) x).lc]:=by
 have c1: ¬t<0:=by have:=R.t0; omega
 have c2:=R.t1;have c3: ¬x.a<0:=by have:=R.ok.1; omega
 have c4:=Lc.a;have F:=C.inf R c4;have hln:(x.lc.l.length:Int)=(((d1.at t).hd 1).l.length:Int):=R.ok.2.2.1;have hnc:((d1.at t).hd 2).l.length<=140737488351232:=(C.code R.t0 R.t1).len;have n1:=Lc.n1;have n2:=Lc.n2
 have hw:IntKind.i64.wrap (x.a+1)=x.a+1:=by refine mY (by omega) ?_;unfold Nc at c4;omega
 have E:=YS F.ar R.ints (i:=0);have ok:=F.ok;unfold Ins at n1 n2 ok E ⊢;unfold Nc at c4;rw [aN,auY];unfold gW;rcases ok with h|h|⟨h,i0,i1,na⟩|⟨h,_,_,na⟩|⟨h,_⟩|⟨h,i0,i1⟩|⟨h,i0,i1,_⟩
 ·exact absurd h.1 n1
 ·exact absurd h.1 n2
 ·have c5: ¬(((((d1.at t).hd 2).at x.a).hd 3).n<0):=by omega
  have c6:(((((d1.at t).hd 2).at x.a).hd 3).n<(x.lc.l.length:Int)):=by omega
  have c7:(0:Int)<(((((d1.at t).hd 2).at x.a).hd 6).l.length:Int):=by omega
  obtain⟨E,_⟩:=E (by omega) c7;simp only [Ae,zz,c1,ht,c2,c3,c4,c5,c6,c7,h,E,hw,aG]
 ·have c7:(0:Int)<(((((d1.at t).hd 2).at x.a).hd 6).l.length:Int):=by omega
  obtain⟨E,_⟩:=E (by omega) c7;by_cases hz:ev (((((d1.at t).hd 2).at x.a).hd 6).at 0) x.lc=0
  ·simp only [Ae,zz,c1,ht,c2,c3,c4,c7,h,E,hw,hz,aG,z6]
  ·simp only [Ae,zz,c1,ht,c2,c3,c4,c7,h,E,hw,hz,aG,z6]
 ·simp only [Ae,zz,c1,ht,c2,c3,c4,h,hw,aG,z6]
 ·have c5: ¬(((((d1.at t).hd 2).at x.a).hd 3).n<0):=by omega
  have c6:(((((d1.at t).hd 2).at x.a).hd 3).n<(x.lc.l.length:Int)):=by omega
  simp only [Ae,zz,c1,ht,c2,c3,c4,c5,c6,h,hw,aG,z6]
 ·have c5: ¬(((((d1.at t).hd 2).at x.a).hd 3).n<0):=by omega
  have c6:(((((d1.at t).hd 2).at x.a).hd 3).n<(x.lc.l.length:Int)):=by omega
  by_cases hz:0<(x.lc.at ((((d1.at t).hd 2).at x.a).hd 3).n).n
  ·simp only [Ae,zz,c1,ht,c2,c3,c4,c5,c6,h,hw,hz,aG,z6]
  ·simp only [Ae,zz,c1,ht,c2,c3,c4,c5,c6,h,hw,hz,aG,z6]
theorem Yr (hz:x.lc.l.length=0):L 14050 [enc d0,enc d1,t,enc s,enc k,x.a,enc x.lc,x.w,x.o,x.g,x.tr]=some [0,enc d0,enc d1,t,enc s,enc k,x.a,enc x.lc,x.w,x.o,x.g,x.tr,(gW (Ins d1 t x) x).a]/\(gW (Ins d1 t x) x).lc=x.lc:=by
 have c1: ¬t<0:=by have:=R.t0; omega
 have c2:=R.t1;have c3: ¬x.a<0:=by have:=R.ok.1; omega
 have c4:=Lc.a;have F:=C.inf R c4;have hln:(x.lc.l.length:Int)=(((d1.at t).hd 1).l.length:Int):=R.ok.2.2.1;have hnc:((d1.at t).hd 2).l.length<=140737488351232:=(C.code R.t0 R.t1).len;have n1:=Lc.n1;have n2:=Lc.n2
 have hw:IntKind.i64.wrap (x.a+1)=x.a+1:=by refine mY (by omega) ?_;unfold Nc at c4;omega
 have E:=YS F.ar R.ints (i:=0);have ok:=F.ok;unfold Ins at n1 n2 ok E ⊢;unfold Nc at c4;rw [aN,auX];unfold gW;rcases ok with h|h|⟨h,i0,i1,na⟩|⟨h,_,_,na⟩|⟨h,_⟩|⟨h,i0,i1⟩|⟨h,i0,i1,_⟩
 ·exact absurd h.1 n1
 ·exact absurd h.1 n2
 ·omega
 ·have c7:(0:Int)<(((((d1.at t).hd 2).at x.a).hd 6).l.length:Int):=by omega
  obtain⟨E,_⟩:=E (by omega) c7;by_cases hz:ev (((((d1.at t).hd 2).at x.a).hd 6).at 0) x.lc=0
  ·simp only [Nv,zz,c1,ht,c2,c3,c4,c7,h,E,hw,hz,aG,z6]
  ·simp only [Nv,zz,c1,ht,c2,c3,c4,c7,h,E,hw,hz,aG,z6]
 ·simp only [Nv,zz,c1,ht,c2,c3,c4,h,hw,aG,z6]
 ·omega
 ·omega
theorem Hf:Rt d0 d1 t (gW (Ins d1 t x) x)/\(gW (Ins d1 t x) x).lc.l.length=x.lc.l.length:=by
 have c4:=Lc.a;have F:=C.inf R c4;obtain⟨a0,a1,hln,tr0,tr1,hw⟩:=R.ok;have n1:=Lc.n1;have n2:=Lc.n2;have ok:=F.ok;have hI:=R.ints
 have hwd: ∀{z v:Int},0<=z->z<(x.lc.l.length:Int)->iM .i64 v->Wd (.sl 0) (dL (dY x.lc.l z (.i v))):=fun {z v} h0 h1 hv=>by
  have:=R.hl.room;have h3:xC 0=8:=rfl;rw [h3] at this;have hs:=dQ x.lc.l z (.i v);refine zZ (fun y hy=>?_) (fun he=>?_) (by rw [hs]; omega)
  ·rcases zB hy with h|rfl
   ·exact (R.hl.el1 rfl y h).i
   ·exact⟨v,rfl,hv⟩
  ·rw [he] at hs;simp only [aJt] at hs;omega
 have hsl: ∀z v,(dL (dY x.lc.l z v)).l.length=x.lc.l.length:=fun z v=>by rw [aW,dQ]
 have T:=R.t0;have T':=R.t1;unfold Nc at c4 ok F;unfold gW;have go: ∀{a:Int} {lc:D},0<=a->a<=(((d1.at t).hd 2).l.length:Int)->lc.l.length=x.lc.l.length->Wd (.sl 0) lc->Rt d0 d1 t { x with a:=a,lc:=lc }/\({ x with a:=a,lc:=lc }:KT).lc.l.length=x.lc.l.length:=fun h0 h1 h2 h3=> ⟨⟨T,T',⟨h0,h1,by rw [h2]; exact hln,tr0,tr1,hw⟩,h3,R.hg⟩,h2⟩;rcases ok with h|h|⟨h,i0,i1,na⟩|⟨h,t0,t1,na⟩|⟨h,t0,t1⟩|⟨h,i0,i1⟩|⟨h,i0,i1,t0,t1⟩
 ·exact absurd h.1 n1
 ·exact absurd h.1 n2
 ·rw [aJe h];exact go (by omega) (by omega) (hsl _ _) (hwd i0 (by omega) (YS F.ar hI (by omega) (by omega)).2)
 ·rw [aJd (by omega),aJe h];split
  ·exact go t0 t1 rfl R.hl
  ·exact go (by omega) (by omega) rfl R.hl
 ·rw [aJd (by omega),aJd (by omega),aJe h];exact go t0 t1 rfl R.hl
 ·rw [aJd (by omega),aJd (by omega),aJd (by omega),aJe h];exact go (by omega) (by omega) (hsl _ _) (hwd i0 (by omega) F.nn)
 ·rw [aJd (by omega),aJd (by omega),aJd (by omega),aJd (by omega)];split
  ·exact go (by omega) (by omega) (hsl _ _) (hwd i0 (by omega) (wrap_in _))
  ·exact go t0 t1 rfl R.hl
end
theorem z5:(∀p:Prop,(p/\False)=False)/\(∀p:Prop,(False/\p)=False)/\(¬True)=False/\(∀p:Prop,(p/\p)=p)/\(∀(a:Int) (l m:List Int),(a::l)++m=a::(l++m))/\(∀l:List Int,[]++l=l)/\((16:Int)=15)=False/\((3:Int)=0)=False/\((15:Int)=16)=False/\(∀ys:List Int,fin L (.out ys)=some ys):=
 ⟨and_false,false_and,not_true_eq_false,and_self,fun _ _ _=>rfl,fun _=>rfl,by simp,by simp,by simp,fun _=>rfl⟩
def amE:Act->Prop
 | .res _ _ _ _ _ _ _ a _=>iM .i64 a
 |_=>True
theorem amE.ite {p:Prop} [Decidable p] {a b:Act} (ha:amE a) (hb:amE b):amE (if p then a else b):=by
 split
 ·exact ha
 ·exact hb
theorem amQ {r:D} (h:Wd (.sl 0) r) (i:Nat):iM .i64 (r.at (i:Int)).n:=by
 by_cases hi:i<r.l.length
 ·rw [aX hi];obtain⟨n,hn,hk⟩:=(h.el1 rfl _ (aJm hi)).i;rw [hn];exact hk
 ·rw [lN,aJ6 (by omega)];constructor<;>(simp only [aKF,n_i]; omega)
theorem aHW {y:D} {M mo th op arg tries o c dn g:Int} {r v:D} (T:Tg y o c dn g r v) (hr:r.l.length<=140737488351232) (ha:iM .i64 arg):amE (act M mo th op arg tries o c dn g r v):=by
 have hz:iM .i64 0:=⟨by omega,by omega⟩;have h1:iM .i64 1:=⟨by omega,by omega⟩;have w:=@wrap_in;have hv:=amQ T.hv 0;have hl:iM .i64 (r.l.length:Int):=⟨by omega,by omega⟩;unfold act
 repeat' refine amE.ite ?_ ?_
 all_goals first
  |trivial
  |exact hz
  |exact h1
  |exact w _
  |exact T.hc
  |exact ha
  |exact T.hg
  |exact hv
  |exact hl
def jI (I:D) (x:KT) (op e2 e3 e4 oc:Int):KT:=
 if oc=0 then (if op=4 then { x with tr:=if 4611686018427387904<x.tr+1 then 4611686018427387904 else x.tr+1 } else x)
 else if x.w=0 then
  { a:=if (I.hd 0).n=1/\(I.hd 1).n=16/\¬(e2=16/\e4=1) then (I.hd 4).n else x.a+1,lc:=if (I.hd 0).n=1/\¬(I.hd 3).n<0 then dL (dY x.lc.l (I.hd 3).n (.i e4)) else x.lc,w:=if oc=3 then (if e2=15 then 25 else 24) else 0,o:=if oc=3 then e3 else x.o,g:=if oc=3/\e2=15 then e4 else x.g,tr:=0 }
 else { x with w:=0,o:=0,g:=0,tr:=0 }
def evT (e1 e2 e3 e4 e5 oc:Int):List Int:=if oc=0 then [0,0,0,0,0] else [e1,e2,e3,e4,e5]
section
variable {d0 d1 s s' k:D} {t op obj arg tries e1 e2 e3 e4 e5 oc:Int} {x:KT} (C:Cd d0 d1) (ht:t<(k.l.length:Int)) (R:Rt d0 d1 t x)
 (hA:L 400 [enc d0,enc d1,enc s,t,op,obj,arg,tries]=some [enc s',e1,e2,e3,e4,e5,oc]) (h0:oc=0->s'=s) (hx:x.w=0->x.a<(Nc d1 t:Int))
include C ht R hA h0 hx
set_option maxHeartbeats 4000000 in
theorem XK:L 14500 [enc d0,enc d1,t,op,obj,arg,tries,enc s,enc k,x.a,enc x.lc,x.w,x.o,x.g,x.tr]=some (0::enc d0::enc d1::t::op::obj::arg::tries::enc s::enc k::x.a::enc x.lc::x.w::x.o::x.g::x.tr::(evT e1 e2 e3 e4 e5 oc++ [oc,enc s',(jI (Ins d1 t x) x op e2 e3 e4 oc).a,enc (jI (Ins d1 t x) x op e2 e3 e4 oc).lc,(jI (Ins d1 t x) x op e2 e3 e4 oc).w,(jI (Ins d1 t x) x op e2 e3 e4 oc).o,(jI (Ins d1 t x) x op e2 e3 e4 oc).g,(jI (Ins d1 t x) x op e2 e3 e4 oc).tr])):=by
 have c1: ¬t<0:=by have:=R.t0; omega
 have c2:=R.t1;have c3: ¬x.a<0:=by have:=R.ok.1; omega
 have q0:=R.ok.2.2.2.1;have q1:=R.ok.2.2.2.2.1;have wt:IntKind.i64.wrap (x.tr+1)=x.tr+1:=mY (by omega) (by omega);rw [aN,auV];unfold jI evT;by_cases o0:oc=0
 ·have hs:=h0 o0;subst hs;subst o0;by_cases p4:op=4
  ·subst p4;by_cases pt:4611686018427387904<x.tr+1
   ·simp only [fZ,zz,hA,c1,ht,wt,pt,aG,if_true,eq_self,aJv,aJo]
   ·simp only [fZ,zz,hA,c1,ht,wt,pt,aG,if_true,eq_self,if_false,aJv,aJo]
  ·simp only [fZ,zz,hA,c1,ht,p4,aG,if_true,if_false,aJv,aJo]
 ·by_cases w0:x.w=0
  ·have c4:=hx w0;have F:=C.inf R c4;have ok:=F.ok;have hln:(x.lc.l.length:Int)=(((d1.at t).hd 1).l.length:Int):=R.ok.2.2.1;have hnc:((d1.at t).hd 2).l.length<=140737488351232:=(C.code R.t0 R.t1).len;unfold Nc at c4;have hw:IntKind.i64.wrap (x.a+1)=x.a+1:=mY (by omega) (by omega);unfold OkI Ins at ok;unfold Ins;by_cases n1:((((d1.at t).hd 2).at x.a).hd 0).n=1
   ·have hin:((((d1.at t).hd 2).at x.a).hd 3).n= -1\/0<=((((d1.at t).hd 2).at x.a).hd 3).n/\((((d1.at t).hd 2).at x.a).hd 3).n<(x.lc.l.length:Int):=by
     rw [hln];omega
    by_cases i0:((((d1.at t).hd 2).at x.a).hd 3).n<0
    ·by_cases p16:((((d1.at t).hd 2).at x.a).hd 1).n=16
     ·by_cases q16:e2=16
      ·by_cases q4:e4=1
       ·by_cases q3:oc=3
        ·simp only [fZ,zz,hA,c1,ht,c2,c3,c4,o0,w0,hw,n1,i0,p16,q16,q4,q3,z5]
        ·simp only [fZ,zz,hA,c1,ht,c2,c3,c4,o0,w0,hw,n1,i0,p16,q16,q4,q3,z5]
       ·by_cases q3:oc=3
        ·simp only [fZ,zz,hA,c1,ht,c2,c3,c4,o0,w0,hw,n1,i0,p16,q16,q4,q3,z5]
        ·simp only [fZ,zz,hA,c1,ht,c2,c3,c4,o0,w0,hw,n1,i0,p16,q16,q4,q3,z5]
      ·by_cases Ak:e2=15
       ·by_cases q3:oc=3
        ·simp only [fZ,zz,hA,c1,ht,c2,c3,c4,o0,w0,hw,n1,i0,p16,q16,Ak,q3,z5]
        ·simp only [fZ,zz,hA,c1,ht,c2,c3,c4,o0,w0,hw,n1,i0,p16,q16,Ak,q3,z5]
       ·by_cases q3:oc=3
        ·simp only [fZ,zz,hA,c1,ht,c2,c3,c4,o0,w0,hw,n1,i0,p16,q16,Ak,q3,z5]
        ·simp only [fZ,zz,hA,c1,ht,c2,c3,c4,o0,w0,hw,n1,i0,p16,q16,Ak,q3,z5]
     ·by_cases Ak:e2=15
      ·by_cases q3:oc=3
       ·simp only [fZ,zz,hA,c1,ht,c2,c3,c4,o0,w0,hw,n1,i0,p16,Ak,q3,z5]
       ·simp only [fZ,zz,hA,c1,ht,c2,c3,c4,o0,w0,hw,n1,i0,p16,Ak,q3,z5]
      ·by_cases q3:oc=3
       ·simp only [fZ,zz,hA,c1,ht,c2,c3,c4,o0,w0,hw,n1,i0,p16,Ak,q3,z5]
       ·simp only [fZ,zz,hA,c1,ht,c2,c3,c4,o0,w0,hw,n1,i0,p16,Ak,q3,z5]
    ·have i1:((((d1.at t).hd 2).at x.a).hd 3).n<(x.lc.l.length:Int):=by omega
     by_cases p16:((((d1.at t).hd 2).at x.a).hd 1).n=16
     ·by_cases q16:e2=16
      ·by_cases q4:e4=1
       ·by_cases q3:oc=3
        ·simp only [fZ,zz,hA,c1,ht,c2,c3,c4,o0,w0,hw,n1,i0,i1,p16,q16,q4,q3,z5]
        ·simp only [fZ,zz,hA,c1,ht,c2,c3,c4,o0,w0,hw,n1,i0,i1,p16,q16,q4,q3,z5]
       ·by_cases q3:oc=3
        ·simp only [fZ,zz,hA,c1,ht,c2,c3,c4,o0,w0,hw,n1,i0,i1,p16,q16,q4,q3,z5]
        ·simp only [fZ,zz,hA,c1,ht,c2,c3,c4,o0,w0,hw,n1,i0,i1,p16,q16,q4,q3,z5]
      ·by_cases Ak:e2=15
       ·by_cases q3:oc=3
        ·simp only [fZ,zz,hA,c1,ht,c2,c3,c4,o0,w0,hw,n1,i0,i1,p16,q16,Ak,q3,z5]
        ·simp only [fZ,zz,hA,c1,ht,c2,c3,c4,o0,w0,hw,n1,i0,i1,p16,q16,Ak,q3,z5]
       ·by_cases q3:oc=3
        ·simp only [fZ,zz,hA,c1,ht,c2,c3,c4,o0,w0,hw,n1,i0,i1,p16,q16,Ak,q3,z5]
        ·simp only [fZ,zz,hA,c1,ht,c2,c3,c4,o0,w0,hw,n1,i0,i1,p16,q16,Ak,q3,z5]
     ·by_cases Ak:e2=15
      ·by_cases q3:oc=3
       ·simp only [fZ,zz,hA,c1,ht,c2,c3,c4,o0,w0,hw,n1,i0,i1,p16,Ak,q3,z5]
       ·simp only [fZ,zz,hA,c1,ht,c2,c3,c4,o0,w0,hw,n1,i0,i1,p16,Ak,q3,z5]
      ·by_cases q3:oc=3
       ·simp only [fZ,zz,hA,c1,ht,c2,c3,c4,o0,w0,hw,n1,i0,i1,p16,Ak,q3,z5]
       ·simp only [fZ,zz,hA,c1,ht,c2,c3,c4,o0,w0,hw,n1,i0,i1,p16,Ak,q3,z5]
   ·by_cases Ak:e2=15
    ·by_cases q3:oc=3
     ·simp only [fZ,zz,hA,c1,ht,c2,c3,c4,o0,w0,hw,n1,Ak,q3,z5]
     ·simp only [fZ,zz,hA,c1,ht,c2,c3,c4,o0,w0,hw,n1,Ak,q3,z5]
    ·by_cases q3:oc=3
     ·simp only [fZ,zz,hA,c1,ht,c2,c3,c4,o0,w0,hw,n1,Ak,q3,z5]
     ·simp only [fZ,zz,hA,c1,ht,c2,c3,c4,o0,w0,hw,n1,Ak,q3,z5]
  ·simp only [fZ,zz,hA,c1,ht,o0,w0,aG,if_true,if_false,aJv,aJo]
end
section
variable {d0 d1 s s' k:D} {t op obj arg tries e1 e2 e3 e4 e5 oc:Int} {x:KT} (C:Cd d0 d1) (ht:t<(k.l.length:Int)) (R:Rt d0 d1 t x)
 (hA:L 400 [enc d0,enc d1,enc s,t,op,obj,arg,tries]=some [enc s',e1,e2,e3,e4,e5,oc]) (h0:oc=0->s'=s) (hx:x.w=0->x.a<(Nc d1 t:Int)) (hz:x.lc.l.length=0)
include C ht R hA h0 hx hz
set_option maxHeartbeats 4000000 in
theorem XJ:L 14550 [enc d0,enc d1,t,op,obj,arg,tries,enc s,enc k,x.a,enc x.lc,x.w,x.o,x.g,x.tr]=some (0::enc d0::enc d1::t::op::obj::arg::tries::enc s::enc k::x.a::enc x.lc::x.w::x.o::x.g::x.tr::(evT e1 e2 e3 e4 e5 oc++ [oc,enc s',(jI (Ins d1 t x) x op e2 e3 e4 oc).a,(jI (Ins d1 t x) x op e2 e3 e4 oc).w,(jI (Ins d1 t x) x op e2 e3 e4 oc).o,(jI (Ins d1 t x) x op e2 e3 e4 oc).g,(jI (Ins d1 t x) x op e2 e3 e4 oc).tr]))/\(jI (Ins d1 t x) x op e2 e3 e4 oc).lc=x.lc:=by
 have c1: ¬t<0:=by have:=R.t0; omega
 have c2:=R.t1;have c3: ¬x.a<0:=by have:=R.ok.1; omega
 have q0:=R.ok.2.2.2.1;have q1:=R.ok.2.2.2.2.1;have wt:IntKind.i64.wrap (x.tr+1)=x.tr+1:=mY (by omega) (by omega);rw [aN,auS];unfold jI evT;by_cases o0:oc=0
 ·have hs:=h0 o0;subst hs;subst o0;by_cases p4:op=4
  ·subst p4;by_cases pt:4611686018427387904<x.tr+1
   ·simp only [kQ,zz,hA,c1,ht,wt,pt,aG,if_true,eq_self,aJv,aJo]<;>exact⟨rfl,rfl⟩
   ·simp only [kQ,zz,hA,c1,ht,wt,pt,aG,if_true,eq_self,if_false,aJv,aJo]<;>exact⟨rfl,rfl⟩
  ·simp only [kQ,zz,hA,c1,ht,p4,aG,if_true,if_false,aJv,aJo]<;>exact⟨rfl,rfl⟩
 ·by_cases w0:x.w=0
  ·have c4:=hx w0;have F:=C.inf R c4;have ok:=F.ok;have hln:(x.lc.l.length:Int)=(((d1.at t).hd 1).l.length:Int):=R.ok.2.2.1;have hnc:((d1.at t).hd 2).l.length<=140737488351232:=(C.code R.t0 R.t1).len;unfold Nc at c4;have hw:IntKind.i64.wrap (x.a+1)=x.a+1:=mY (by omega) (by omega);unfold OkI Ins at ok;unfold Ins;by_cases n1:((((d1.at t).hd 2).at x.a).hd 0).n=1
   ·have hin:((((d1.at t).hd 2).at x.a).hd 3).n= -1\/0<=((((d1.at t).hd 2).at x.a).hd 3).n/\((((d1.at t).hd 2).at x.a).hd 3).n<(x.lc.l.length:Int):=by
     rw [hln];omega
    by_cases i0:((((d1.at t).hd 2).at x.a).hd 3).n<0
    ·by_cases p16:((((d1.at t).hd 2).at x.a).hd 1).n=16
     ·by_cases q16:e2=16
      ·by_cases q4:e4=1
       ·by_cases q3:oc=3
        ·simp only [kQ,zz,hA,c1,ht,c2,c3,c4,o0,w0,hw,n1,i0,p16,q16,q4,q3,z5]<;>exact⟨rfl,rfl⟩
        ·simp only [kQ,zz,hA,c1,ht,c2,c3,c4,o0,w0,hw,n1,i0,p16,q16,q4,q3,z5]<;>exact⟨rfl,rfl⟩
       ·by_cases q3:oc=3
        ·simp only [kQ,zz,hA,c1,ht,c2,c3,c4,o0,w0,hw,n1,i0,p16,q16,q4,q3,z5]<;>exact⟨rfl,rfl⟩
        ·simp only [kQ,zz,hA,c1,ht,c2,c3,c4,o0,w0,hw,n1,i0,p16,q16,q4,q3,z5]<;>exact⟨rfl,rfl⟩
      ·by_cases Ak:e2=15
       ·by_cases q3:oc=3
        ·simp only [kQ,zz,hA,c1,ht,c2,c3,c4,o0,w0,hw,n1,i0,p16,q16,Ak,q3,z5]<;>exact⟨rfl,rfl⟩
        ·simp only [kQ,zz,hA,c1,ht,c2,c3,c4,o0,w0,hw,n1,i0,p16,q16,Ak,q3,z5]<;>exact⟨rfl,rfl⟩
       ·by_cases q3:oc=3
        ·simp only [kQ,zz,hA,c1,ht,c2,c3,c4,o0,w0,hw,n1,i0,p16,q16,Ak,q3,z5]<;>exact⟨rfl,rfl⟩
        ·simp only [kQ,zz,hA,c1,ht,c2,c3,c4,o0,w0,hw,n1,i0,p16,q16,Ak,q3,z5]<;>exact⟨rfl,rfl⟩
     ·by_cases Ak:e2=15
      ·by_cases q3:oc=3
       ·simp only [kQ,zz,hA,c1,ht,c2,c3,c4,o0,w0,hw,n1,i0,p16,Ak,q3,z5]<;>exact⟨rfl,rfl⟩
       ·simp only [kQ,zz,hA,c1,ht,c2,c3,c4,o0,w0,hw,n1,i0,p16,Ak,q3,z5]<;>exact⟨rfl,rfl⟩
      ·by_cases q3:oc=3
       ·simp only [kQ,zz,hA,c1,ht,c2,c3,c4,o0,w0,hw,n1,i0,p16,Ak,q3,z5]<;>exact⟨rfl,rfl⟩
       ·simp only [kQ,zz,hA,c1,ht,c2,c3,c4,o0,w0,hw,n1,i0,p16,Ak,q3,z5]<;>exact⟨rfl,rfl⟩
    ·omega
   ·by_cases Ak:e2=15
    ·by_cases q3:oc=3
     ·simp only [kQ,zz,hA,c1,ht,c2,c3,c4,o0,w0,hw,n1,Ak,q3,z5]<;>exact⟨rfl,rfl⟩
     ·simp only [kQ,zz,hA,c1,ht,c2,c3,c4,o0,w0,hw,n1,Ak,q3,z5]<;>exact⟨rfl,rfl⟩
    ·by_cases q3:oc=3
     ·simp only [kQ,zz,hA,c1,ht,c2,c3,c4,o0,w0,hw,n1,Ak,q3,z5]<;>exact⟨rfl,rfl⟩
     ·simp only [kQ,zz,hA,c1,ht,c2,c3,c4,o0,w0,hw,n1,Ak,q3,z5]<;>exact⟨rfl,rfl⟩
  ·simp only [kQ,zz,hA,c1,ht,o0,w0,aG,if_true,if_false,aJv,aJo]<;>exact⟨rfl,rfl⟩
end
structure Sx (s k:D) (n:Nat):Prop where
 g:Gs s n
 wk:Wd (.sl 8) k
 n2s:s≠.i 2
 n2k:k≠.i 2
theorem Sx.st {s k:D} {n:Nat} (S:Sx s k n):Sk s k:=⟨S.g.wd,S.wk,S.n2s,S.n2k⟩
theorem Sx.mono {s k:D} {n m:Nat} (S:Sx s k n) (h:n<=m):Sx s k m:=⟨S.g.mono h,S.wk,S.n2s,S.n2k⟩
abbrev fK (k:D) (t:Int) (x:KT):D:=dL (dY k.l t x.d)
theorem dU (a:D) (l:List D):dL (a::l)= .p a (dL l):=rfl
theorem gB:dL []= .i 0:=rfl
structure Tried (d0 d1 s:D) (t op obj arg tries:Int) (n:Nat) (s':D) (e1 e2 e3 e4 e5 oc:Int):Prop where
 eq:L 400 [enc d0,enc d1,enc s,t,op,obj,arg,tries]=some [enc s',e1,e2,e3,e4,e5,oc]
 no:oc=0->s'=s/\e1=0/\e2=0/\e3=0/\e4=0/\e5=0
 oc3:oc=0\/oc=2\/oc=3
 gs:Gs s' (n+1)
 len:s'.l.length=s.l.length
 n2:s≠.i 2->s'≠.i 2
 e3:iM .i64 e3
 e4:iM .i64 e4
theorem try_any {d0 d1 s:D} {t op obj arg tries:Int} {n:Nat} (h0:Wd (.sl 3) d0) (h1:Wd (.sl 4) d1) (G:Gs s n) (hn:n<17592186043904) (ht:iM .i64 t) (hop:iM .u8 op) (hob:iM .i64 obj) (ha:iM .i64 arg) :
 ∃s' e1 e2 e3 e4 e5 oc,Tried d0 d1 s t op obj arg tries n s' e1 e2 e3 e4 e5 oc:=by
 have hf:=G.few (by omega:n<17592186044415);have z:iM .i64 0:=⟨by omega,by omega⟩;by_cases A:Acc d0 d1 s t op obj
 ·obtain⟨_,o,c,dn,g,r,v,T,hL⟩:=xG (arg:=arg) (tries:=tries) h0 h1 G.wd hf hop A;rw [D6] at hL;have o0:=A.o0;have o1:=A.o1;obtain⟨i,rfl⟩ : ∃i:Nat,obj=(i:Int):=⟨obj.toNat,by omega⟩;have hi:i<s.l.length:=by omega
  have hrow:=G.rows _ (aJm hi);have e:s.l[i]=dL [.i o,.i c,.i dn,.i g,r,v]:=by rw [<- aX hi]; exact T.is
  rw [e] at hrow;have hA:=axE (M:=Mx d0 (i:Int)) (mo:=Mo d0 s (i:Int)) (op:=op) (tries:=tries) T (n:=n) hrow.1 hrow.2 (by omega) ht ha;have hE:=aHW (M:=Mx d0 (i:Int)) (mo:=Mo d0 s (i:Int)) (th:=t) (op:=op) (tries:=tries) T (by have:=hrow.1; have:r.l.length<=n:=this; omega) ha
  have hM:NoM (act (Mx d0 (i:Int)) (Mo d0 s (i:Int)) t op arg tries o c dn g r v)\/0<=Mx d0 (i:Int)/\Mx d0 (i:Int)<(s.l.length:Int):=by
   by_cases h:op=12\/op=24
   ·have:=QN h0 h1 G.wd hf hop A h;exact .inr ⟨this.1,this.2.1⟩
   ·exact .inl (UU (by omega) (by omega))
  have hg:=agB G hA o0 o1 hM;have hl:=Oh s (i:Int) (Mx d0 (i:Int)) (act (Mx d0 (i:Int)) (Mo d0 s (i:Int)) t op arg tries o c dn g r v);generalize act (Mx d0 (i:Int)) (Mo d0 s (i:Int)) t op arg tries o c dn g r v=B at *
  have hn2:s≠.i 2->CQ s (i:Int) (Mx d0 (i:Int)) B≠.i 2:=fun _ he=>by rw [he] at hl;have:(D.i 2).l.length=0:=rfl;omega
  cases B with
  |blk=>exact⟨s,0,0,0,0,0,0,hL,fun _=> ⟨rfl,rfl,rfl,rfl,rfl,rfl⟩,.inl rfl,hg,rfl,fun h=>h,z,z⟩
  |mis=>exact⟨s,t,27,_,_,0,2,hL,fun h=>absurd h (by omega),.inr (.inl rfl),hg,rfl,fun h=>h,hob,wrap_in _⟩
  |res o' c' IX g' r' v' m a oc=>exact⟨_,t,op,_,a,0,oc,hL,fun h=>by have:=hA.2.2.2.2.2.2.2.2.2; omega,.inr hA.2.2.2.2.2.2.2.2.2,hg,hl,hn2,hob,hE⟩
 ·exact⟨s,0,0,0,0,0,0,I8 h0 h1 G.wd hf hop A,fun _=> ⟨rfl,rfl,rfl,rfl,rfl,rfl⟩,.inl rfl,G.mono (aJ2 n),rfl,fun h=>h,z,z⟩
noncomputable abbrev stE (d0 d1 s k:D) (t:Int):Nat->Int:=bQ L (low [enc d0,enc d1,enc s,enc k,t])
theorem aaV {k:D} {t:Int} {x:KT} (h:k=dL k.l) (t0:0<=t) (t1:t<(k.l.length:Int)) (hk:k.at t=x.d):fK k t x=k:=by
 obtain⟨i,rfl⟩ : ∃i:Nat,t=(i:Int):=⟨t.toNat,by omega⟩;have hi:i<k.l.length:=by omega
 rw [aX hi] at hk;unfold fK;rw [<- hk];exact set_self h hi
section
variable {d0 d1 s k:D} {t:Int} {n:Nat} (S:Sx s k n)
include S
theorem afU (hR:L 1550 [enc d0,enc d1,enc s,enc k,t]=some [0]):L 1850 [enc d0,enc d1,enc s,enc k,t]=some [enc s,enc k,0,0,0,0,0,0]:=by
 by_cases hr:t<0\/(k.l.length:Int)<=t
 ·rcases alT S.st hr with h|⟨h,he⟩
  ·have K:dX (stE d0 d1 s k t) JY= .out [enc s,enc k,0,0,0,0,0,0]:=by
    refine bD [.eq (a0 9050 QU) Q0,.eq rW Qa,MS,MQ] [] (ou [Fb,Xx,Qa,Qa,Qa,Qa,Qa,Qa]) (by simp only [zz,h,hR]<;>omega) (by kernel_rfl) ?_;simp only [zz,h]
   rw [aN,PK];exact congrArg (fin L) K
  ·subst he
   have K:dX (stE d0 d1 s (.i 1) t) JY= .out [enc s,enc (.i 1),0,0,0,0,0,0]:=by refine bD [.eq (a0 9050 QU) Q0,.eq rW Q0,MS,MQ] [.eq rW Qa] (ou [Fb,Qh,Qa,Qa,Qa,Qa,Qa,Qa]) (by simp only [zz,h,hR]<;>omega) (by kernel_rfl) ?_;simp only [zz,h]
   rw [aN,PK];exact congrArg (fin L) K
 ·obtain⟨i,rfl⟩ : ∃i:Nat,t=(i:Int):=⟨t.toNat,by omega⟩;have hi:i<k.l.length:=by omega
  obtain⟨a,lc,w,o,g,tr,T⟩:=jO S.wk _ (aJm hi);have h:=UN S.st hi T;have hs:fK k (i:Int) ⟨a,lc,w,o,g,tr⟩ = k:=aaV (BU S.wk (by omega)).sh (by omega) (by omega) (by rw [aX hi,T.is]);simp only [fK,KT.d,dU,gB] at hs;have ha:DF lc=3\/DF lc=4:=by unfold DF; split<;>simp
  have K:dX (stE d0 d1 s k (i:Int)) JY= .out [enc s,enc k,0,0,0,0,0,0]:=by
   rcases ha with ha|ha
   ·rw [ha] at h;refine bD [.eq (a0 9050 QU) Q0,.eq rW wV,MS,MQ] [.eq rW Qa,.eq rW Q0,.eq rW nT] (ou [Fb,Qpw,Qa,Qa,Qa,Qa,Qa,Qa]) (by simp only [zz,h,hR]<;>omega) (by kernel_rfl) ?_;simp only [zz,h,hs]
   ·rw [ha] at h;refine bD [.eq (a0 9050 QU) Q0,.eq rW rY,MS,MQ] [.eq rW Qa,.eq rW Q0,.eq rW nT,.eq rW wV] (ou [Fb,Qpw,Qa,Qa,Qa,Qa,Qa,Qa]) (by simp only [zz,h,hR]<;>omega) (by kernel_rfl) ?_;simp only [zz,h,hs]
  rw [aN,PK];exact congrArg (fin L) K
end
structure Rs (d0 d1 s k:D) (t:Int) (x:KT):Prop where
 c:Cd d0 d1
 r:Rt d0 d1 t x
 hk:k.at t=x.d
 ht:t<(k.l.length:Int)
 yes:L 1550 [enc d0,enc d1,enc s,enc k,t]=some [1]
theorem apO {d0 d1 s k:D} {t:Int} {n:Nat} (S:Sx s k n) (hn:n<17592186043904) (h0:Wd (.sl 3) d0) (h1:Wd (.sl 4) d1):L 1550 [enc d0,enc d1,enc s,enc k,t]=some [0]\/∃x,Rs d0 d1 s k t x:=by
 obtain⟨ys,hL,b,rfl,hb⟩:=X8 (k:=k) h0 h1 (S.g.few (by omega)).rows h1.len t;rcases hb with ⟨rfl,_⟩|⟨rfl,t0,t1,M⟩
 ·exact .inl hL
 ·refine .inr ?_;obtain⟨hle,hO⟩:=M.2;obtain⟨i,rfl⟩ : ∃i:Nat,t=(i:Int):=⟨t.toNat,by omega⟩;have hi:i<k.l.length:=by omega
  have hd:i<d1.l.length:=by omega
  obtain⟨a,lc,w,o,g,tr,T⟩:=jO S.wk _ (aJm hi);have ok:=hO i hi;unfold OkK at ok;rw [T.is] at ok;simp only [zg,aJl,n_i] at ok;refine⟨⟨a,lc,w,o,g,tr⟩,(MR.code h0 h1 (S.g.few (by omega)).rows M).1,⟨by omega,by omega,?_,T.hl,T.hg⟩,by rw [aX hi,T.is],by omega,hL⟩;rw [aX hd];exact ok
section
variable {d0 d1 s k:D} {t:Int} {n:Nat} {x:KT} (S:Sx s k n) (R:Rs d0 d1 s k t x)
include S R
theorem Rs.cp:L 9050 [t,enc s,enc k]=some [DF x.lc,t,enc s,enc k,x.a,enc x.lc,x.w,x.o,x.g,x.tr]:=by
 have t0:=R.r.t0;have ht:=R.ht;obtain⟨i,rfl⟩ : ∃i:Nat,t=(i:Int):=⟨t.toNat,by omega⟩;have hi:i<k.l.length:=by omega
 obtain⟨a,lc,w,o,g,tr,T⟩:=jO S.wk _ (aJm hi);have h:=UN S.st hi T;have e:=R.hk;rw [aX hi,T.is] at e;simp only [KT.d,dU,gB,D.p.injEq,D.i.injEq,and_true] at e;obtain⟨rfl,rfl,rfl,rfl,rfl,rfl⟩:=e;exact h
theorem Rs.self:dL (dY k.l t (.p (.i x.a) (.p x.lc (.p (.i x.w) (.p (.i x.o) (.p (.i x.g) (.p (.i x.tr) (.i 0))))))))=k:=by
 have hl:0<k.l.length:=by have:=R.r.t0; have:=R.ht; omega
 exact aaV (BU S.wk hl).sh R.r.t0 R.ht R.hk
theorem Ja (ho:fE d1 t x=1):L 1850 [enc d0,enc d1,enc s,enc k,t]=some [enc s,enc k,0,0,0,0,0,4]:=by
 have h:=R.cp S;have hs:=R.self S;have hR:=R.yes;have hO:=vI (s:=s) R.hk R.ht R.r;rw [ho] at hO;have ha:DF x.lc=3\/DF x.lc=4:=by unfold DF; split<;>simp
 have K:dX (stE d0 d1 s k t) JY= .out [enc s,enc k,0,0,0,0,0,4]:=by
  rcases ha with ha|ha
  ·rw [ha] at h;refine bD [.eq (a0 9050 QU) Q0,.eq rW wV,MS,.eq (a0 1650 U2) Q0] [.eq rW Qa,.eq rW Q0,.eq rW nT,MQ,Qpz] (ou [Fb,Qpw,Qa,Qa,Qa,Qa,Qa,rY]) (by simp only [zz,h,hR,hs,hO]<;>omega) (by kernel_rfl) ?_;simp only [zz,h,hs]
  ·rw [ha] at h;refine bD [.eq (a0 9050 QU) Q0,.eq rW rY,MS,.eq (a0 1650 U2) Q0] [.eq rW Qa,.eq rW Q0,.eq rW nT,.eq rW wV,MQ,Qpz] (ou [Fb,Qpw,Qa,Qa,Qa,Qa,Qa,rY]) (by simp only [zz,h,hR,hs,hO]<;>omega) (by kernel_rfl) ?_;simp only [zz,h,hs]
 rw [aN,PK];exact congrArg (fin L) K
theorem Fq (ho:fE d1 t x=0) (hn:low (eX d1 t x) 4=0):L 1850 [enc d0,enc d1,enc s,enc k,t]=some [enc s,enc (fK k t (gW (Ins d1 t x) x)),0,0,0,0,0,1]:=by
 have h:=R.cp S;have hs:=R.self S;have hR:=R.yes;have hO:=vI (s:=s) R.hk R.ht R.r;have hN:=xJ (s:=s) R.c R.hk R.ht R.r;have Lc:=FQ R.r ho hn;rw [ho] at hO
 have K:dX (stE d0 d1 s k t) JY= .out [enc s,enc (fK k t (gW (Ins d1 t x) x)),0,0,0,0,0,1]:=by
  have hw:(gW (Ins d1 t x) x).w=x.w/\(gW (Ins d1 t x) x).o=x.o/\(gW (Ins d1 t x) x).g=x.g/\(gW (Ins d1 t x) x).tr=x.tr:=by
   unfold gW
   repeat' split
   all_goals exact⟨rfl,rfl,rfl,rfl⟩
  by_cases hp:0<x.lc.l.length
  ·have ha:DF x.lc=3:=aJe hp;rw [ha] at h;have hl:=Yt (s:=s) R.c R.ht R.r Lc;refine bD [.eq (a0 9050 QU) Q0,.eq rW wV,MS,.eq (a0 1650 U2) Q0,Qpz,.eq (a0 1750 U2) Q0,Qp0,.eq (a0 14000 Qp1) Q0,.eq (rr 14000 Qp1 0) Qa] [.eq rW Qa,.eq rW Q0,.eq rW nT,MQ] (ou [Fb,.op .set Xx (cn (mk bC) (cn (mk (rr 14000 Qp1 12)) (cn (rr 14000 Qp1 13) Qpv))),Qa,Qa,Qa,Qa,Qa,Q0]) (by simp only [zz,h,hR,hs,hO,hN,hn,hl]<;>omega) (by kernel_rfl) ?_;simp only [zz,h,hs,hl,fK,KT.d,dU,gB,hw]
  ·have ha:DF x.lc=4:=aJd hp;rw [ha] at h;obtain⟨hl,hc⟩:=Yr (s:=s) R.c R.ht R.r Lc (by omega);refine bD [.eq (a0 9050 QU) Q0,.eq rW rY,MS,.eq (a0 1650 U2) Q0,Qpz,.eq (a0 1750 U2) Q0,Qp0,.eq (a0 14050 Qp1) Q0,.eq (rr 14050 Qp1 0) Qa] [.eq rW Qa,.eq rW Q0,.eq rW nT,.eq rW wV,MQ] (ou [Fb,.op .set Xx (cn (mk bC) (cn (mk (rr 14050 Qp1 12)) (cn Qpq Qpv))),Qa,Qa,Qa,Qa,Qa,Q0]) (by simp only [zz,h,hR,hs,hO,hN,hn,hl]<;>omega) (by kernel_rfl) ?_;simp only [zz,h,hs,hl,fK,KT.d,dU,gB,hw,hc]
 rw [aN,PK];exact congrArg (fin L) K
theorem wF {op obj arg tries e1 e2 e3 e4 e5 oc:Int} {s':D} (ho:fE d1 t x=0) (hn:eX d1 t x= [op,obj,arg,tries,1]) (A:Tried d0 d1 s t op obj arg tries n s' e1 e2 e3 e4 e5 oc) :
 L 1850 [enc d0,enc d1,enc s,enc k,t]=some [enc s',enc (fK k t (jI (Ins d1 t x) x op e2 e3 e4 oc)),e1,e2,e3,e4,e5,oc]:=by
 have h:=R.cp S;have hs:=R.self S;have hR:=R.yes;have hO:=vI (s:=s) R.hk R.ht R.r;have hN:=xJ (s:=s) R.c R.hk R.ht R.r;rw [ho] at hO;rw [hn] at hN
 have hx:x.w=0->x.a<(Nc d1 t:Int):=fun w0=>by unfold fE at ho;rw [aJe w0] at ho;have:=R.r.ok.2.1;unfold Nc at ho ⊢;split at ho<;>omega
 have hE:evT e1 e2 e3 e4 e5 oc= [e1,e2,e3,e4,e5]:=by
  unfold evT;split
  ·rename_i h0;obtain⟨_,rfl,rfl,rfl,rfl,rfl⟩:=A.no h0;rfl
  ·rfl
 have K:dX (stE d0 d1 s k t) JY= .out [enc s',enc (fK k t (jI (Ins d1 t x) x op e2 e3 e4 oc)),e1,e2,e3,e4,e5,oc]:=by
  by_cases hp:0<x.lc.l.length
  ·have ha:DF x.lc=3:=aJe hp;rw [ha] at h;have hl:=XK R.c R.ht R.r A.eq (fun h=>(A.no h).1) hx;rw [hE] at hl;simp only [aJv,aJo] at hl;refine bD [.eq (a0 9050 QU) Q0,.eq rW wV,MS,.eq (a0 1650 U2) Q0,Qpz,.eq (a0 1750 U2) Q0,.eq (a0 14500 rX) Q0,.eq (rr 14500 rX 0) Qa] [.eq rW Qa,.eq rW Q0,.eq rW nT,MQ,Qp0] (ou [rr 14500 rX 22,.op .set Xx (cn (mk bC) (cn (mk (rr 14500 rX 23)) (cn (rr 14500 rX 24) (cn (mk (rr 14500 rX 25)) (cn (mk (rr 14500 rX 26)) (cn (mk (rr 14500 rX 27)) (cn (mk (rr 14500 rX 28)) jM))))))),rr 14500 rX 16,rr 14500 rX 17,rr 14500 rX 18,rr 14500 rX 19,rr 14500 rX 20,rr 14500 rX 21]) (by simp only [zz,h,hR,hs,hO,hN,hl]<;>omega) (by kernel_rfl) ?_;simp only [zz,h,hs,hN,hl,fK,KT.d,dU,gB]
  ·have ha:DF x.lc=4:=aJd hp;rw [ha] at h;obtain⟨hl,hc⟩:=XJ R.c R.ht R.r A.eq (fun h=>(A.no h).1) hx (by omega);rw [hE] at hl;simp only [aJv,aJo] at hl;refine bD [.eq (a0 9050 QU) Q0,.eq rW rY,MS,.eq (a0 1650 U2) Q0,Qpz,.eq (a0 1750 U2) Q0,.eq (a0 14550 rX) Q0,.eq (rr 14550 rX 0) Qa] [.eq rW Qa,.eq rW Q0,.eq rW nT,.eq rW wV,MQ,Qp0] (ou [rr 14550 rX 22,.op .set Xx (cn (mk bC) (cn (mk (rr 14550 rX 23)) (cn Qpq (cn (mk (rr 14550 rX 24)) (cn (mk (rr 14550 rX 25)) (cn (mk (rr 14550 rX 26)) (cn (mk (rr 14550 rX 27)) jM))))))),rr 14550 rX 16,rr 14550 rX 17,rr 14550 rX 18,rr 14550 rX 19,rr 14550 rX 20,rr 14550 rX 21]) (by simp only [zz,h,hR,hs,hO,hN,hl]<;>omega) (by kernel_rfl) ?_;simp only [zz,h,hs,hN,hl,fK,KT.d,dU,gB,hc]
 rw [aN,PK];exact congrArg (fin L) K
end
theorem Tot.jmp {j k:Nat} {xs ys:List Int} {t:T Lf} {p:List Int->Prop} (e:S.tree j=t) (h:dX (bQ L (low xs)) t= .jump k ys) (q:Tot k ys p):Tot j xs p:=by refine Tot.of ?_;rw [e,h];exact .jump q
theorem Tot.ret {j:Nat} {xs ys:List Int} {t:T Lf} {p:List Int->Prop} (e:S.tree j=t) (h:dX (bQ L (low xs)) t= .out ys) (q:p ys):Tot j xs p:=by refine Tot.of ?_;rw [e,h];exact .out q
theorem Sv (m:Nat) (hm:m<=60) (ih: ∀(k n:Int) (s kids:D),Wd .str s->Wd (.sl 6) kids->Tot 150 [k,enc s,n,enc kids,(m:Int)] one) (x3 x4 x5:Int) (kids:D) (hk:Wd (.sl 6) kids) :
 ∀(j i:Nat) (x1:Int),i+j=kids.l.length->Tot 151 [((m+1:Nat):Int),x1,(i:Int),x3,x4,x5,enc kids] one
 |0,i,x1,hi=>Tot.ret aA8 (ys:=[x1]) (bD [] [.lt Qo Qfc] (ou [Qb]) (by simp only [zz]<;>omega) (by kernel_rfl) (by simp only [zz])) ⟨x1,rfl⟩
 |j+1,i,x1,hi=>by
  have hl:=hk.len;have hil:i<kids.l.length:=by omega
  have hw:=aZ (n:=i) (by omega);obtain⟨k,s,n,ks,he,_,hs,_,hks⟩:=Ej hk hil;have ha:kids.at (i:Int)=dL [.i k,s,.i n,ks]:=by rw [aX hil]; exact he
  obtain⟨ys,acD,z,rfl⟩:=ih k n s ks hs hks;have hw2:IntKind.i64.wrap (((m+1:Nat):Int)-1)=(m:Int):=by rw [mY (by omega) (by omega)]; omega
  by_cases hx:10000<x1
  ·exact Tot.ret aA8 (ys:=[x1]) (bD [.lt Qo Qfc,.lt (.lit 10000) Qb] [] (ou [Qb]) (by simp only [zz]<;>omega) (by kernel_rfl) (by simp only [zz])) ⟨x1,rfl⟩
  ·exact Tot.jmp aA8 (bD [.lt Qo Qfc,.eq (a0 150 Qfe) Q0] [.lt (.lit 10000) Qb,uS] (ju 151 [Qf,wr (.add Qb (rr 150 Qfe 0)),kP,Qm,bC,bK,cZ]) (by simp only [zz,ha,zg,hw2,acD]<;>omega) (by kernel_rfl) (by simp only [zz,ha,zg,hw2,acD,hw]<;>rfl)) (Sv m hm ih x3 x4 x5 kids hk j (i+1) (IntKind.i64.wrap (x1+z)) (by omega))
theorem X0: ∀(m:Nat),m<=60->∀(k n:Int) (s kids:D),Wd .str s->Wd (.sl 6) kids->Tot 150 [k,enc s,n,enc kids,(m:Int)] one
 |0,_,k,n,s,kids,_,_=>Tot.ret aFs (ys:=[10000]) (bD [Qfa] [] (ou [.lit 10000]) (by simp only [zz]<;>omega) (by kernel_rfl) (by simp only [zz])) ⟨_,rfl⟩
 |m+1,hm,k,n,s,kids,hs,hk=>Tot.jmp aFs (ys:=[((m+1:Nat):Int),_,(0:Nat),k,enc s,n,enc kids]) (bD [] [Qfa] (ju 151 [bC,wr (.add Q0 (wr (.quo Qc Qfb))),Qa,Qf,Qb,Qo,Qm]) (by simp only [zz]<;>omega) (by kernel_rfl) (by simp only [pR,List.map,aY,Nat.reduceLT,aQ,aT]<;>rfl)) (Sv m (by omega) (X0 m (by omega)) k (enc s) n kids hk kids.l.length 0 _ (by omega))
section
variable {d0 d1:D} (h1:Wd (.sl 4) d1)
include h1
theorem O4 (x1 x2 x3:Int) (Rh:D) (ha:Wd (.sl 6) Rh) (q: ∀x0,Tot 102 [x0,x1,IntKind.i64.wrap (x2+1),x3,enc d0,enc d1] FW): ∀(j i:Nat) (x0:Int),i+j=Rh.l.length->Tot 103 [x0,x1,x2,x3,enc Rh,(Rh.l.length:Int),(i:Int),enc d0,enc d1] FW
 |0,i,x0,hi=>Tot.jmp aFt (bD [] [.lt cZ bK] (ju 102 [Qf,Qb,kP,Qm,dZ,fQ]) (by simp only [zz]<;>omega) (by kernel_rfl) (by simp only [zz])) (q x0)
 |j+1,i,x0,hi=>by
  have hl:=ha.len;have hil:i<Rh.l.length:=by omega
  have hw:=aZ (n:=i) (by omega);obtain⟨k,s,n,ks,he,_,hs,_,hks⟩:=Ej ha hil;have hat:Rh.at (i:Int)=dL [.i k,s,.i n,ks]:=by rw [aX hil]; exact he
  obtain⟨ys,acD,z,rfl⟩:=X0 60 (by omega) k n s ks hs hks;have acD:L 150 [k,enc s,n,enc ks,60]=some [z]:=acD;exact Tot.jmp aFt (bD [.lt cZ bK,.lt cZ Rn,.eq (a0 150 Qe9) Q0] [Qe7] (ju 103 [wr (.add Qf (rr 150 Qe9 0)),Qb,Qo,Qm,bC,bK,wr (.add cZ Q0),dZ,fQ]) (by simp only [zz,hat,zg,acD]<;>omega) (by kernel_rfl) (by simp only [zz,hat,zg,acD,hw]<;>rfl)) (O4 x1 x2 x3 Rh ha q j (i+1) (IntKind.i64.wrap (x0+z)) (by omega))
theorem akV (i:Nat) (hi:i<d1.l.length) (q: ∀x0,Tot 101 [x0,(d1.l.length:Int),((i+1:Nat):Int),enc d0,enc d1] FW): ∀(j k:Nat) (x0:Int),(∀nm' lc cd,d1.l[i]=dL [nm',lc,cd]->k+j=cd.l.length)->Tot 102 [x0,(i:Int),(k:Int),(d1.l.length:Int),enc d0,enc d1] FW:=by
 have hl:=h1.len;have hw:=aZ (n:=i) (by omega);obtain⟨nm',lc,cd,he,_,_,hcd⟩:=Gp h1 hi;have hat:d1.at (i:Int)=dL [nm',lc,cd]:=by rw [aX hi]; exact he
 have hcl:=hcd.len;intro j
 induction j with
 |zero=> intro k x0 hk;have hk:=hk _ _ _ he;exact Tot.jmp aA9 (bD [.lt Qb (ln bK)] [Qe2,.lt Qo (ln (ce 2 ZC))] (ju 101 [Qf,Qm,vY,bC,bK]) (by simp only [zz,hat,zg]<;>omega) (by kernel_rfl) (by simp only [zz,hw]<;>rfl)) (q x0)
 |succ j ih=>
  intro k x0 hk;have hk':=hk _ _ _ he;by_cases h6:6000<x0
  ·exact Tot.jmp aA9 (bD [.lt Qb (ln bK),.lt Qo (ln (ce 2 ZC)),.lt (.lit 6000) Qf] [Qe2] (ju 101 [Qf,Qm,vY,bC,bK]) (by simp only [zz,hat,zg]<;>omega) (by kernel_rfl) (by simp only [zz,hw]<;>rfl)) (q x0)
  ·have hkl:k<cd.l.length:=by omega
   have hw2:=aZ (n:=k) (by omega);obtain⟨a,b,c,e,f,g,Rh,hin,_,_,_,_,_,_,has⟩:=abZ hcd hkl;have aIy:cd.at (k:Int)=dL [.i a,.i b,.i c,.i e,.i f,.i g,Rh]:=by rw [aX hkl]; exact hin
   refine Tot.jmp aA9 (bD [.lt Qb (ln bK),.lt Qo (ln (ce 2 ZC))] [Qe2,.lt (.lit 6000) Qf,uS] (ju 103 [Qf,Qb,Qo,Qm,Qe6,ln Qe6,Qa,bC,bK]) (by simp only [zz,hat,zg]<;>omega) (by kernel_rfl) (by simp only [zz,hat,aIy,zg]<;>rfl)) (O4 h1 (i:Int) (k:Int) (d1.l.length:Int) Rh has (fun x0=>?_) Rh.l.length 0 x0 (by omega));rw [hw2];exact ih (k+1) x0 fun nm' lc cd he=>by have:=hk nm' lc cd he; omega
theorem O1: ∀(j i:Nat) (x0:Int),i+j=d1.l.length->Tot 101 [x0,(d1.l.length:Int),(i:Int),enc d0,enc d1] FW
 |0,i,x0,hi=>by
  by_cases h6:6000<x0
  ·exact Tot.ret aBa (bD [.lt (.lit 6000) Qf] [wY] (ou [Q0]) (by simp only [zz]<;>omega) (by kernel_rfl) (by simp only [zz])) Aw
  ·exact Tot.ret aBa (bD [] [wY,.lt (.lit 6000) Qf] (ou [Qa]) (by simp only [zz]<;>omega) (by kernel_rfl) (by simp only [zz])) Az
 |j+1,i,x0,hi=>by
  have hil:i<d1.l.length:=by omega
  obtain⟨nm',lc,cd,he,_,_,hcd⟩:=Gp h1 hil;refine Tot.jmp aBa (ys:=[_,(i:Int),((0:Nat):Int),(d1.l.length:Int),enc d0,enc d1]) (bD [wY,Qdk] [uS] (ju 102 [wr (.add Qf (wr (.add (ln Qdm) (ln (ce 2 Qdl))))),Qo,Qa,Qb,Qm,bC]) (by simp only [zz]<;>omega) (by kernel_rfl) (by simp only [zz]<;>rfl)) (akV h1 i hil (fun x0=>O1 j (i+1) x0 (by omega)) cd.l.length 0 _ fun n' l' c' he'=>?_);rw [he] at he';have:=P6 he';simp only [List.cons.injEq,and_true] at this;rw [this.2.2];omega
theorem akU:Tot 100 [enc d0,enc d1] FW:=
 Tot.jmp e100 (ys:=[_,(d1.l.length:Int),((0:Nat):Int),enc d0,enc d1]) (bD [] [] (ju 101 [wr (.add rC Qc),Qc,Qa,Qf,Qb]) (by simp only [zz]<;>omega) (by kernel_rfl) (by simp only [zz]<;>rfl)) (O1 h1 d1.l.length 0 _ (by omega))
end
def nV (x:D):D:=dL [.i 0,if (x.hd 1).l.length=0 then .i 2 else dL (List.replicate (x.hd 1).l.length (.i 0)),.i 0,.i 0,.i 0,.i 0]
def fA (d0:D):D:=if d0.l.length=0 then .i 1 else dL (d0.l.map kG)
def iT (d1:D):D:=if d1.l.length=0 then .i 1 else dL (d1.l.map nV)
theorem XG {l:List D} (h: ∀x∈l,∃a lc w o g tr,Kt x a lc w o g tr) (hn:l≠[]) (hl:l.length<=2199023255488):Wd (.sl 8) (dL l):=by
 have e:(l.map fun x=>x.l).map dL=l:=by
  rw [aKD]
  conv=>rhs; rw [<- aK6 l]
  apply aKL;intro x hx;obtain⟨a,lc,w,o,g,tr,T⟩:=h x hx;rw [T.is];rfl
 rw [<- e];refine .many 8 [.int .i64,.sl 0,.int .u8,.int .i64,.int .i64,.int .i64] _ rfl (by simpa using hn) (by have:xC 8=64:=rfl; rw [this,aJZ]; omega) (fun r hr=>?_) fun r hr j d c h1 h2=>?_
 ·obtain⟨x,hx,rfl⟩:=aJE.1 hr;obtain⟨a,lc,w,o,g,tr,T⟩:=h x hx;rw [T.is];rfl
 ·obtain⟨x,hx,rfl⟩:=aJE.1 hr;obtain⟨a,lc,w,o,g,tr,T⟩:=h x hx;rw [T.is,aW] at h1
  match j with
  |0=>simp at h1 h2; subst h1 h2; exact .int _ _ T.ha
  |1=>simp at h1 h2; subst h1 h2; exact T.hl
  |2=>simp at h1 h2; subst h1 h2; exact .int _ _ T.hw
  |3=>simp at h1 h2; subst h1 h2; exact .int _ _ T.ho
  |4=>simp at h1 h2; subst h1 h2; exact .int _ _ T.hg
  |5=>simp at h1 h2; subst h1 h2; exact .int _ _ T.ht
  |j+6=>simp at h1
theorem anE (x:D) (h:(x.hd 1).l.length<=17592186043904): ∃a lc w o g tr,Kt (nV x) a lc w o g tr:=by
 have z:iM .i64 0:=⟨by omega,by omega⟩;refine⟨0,_,0,0,0,0,rfl,z,?_,⟨by omega,by omega⟩,z,z,z⟩;split
 ·exact .non 0
 ·rename_i hn;refine zZ (fun y hy=> ⟨0,(List.mem_replicate.1 hy).2,z⟩) (fun he=>?_) (by simpa using h);have:=congrArg List.length he;simp only [aKr,aJt] at this;omega
theorem FP {d1:D} (h1:Wd (.sl 4) d1): ∀x∈d1.l,(x.hd 1).l.length<=8796093021952:=by intro x hx;obtain⟨i,hi,rfl⟩:=aKG hx;obtain⟨nm',lc,cd,he,_,hlc,_⟩:=Gp h1 hi;rw [he];simp only [zg,aJl];have:=hlc.room;have h3:xC 2=16:=rfl;rw [h3] at this;omega
theorem Gx {d0 d1:D} (h0:Wd (.sl 3) d0) (h1:Wd (.sl 4) d1) (ok:yA d0 d1):Sx (fA d0) (iT d1) 0:=by
 refine⟨?_,?_,?_,?_⟩
 ·unfold fA;split
  ·exact⟨.nil 7,fun x hx=>by simp [D.l] at hx⟩
  ·refine⟨RH (fun x hx=>?_) (fun he=>?_) (by rw [aJZ]; have:=ok.1; omega),fun x hx=>?_⟩
   ·obtain⟨y,hy,rfl⟩:=aJE.1 hx;obtain⟨kd,nm',ln,s1,s2,he,_,hnn,_⟩:=h0.decl y hy;rw [he];refine⟨-1,_,0,0,.i 1,.i 1,rfl,⟨by omega,by omega⟩,?_,.inl rfl,⟨by omega,by omega⟩,.nil 0,.nil 0⟩;split
    ·exact hnn
    ·exact⟨by omega,by omega⟩
   ·have:=congrArg List.length he;simp only [aJZ,aJt] at this;omega
   ·rw [aW] at hx;obtain⟨y,hy,rfl⟩:=aJE.1 hx;exact⟨aJi 0,aJi 0⟩
 ·unfold iT;split
  ·exact .nil 8
  ·refine XG (fun x hx=>?_) (fun he=>?_) (by rw [aJZ]; have:=ok.2.1; omega)
   ·obtain⟨y,hy,rfl⟩:=aJE.1 hx;exact anE y (by have:=FP h1 y hy; omega)
   ·have:=congrArg List.length he;simp only [aJZ,aJt] at this;omega
 ·unfold fA;split
  ·intro h; cases h
  ·intro h;have:=congrArg (fun d=>d.l.length) h;simp only [aW,aJZ,wX,aJt] at this;omega
 ·unfold iT;split
  ·intro h; cases h
  ·intro h;have:=congrArg (fun d=>d.l.length) h;simp only [aW,aJZ,wX,aJt] at this;omega
theorem Kw (d1:D) (h1:Wd (.sl 4) d1) (hlen:d1.l.length<=16) (s:D): ∀(k i:Nat) (acc:List D),i+k=d1.l.length->acc.length=i->
 L 1452 [enc d1,(d1.l.length:Int),(i:Int),enc s,enc (dL acc)]=some [enc s,enc (dL (acc++(d1.l.drop i).map nV)),0]
 |0,i,acc,hi,ha=>by
  have c1: ¬(i:Int)<(d1.l.length:Int):=by omega
  rw [aN,auT,aJ7 (by omega)];simp only [XT,zz,c1,aG,List.map_nil,aJ1]
 |k+1,i,acc,hi,ha=>by
  have hil:i<d1.l.length:=by omega
  have hd:d1.l.drop i=d1.l[i]::d1.l.drop (i+1):=aJN hil;have ih:=Kw d1 h1 hlen s k (i+1) (acc++ [nV d1.l[i]]) (by omega) (by simp [ha]);have c1:(i:Int)<(d1.l.length:Int):=by omega
  have c2: ¬((i:Int)<0):=by omega
  have w:=aZ (n:=i) (by omega);have c3:(acc.length:Int)<2199023255551:=by omega
  have hb:=FP h1 _ (aJm hil);have c4:((((d1.l[i]).hd 1).l.length:Nat):Int)<17592186044416:=by omega
  have e2:acc++(nV d1.l[i]::(d1.l.drop (i+1)).map nV)=acc++ [nV d1.l[i]]++(d1.l.drop (i+1)).map nV:=by simp
  rw [hd,aJz,e2,<- ih,aN,auT];by_cases hz:((d1.l[i]).hd 1).l.length=0
  ·have hz':((((d1.l[i]).hd 1).l.length:Nat):Int)=0:=by omega
   have et:nV d1.l[i]= .p (.i 0) (.p (.i 2) (.p (.i 0) (.p (.i 0) (.p (.i 0) (.p (.i 0) (.i 0)))))):=by unfold nV; rw [aJe hz]; rfl
   rw [et];simp only [XT,zz,c1,c2,w,aX hil,hz',c3,aW,aK]
  ·have hz': ¬((((d1.l[i]).hd 1).l.length:Nat):Int)=0:=by omega
   have et:nV d1.l[i]= .p (.i 0) (.p (dL (List.replicate ((d1.l[i]).hd 1).l.length (.i 0))) (.p (.i 0) (.p (.i 0) (.p (.i 0) (.p (.i 0) (.i 0)))))):=by unfold nV; rw [aJd hz]; rfl
   rw [et];simp only [XT,zz,c1,c2,w,aX hil,hz',c3,c4,aW,aJJ,aK]
theorem Yq (d1:D) (h1:Wd (.sl 4) d1) (hlen:d1.l.length<=16) (s:D):L 1451 [enc d1,(d1.l.length:Int),enc s]=some [enc s,enc (iT d1),0]:=by
 by_cases hn:d1.l.length=0
 ·have c1: ¬(0:Int)<(d1.l.length:Int):=by omega
  have e:iT d1= .i 1:=by unfold iT; rw [aJe hn]
  rw [aN,auU,e];simp only [XU,zz,c1,aG]
 ·have hp:0<d1.l.length:=by omega
  have c1:(0:Int)<(d1.l.length:Int):=by omega
  have e:iT d1=dL (d1.l.map nV):=by unfold iT; rw [aJd hn]
  have ih:=Kw d1 h1 hlen s (d1.l.length-1) 1 [nV (d1.l[0]'hp)] (by omega) rfl
  have e1:[nV (d1.l[0]'hp)]++(d1.l.drop 1).map nV=d1.l.map nV:=by
   conv=>rhs; rw [<- aKf (l:=d1.l),aJN hp]
   rfl
  rw [e1,<- e] at ih;have a0:d1.at 0=d1.l[0]'hp:=aX (i:=0) hp;have hb:=FP h1 _ (aJm hp);have c4:((((d1.l[0]'hp).hd 1).l.length:Nat):Int)<17592186044416:=by omega
  rw [<- ih,aN,auU];by_cases hz:((d1.l[0]'hp).hd 1).l.length=0
  ·have hz':((((d1.l[0]'hp).hd 1).l.length:Nat):Int)=0:=by omega
   have et:dL [nV (d1.l[0]'hp)]= .p (.p (.i 0) (.p (.i 2) (.p (.i 0) (.p (.i 0) (.p (.i 0) (.p (.i 0) (.i 0))))))) (.i 0):=by unfold nV; rw [aJe hz]; rfl
   rw [et];simp only [XU,zz,c1,a0,hz',wX,aJo,dU,gB,aK,aJH]
  ·have hz': ¬((((d1.l[0]'hp).hd 1).l.length:Nat):Int)=0:=by omega
   have et:dL [nV (d1.l[0]'hp)]= .p (.p (.i 0) (.p (dL (List.replicate ((d1.l[0]'hp).hd 1).l.length (.i 0))) (.p (.i 0) (.p (.i 0) (.p (.i 0) (.p (.i 0) (.i 0))))))) (.i 0):=by unfold nV; rw [aJd hz]; rfl
   rw [et];simp only [XU,zz,c1,a0,hz',c4,wX,aJo,dU,gB,aJJ,aK,aJH]
theorem TL {d0 d1:D} (h1:Wd (.sl 4) d1) (hc:L 450 [enc d0,enc d1]=some [0]) (ok:yA d0 d1):L 1450 [enc d0,enc d1]=some [enc (fA d0),enc (iT d1),0]:=by
 have h3:L 300 [enc d0,enc d1]=some [enc (fA d0)]:=by
  by_cases hn:d0.l.length=0
  ·have e:fA d0= .i 1:=by unfold fA; rw [aJe hn]
   rw [e];exact awX hc (.inr hn)
  ·have e:fA d0=dL (d0.l.map kG):=by unfold fA; rw [aJd hn]
   rw [e];exact awY hc ok.1 (by omega)
 have K:dX (bQ L (low [enc d0,enc d1])) afR= .jump 1451 [enc d1,(d1.l.length:Int),enc (fA d0)]:=by refine bD [Qf4,Qf5,.eq (a0 300 KZ) Q0] [] (ju 1451 [Qb,Qc,rr 300 KZ 0]) (by simp only [zz,hc,h3]<;>omega) (by kernel_rfl) ?_;simp only [zz,h3]
 rw [aN,auW];exact (congrArg (fin L) K).trans (Yq d1 h1 ok.2.1 _)
theorem Jq {d0 d1:D} {c:Int} (hc:L 450 [enc d0,enc d1]=some [c]) (h:c≠0):L 1450 [enc d0,enc d1]=some [enc (.i 1),enc (.i 1),c]:=by
 have K:dX (bQ L (low [enc d0,enc d1])) afR= .out [enc (.i 1),enc (.i 1),c]:=by refine bD [Qf4] [Qf5] (ou [Qh,Qh,rr 450 KZ 0]) (by simp only [zz,hc]<;>omega) (by kernel_rfl) ?_;simp only [zz,hc]
 rw [aN,auW];exact congrArg (fin L) K
theorem iZ {k:D} {t:Int} (t0:0<=t) (ht:t<(k.l.length:Int)) (x:KT):(fK k t x).at t=x.d:=by obtain⟨i,rfl⟩ : ∃i:Nat,t=(i:Int):=⟨t.toNat,by omega⟩;rw [lN,aW,zG (by omega)];rfl
theorem gG (k:D) (t:Int) (x:KT):(fK k t x).l.length=k.l.length:=by rw [aW,dQ]
theorem TG {d1:D} {t:Int} {x:KT} (ho: ¬fE d1 t x=1) (h: ¬low (eX d1 t x) 4=0): ∃op obj arg tr,eX d1 t x= [op,obj,arg,tr,1]:=by
 unfold fE at ho;unfold eX at h ⊢;by_cases w0:x.w=0
 ·rw [aJe w0] at ho h ⊢;by_cases a0:x.a=(Nc d1 t:Int)
  ·rw [aJe a0] at ho;omega
  ·rw [aJd a0] at h ⊢;by_cases h1:((Ins d1 t x).hd 0).n=1
   ·rw [aJe h1];exact⟨_,_,_,_,rfl⟩
   ·rw [aJd h1] at h ⊢;by_cases h2:((Ins d1 t x).hd 0).n=2
    ·rw [aJe h2];exact⟨_,_,_,_,rfl⟩
    ·rw [aJd h2] at h;exact absurd rfl h
 ·rw [aJd w0];exact⟨_,_,_,_,rfl⟩
theorem LW (d1:D) (t:Int) (x:KT):fE d1 t x=0\/fE d1 t x=1:=by
 unfold fE;split
 ·split
  ·exact .inr rfl
  ·exact .inl rfl
 ·exact .inl rfl
theorem VQ {d0 d1:D} {t:Int} {x:KT} (C:Cd d0 d1) (R:Rt d0 d1 t x) (hd0:d0.l.length<=64) {op obj arg tr b:Int} (hn:eX d1 t x= [op,obj,arg,tr,b]):iM .u8 op/\iM .i64 obj/\iM .i64 arg:=by
 have z8:iM .u8 0:=⟨by omega,by omega⟩;have z:iM .i64 0:=⟨by omega,by omega⟩;have ok:=R.ok;unfold eX at hn;by_cases w0:x.w=0
 ·rw [aJe w0] at hn;by_cases a0:x.a=(Nc d1 t:Int)
  ·rw [aJe a0] at hn;simp only [List.cons.injEq] at hn;obtain⟨rfl,rfl,rfl,_⟩:=hn;exact⟨z8,z,z⟩
  ·have hlt:x.a<(Nc d1 t:Int):=by have:=ok.2.1; unfold Nc at a0 ⊢; omega
   have F:=C.inf R hlt;rw [aJd a0] at hn;by_cases h1:((Ins d1 t x).hd 0).n=1
   ·rw [aJe h1] at hn;simp only [List.cons.injEq] at hn;obtain⟨rfl,rfl,rfl,_⟩:=hn;exact⟨F.op,F.ob,aBr F.ar R.ints⟩
   ·rw [aJd h1] at hn;by_cases h2:((Ins d1 t x).hd 0).n=2
    ·rw [aJe h2] at hn;simp only [List.cons.injEq] at hn;obtain⟨rfl,rfl,rfl,_⟩:=hn;exact⟨⟨by omega,by omega⟩,F.ob,z⟩
    ·rw [aJd h2] at hn;simp only [List.cons.injEq] at hn;obtain⟨rfl,rfl,rfl,_⟩:=hn;exact⟨z8,z,z⟩
 ·rw [aJd w0] at hn;simp only [List.cons.injEq] at hn;obtain⟨rfl,rfl,rfl,_⟩:=hn;obtain⟨_,_,_,_,_,hw⟩:=ok;exact⟨⟨by omega,by omega⟩,⟨by omega,by omega⟩,R.hg⟩
theorem axO {lc:D} (h:Wd (.sl 0) lc) {z v:Int} (h0:0<=z) (h1:z<(lc.l.length:Int)) (hv:iM .i64 v):Wd (.sl 0) (dL (dY lc.l z (.i v))):=by
 have:=h.room;have h3:xC 0=8:=rfl;rw [h3] at this;have hs:=dQ lc.l z (.i v);refine zZ (fun y hy=>?_) (fun he=>?_) (by rw [hs]; omega)
 ·rcases zB hy with h'|rfl
  ·exact (h.el1 rfl y h').i
  ·exact⟨v,rfl,hv⟩
 ·rw [he] at hs;simp only [aJt] at hs;omega
theorem aeD {k:D} (hk:Wd (.sl 8) k) {t:Int} {x:KT} (h: ∃a lc w o g tr,Kt x.d a lc w o g tr) (hp:0<k.l.length):Wd (.sl 8) (fK k t x):=by
 have hf:=hk.room;have h3:xC 8=64:=rfl;rw [h3] at hf;have hs:=dQ k.l t x.d;refine XG (fun y hy=>?_) (fun he=>?_) (by rw [hs]; omega)
 ·rcases zB hy with h'|rfl
  ·exact jO hk y h'
  ·exact h
 ·rw [he] at hs;simp only [aJt] at hs;omega
section
variable {d0 d1 s k:D} {t:Int} {n:Nat} {x:KT}
theorem Yv {x:KT} (ha:iM .i64 x.a) (hl:Wd (.sl 0) x.lc) (hw:iM .u8 x.w) (ho:iM .i64 x.o) (hg:iM .i64 x.g) (ht:iM .i64 x.tr): ∃a lc w o g tr,Kt x.d a lc w o g tr:=⟨_,_,_,_,_,_,rfl,ha,hl,hw,ho,hg,ht⟩
theorem Rt.kt (C:Cd d0 d1) (R:Rt d0 d1 t x): ∃a lc w o g tr,Kt x.d a lc w o g tr:=by obtain⟨a0,a1,_,t0,t1,hw⟩:=R.ok;have hd:=C.ok.1;have hnc:=(C.code R.t0 R.t1).len;exact Yv ⟨by omega,by omega⟩ R.hl ⟨by omega,by omega⟩ ⟨by omega,by omega⟩ R.hg ⟨by omega,by omega⟩
theorem amZ (C:Cd d0 d1) (R:Rt d0 d1 t x) (hx:x.w=0->x.a<(Nc d1 t:Int)) {op e2 e3 e4 oc:Int} (h3:iM .i64 e3) (h4:iM .i64 e4): ∃a lc w o g tr,Kt (jI (Ins d1 t x) x op e2 e3 e4 oc).d a lc w o g tr:=by
 obtain⟨a0,a1,hln,t0,t1,hw⟩:=R.ok;have hd:=C.ok.1;have hnc:=(C.code R.t0 R.t1).len;have ka:iM .i64 x.a:=⟨by omega,by omega⟩;have kw:iM .u8 x.w:=⟨by omega,by omega⟩;have ko:iM .i64 x.o:=⟨by omega,by omega⟩;have kt:iM .i64 x.tr:=⟨by omega,by omega⟩;have z:iM .i64 0:=⟨by omega,by omega⟩;have z8: ∀v:Int,v=0\/v=24\/v=25->iM .u8 v:=fun v h=> ⟨by omega,by omega⟩;unfold jI;split
 ·split
  ·exact Yv ka R.hl kw ko R.hg (by
    show iM .i64 (if 4611686018427387904<x.tr+1 then 4611686018427387904 else x.tr+1)
    split<;>exact⟨by omega,by omega⟩)
  ·exact Yv ka R.hl kw ko R.hg kt
 ·split
  ·rename_i w0;have F:=C.inf R (hx w0);have ok:=F.ok;have h1:=hx w0;unfold Nc at h1;unfold OkI at ok;have k1:iM .i64 (x.a+1):=⟨by omega,by omega⟩;refine Yv ?_ ?_ ?_ ?_ ?_ z
   ·show iM .i64 (if _ then _ else _);split
    ·exact F.to
    ·exact k1
   ·show Wd (.sl 0) (if _ then _ else _);split
    ·rename_i hc;refine axO R.hl (by omega) ?_ h4;have:=hc.1;omega
    ·exact R.hl
   ·show iM .u8 (if _ then _ else _);split
    ·split
     ·exact z8 _ (by omega)
     ·exact z8 _ (by omega)
    ·exact z8 _ (by omega)
   ·show iM .i64 (if _ then _ else _);split
    ·exact h3
    ·exact ko
   ·show iM .i64 (if _ then _ else _);split
    ·exact h4
    ·exact R.hg
  ·exact Yv ka R.hl (z8 _ (.inl rfl)) z z z
theorem afV {k:D} (hp:0<k.l.length) (t:Int) (x:KT):fK k t x≠.i 2:=fun he=>by have:=gG k t x;rw [he] at this;have e:(D.i 2).l.length=0:=rfl;omega
theorem Z7 (S:Sx s k n) (C:Cd d0 d1) (R:Rt d0 d1 t x) (ht:t<(k.l.length:Int)) (hx:x.w=0->x.a<(Nc d1 t:Int)) {op obj arg tries e1 e2 e3 e4 e5 oc:Int} {s':D} (A:Tried d0 d1 s t op obj arg tries n s' e1 e2 e3 e4 e5 oc) :
 Sx s' (fK k t (jI (Ins d1 t x) x op e2 e3 e4 oc)) (n+1):=by
 have hp:0<k.l.length:=by have:=R.t0; omega
 exact⟨A.gs,aeD S.wk (amZ C R hx A.e3 A.e4) hp,A.n2 S.n2s,afV hp _ _⟩
theorem aiU (R:Rt d0 d1 t x) (ho:fE d1 t x=0):x.w=0->x.a<(Nc d1 t:Int):=fun w0=>by unfold fE at ho;rw [aJe w0] at ho;have:=R.ok.2.1;unfold Nc at ho ⊢;split at ho<;>omega
end
theorem TP: ∀(l:List D) (k v k':D),pG (CX l k v) k'=if k=k' then some v else pG l k'
 |[],k,v,k'=>by
  simp only [CX,pG];by_cases h:k=k'
  ·rw [aJe h]; exact aJe h
  ·rw [aJd h]; exact aJd h
 |d::l,k,v,k'=>by
  simp only [CX];by_cases h:Zi d=k
  ·rw [aJe h];simp only [pG];by_cases h2:k=k'
   ·rw [aJe h2]; exact aJe h2
   ·rw [aJd h2,aJd (fun h3=>h2 (h.symm.trans h3))]; exact aJd h2
  ·rw [aJd h];simp only [pG,TP l k v k'];by_cases h2:Zi d=k'
   ·rw [aJe h2,aJd (fun h3=>h (h2.trans h3.symm)),aJe h2]
   ·rw [aJd h2,aJd h2]
def xY (m:Int) (l:List D):Prop:=(∀x∈l,0<=x.n/\x.n<m)/\(l.map D.n).Nodup
def La (N o dn:Int) (rl vl:Nat):Prop:=(N<0->(vl:Int)=0)/\(0<=N->(vl:Int)<=N)/\(o<0\/(rl:Int)=0/\dn=0)
def adX (s:D) (l:List D):Prop:= ∀n:Int,(pG s.l (.i n)=none/\n∉l.map D.n)\/(pG s.l (.i n)=some (.i 1)/\n∈l.map D.n)
theorem apI {s x:D} {l:List D} (h:adX s l):adX (dL (CX s.l (.i x.n) (.i 1))) (l++ [x]):=fun n=>by
 rw [aW,TP,aKz];by_cases hn:x.n=n
 ·rw [aJe (by rw [hn])];exact .inr ⟨rfl,aLm _ (by simp [hn])⟩
 ·rw [aJd (fun h=>hn (by simpa using h))];rcases h n with ⟨h1,h2⟩|⟨h1,h2⟩
  ·refine .inl ⟨h1,fun h3=>?_⟩;rcases aJ0.1 h3 with h3|h3
   ·exact h2 h3
   ·simp only [List.map,aJq,aJ4,or_false] at h3;exact hn h3.symm
  ·exact .inr ⟨h1,aLO _ h2⟩
theorem Mc {P Q:Prop} {ys:List Int} (h:P) (hQ:Xw Q ys):Xw (P/\Q) ys:=by
 obtain⟨b,rfl,h1|h1⟩:=hQ
 ·exact⟨b,rfl,.inl ⟨h1.1,fun q=>h1.2 q.2⟩⟩
 ·exact⟨b,rfl,.inr ⟨h1.1,h,h1.2⟩⟩
theorem Au {P Q:Prop} (h: ¬P):Xw (P/\Q) [0]:=xP fun q=>h q.1
theorem X7 (m:Int) (r:D) (hl:r.l.length<=140737488351232) (k nm' N x7 x8 o c dn g:Int) (v:D): ∀(j i:Nat) (seen:D),i+j=r.l.length->adX seen (r.l.take i)->xY m (r.l.take i)->
 Tot 501 [m,enc r,(r.l.length:Int),(i:Int),k,nm',N,x7,x8,o,c,dn,g,enc v,enc seen] (Xw (xY m r.l/\La N o dn r.l.length v.l.length))
 |0,i,seen,hi,_,hR=>by
  have c1: ¬(i:Int)<(r.l.length:Int):=by omega
  rw [aKg (by omega)] at hR;refine Tot.of ?_;unfold La;rw [alN];simp only [XP,zz,c1]
  repeat' first
   |exact .out (Mc hR (xP (by omega)))
   |exact .out (Mc hR (Ub (by omega)))
   |refine .ite (fun _=>?_) (fun _=>?_)
 |j+1,i,seen,hi,hS,hR=>by
  have hil:i<r.l.length:=by omega
  have c1:(i:Int)<(r.l.length:Int):=by omega
  have c2: ¬((i:Int)<0):=by omega
  have w:=aZ (n:=i) (by omega);have ht:r.l.take (i+1)=r.l.take i++ [r.l[i]]:=by rw [List.take_add_one,aJu hil]; rfl
  have hmem:r.l[i]∈r.l:=aJm hil;have ih:=fun h=>X7 m r hl k nm' N x7 x8 o c dn g v j (i+1) (dL (CX seen.l (.i (r.l[i]).n) (.i 1))) (by omega) (by rw [ht]; exact apI hS) h;refine Tot.of ?_;rw [alN];rcases hS (r.l[i]).n with ⟨h1,h2⟩|⟨h1,h2⟩
  ·simp only [XP,zz,c1,c2,w,aX hil,h1,Option.isSome_none,aJw];refine .ite (fun q=> .out (Au fun R=>?_)) (fun q=> .ite (fun q2=>?_) (fun q2=> .out (Au fun R=>?_)))
   ·have:=R.1 _ hmem;omega
   ·refine .jump (ih ?_);rw [ht];refine⟨fun x hx=>?_,?_⟩
    ·rcases aJ0.1 hx with hx|hx
     ·exact hR.1 x hx
     ·simp only [aJq,aJ4,or_false] at hx;subst hx;exact⟨by omega,q2⟩
    ·rw [aKz,aLP];refine⟨hR.2,by simp,fun a ha b hb=>?_⟩;simp only [List.map,aJq,aJ4,or_false] at hb;subst hb;intro he;subst he;exact h2 ha
   ·have:=R.1 _ hmem;omega
  ·simp only [XP,zz,c1,c2,w,aX hil,h1,aC]
   have nd: ¬xY m r.l:=fun R=>by
    have hn:=R.2;have e:r.l=r.l.take i++r.l[i]::r.l.drop (i+1):=by rw [<- aJN hil,aKp]
    rw [e,aKz,aLP] at hn;exact hn.2.2 _ h2 _ (by rw [aJz]; exact List.mem_cons_self) rfl
   refine .ite (fun q=> .out (Au nd)) (fun q=> .ite (fun q2=> .out (Au nd)) (fun q2=> .out (Au nd)))
theorem ajS (m:Int) (r:D) (hl:r.l.length<=140737488351232) (k nm' N x7 x8 o c dn g:Int) (v:D) :
 Tot 501 [m,enc r,(r.l.length:Int),0,k,nm',N,x7,x8,o,c,dn,g,enc v,enc (.i 0)] (Xw (xY m r.l/\La N o dn r.l.length v.l.length)):=
 X7 m r hl k nm' N x7 x8 o c dn g v r.l.length 0 (.i 0) (by omega) (fun n=> .inl ⟨rfl,by simp⟩) ⟨by simp,by simp⟩
def wW (k N c:Int):Prop:=k=9\/(k=3/\0<=c/\c<=N)\/(k=5/\0<=c/\c<=IntKind.i64.wrap (N-1))\/(k=7/\0<=c/\c<=1099511627776)\/(k≠3/\k≠5/\k≠7/\k≠9/\c=0)
theorem aAa (k x1 N x3 x4 c:Int): ∃a b:Int,L 650 [k,x1,N,x3,x4]=some [a,b]/\(b=0/\wW k N c\/b=1/\(wW k N c↔0<=c/\c<=a)):=by
 have:Tot 650 [k,x1,N,x3,x4] (fun ys=> ∃a b:Int,ys= [a,b]/\(b=0/\wW k N c\/b=1/\(wW k N c↔0<=c/\c<=a))):=by
  unfold wW;refine Tot.of ?_;rw [aA3];simp only [anL,zz]
  repeat' first
   |exact .out ⟨_,_,rfl,by omega⟩
   |refine .ite (fun _=>?_) (fun _=>?_)
 obtain⟨ys,h,a,b,rfl,h2⟩:=this;exact⟨a,b,h,h2⟩
def U6 (k N m o c dn g:Int) (rl vl:Nat):Prop:=
 wW k N c/\-1<=o/\o<m/\0<=g/\g<=4611686018427387904/\(0<=o->k=1\/k=2\/k=6)/\(0<(rl:Int)->k=4\/k=2)/\(0<(vl:Int)->k=8)/\(dn≠0->k=6)/\(0<g->k=5)
def adW (k N m o c dn g:Int) (r v:D):Prop:=U6 k N m o c dn g r.l.length v.l.length/\xY m r.l/\La N o dn r.l.length v.l.length
set_option maxHeartbeats 4000000 in
theorem apC (k x1 N x3 x4 m o c dn g:Int) (r v:D) (hl:r.l.length<=140737488351232):Tot 500 [k,x1,N,x3,x4,o,c,dn,g,enc r,enc v,m] (Xw (adW k N m o c dn g r v)):=by
 unfold adW U6;obtain⟨a,b,hM,hb⟩:=aAa k x1 N x3 x4 c;have ih:=ajS m r hl k x1 N x3 x4 o c dn g v;refine Tot.of ?_;rw [aA4];generalize wW k N c=H at *;by_cases b0:b=0
 ·subst b0
  have hH:H:=by
   rcases hb with h|h
   ·exact h.2
   ·omega
  simp only [ajF,zz,hM]
  repeat' first
   |exact .out (Au (by omega))
   |exact .jump (let ⟨ys,hL,hB⟩:=ih; ⟨ys,hL,Mc ⟨hH,by omega,by omega,by omega,by omega,by omega,by omega,by omega,by omega,by omega⟩ hB⟩)
   |refine .ite (fun _=>?_) (fun _=>?_)
 ·have hH:H↔0<=c/\c<=a:=by
   rcases hb with h|h
   ·omega
   ·exact h.2
  simp only [ajF,zz,hM,aJd b0]
  repeat' first
   |exact .out (Au fun h=>by first |omega|(have:=hH.1 h.1; omega))
   |exact .jump (let ⟨ys,hL,hB⟩:=ih; ⟨ys,hL,Mc ⟨hH.2 ⟨by omega,by omega⟩,by omega,by omega,by omega,by omega,by omega,by omega,by omega,by omega,by omega⟩ hB⟩)
   |refine .ite (fun _=>?_) (fun _=>?_)
theorem aAj {P:Prop} {j:Nat} {xs:List Int} (h:Tot j xs (Xw P)):L j xs=some [1]↔P:=by
 obtain⟨ys,hL,b,rfl,hb⟩:=h;rw [hL];simp only [aJf,List.cons.injEq,and_true];rcases hb with ⟨h1,h2⟩|⟨h1,h2⟩
 ·exact⟨fun h=>by omega,fun h=>absurd h h2⟩
 ·exact⟨fun _=>h2,fun _=>h1⟩
theorem apD {d x:D} {m:Nat} {o c dn g:Int} {r v:D} (T:Tg x o c dn g r v) (hl:r.l.length<=140737488351232):Snd d x m↔adW (d.hd 0).n (d.hd 2).n (m:Int) o c dn g r v:=by
 have h:=aAj (apC (d.hd 0).n (enc (d.hd 1)) (d.hd 2).n (enc (d.hd 3)) (d.hd 4).n (m:Int) o c dn g r v hl)
 have e:(if dn=0 then (0:Int) else 1)=dn:=by rcases T.hd with rfl|rfl<;>rfl
 unfold Snd ayU;rw [T.is];simp only [zg,aJl,n_i,e];exact h
theorem VA {m:Int} {l l':List D} (h:xY m l) (hs:l'.Sublist l):xY m l':=⟨fun x hx=>h.1 x (hs.subset hx),h.2.sublist (hs.map _)⟩
theorem azE (m:Int):xY m []:=⟨by simp,by simp⟩
theorem X6 {m t:Int} {l:List D} (h:xY m l) (hn: ∀x∈l,x.n≠t) (t0:0<=t) (t1:t<m):xY m (l++ [.i t]):=by
 refine⟨fun x hx=>?_,?_⟩
 ·rcases aJ0.1 hx with hx|hx
  ·exact h.1 x hx
  ·simp only [aJq,aJ4,or_false] at hx;subst hx;exact⟨t0,t1⟩
 ·rw [aKz,aLP];refine⟨h.2,by simp,fun a ha b hb=>?_⟩;simp only [List.map,aJq,aJ4,or_false,n_i] at hb;subst hb;obtain⟨x,hx,rfl⟩:=aJE.1 ha;exact hn x hx
theorem aDH {m t:Int} {l:List D} (h:xY m l) (t0:0<=t) (t1:t<m):xY m (wo t l++ [.i t]):=
 X6 (VA h List.filter_sublist) (fun x hx=>by simpa using (aKh.1 hx).2) t0 t1
theorem azF {m:Int} {l:List D} (h:xY m l) (k:Nat):xY m (l.take k++l.drop (k+1)):=by rw [<- List.eraseIdx_eq_take_drop_succ];exact VA h (List.eraseIdx_sublist _ _)
theorem Oj {r:D} {t:Int} (h:place r t<0): ∀x∈r.l,x.n≠t:=by
 rcases tZ r t with ⟨_,h2⟩|⟨k,_,h1,_⟩
 ·exact h2
 ·omega
def amC (k N m:Int):Act->Prop
 | .res o c dn g r v _ _ _=>adW k N m o c dn g r v
 |_=>True
theorem amC.ite {k N m:Int} {p:Prop} [Decidable p] {a b:Act} (ha:p->amC k N m a) (hb: ¬p->amC k N m b):amC k N m (if p then a else b):=by
 by_cases h:p
 ·rw [aJe h]; exact ha h
 ·rw [aJd h]; exact hb h
theorem OJ {op k:Int} (h0:0<=op) (hk:kindOf op=k) (h1:1<=k) :
 (op=1\/op=2\/op=3\/op=4)/\k=1\/(op=5\/op=6\/op=7\/op=8)/\k=2\/(op=9\/op=10\/op=11)/\k=3\/(op=12\/op=13\/op=14\/op=24)/\k=4\/(op=15\/op=25)/\k=5\/(op=16\/op=26)/\k=6\/(op=17\/op=18\/op=19)/\k=7\/(op=20\/op=21)/\k=8\/(op=22\/op=23)/\k=9:=by
 unfold kindOf at hk;by_cases h27:op<27
 ·have:op=0\/op=1\/op=2\/op=3\/op=4\/op=5\/op=6\/op=7\/op=8\/op=9\/op=10\/op=11\/op=12\/op=13\/op=14\/op=15\/op=16\/op=17\/op=18\/op=19\/op=20\/op=21\/op=22\/op=23\/op=24\/op=25\/op=26:=by omega
  rcases this with rfl|rfl|rfl|rfl|rfl|rfl|rfl|rfl|rfl|rfl|rfl|rfl|rfl|rfl|rfl|rfl|rfl|rfl|rfl|rfl|rfl|rfl|rfl|rfl|rfl|rfl|rfl
  all_goals simp at hk
  all_goals subst hk
  all_goals first |omega|simp
 ·rw [aJd h27] at hk;omega
section
variable {d0 x:D} {k N m mo th op arg tries o c dn g:Int} {r v:D}
set_option maxHeartbeats 8000000 in
theorem aBw (T:Tg x o c dn g r v) (S:adW k N m o c dn g r v) (hop:0<=op) (hk:kindOf op=k) (hO:OkO d0 k N) (t0:0<=th) (t1:th<m) (hm:m<=16):amC k N m (act N mo th op arg tries o c dn g r v):=by
 obtain⟨P,R,E⟩:=S;have hc1:=T.hc.1;have hc2:=T.hc.2;have hg1:=T.hg.1;have hd:=T.hd;have pr:=jF r th;have pn:=fun h=>Oj (r:=r) (t:=th) h;have rs:=fun h=>X6 R (Oj (r:=r) (t:=th) h) t0 t1;have rw':=aDH R t0 t1
 have rd:=azF R (place r th).toNat
 have r1:=VA R (List.drop_sublist 1 r.l);obtain⟨k1,k2,_,kn,k5,_⟩:=hO;unfold U6 wW at P;unfold La at E;have hcs:=OJ hop hk k1;rcases hcs with ⟨h|h|h|h,hk'⟩|⟨h|h|h|h,hk'⟩|⟨h|h|h,hk'⟩|⟨h|h|h|h,hk'⟩|⟨h|h,hk'⟩|⟨h|h,hk'⟩|⟨h|h|h,hk'⟩|⟨h|h,hk'⟩|⟨h|h,hk'⟩
 all_goals
  subst h;subst hk';simp only [act,Int.reduceEq,if_true,if_false,reduceIte]
  repeat' first
   |exact trivial
   |refine amC.ite (fun _=>?_) (fun _=>?_)
 all_goals
  refine⟨?_,?_,?_⟩
  ·clear rs rw' rd r1 pn;unfold U6 wW
   try simp only [aW,jC,wX,aJy,aJr,aJt,aJQ,IntKind.wrap_i64,true_or,or_true,true_and,and_true,implies_true,true_implies] at *
   omega
  ·try simp only [aW,jC,wX]
   first
    |exact R
    |exact rs (by omega)
    |exact rw'
    |exact rd
    |exact r1
    |exact azE _
  ·unfold La
   try simp only [aW,jC,wX,aJy,aJr,aJt,aJQ,aJB,IntKind.wrap_i64,true_or,or_true,true_and,and_true,implies_true,true_implies] at *
   omega
end
structure aIU (d0 d1 s k:D) (t:Int) (n:Nat) (s' k':D) (e1 e2 e3 e4 e5 oc:Int):Prop where
 eq:L 1850 [enc d0,enc d1,enc s,enc k,t]=some [enc s',enc k',e1,e2,e3,e4,e5,oc]
 sx:Sx s' k' (n+1)
 ls:s'.l.length=s.l.length
 lk:k'.l.length=k.l.length
section
variable {d0 d1 s k:D} {n:Nat} (S:Sx s k n) (hn:n<17592186043904) (h0:Wd (.sl 3) d0) (h1:Wd (.sl 4) d1)
include S hn h0 h1
theorem aqY {t:Int} {x:KT} (R:Rs d0 d1 s k t x) (ho:fE d1 t x=0) (ha:low (eX d1 t x) 4=0):Sx s (fK k t (gW (Ins d1 t x) x)) n:=by
 have hp:0<k.l.length:=by have:=R.r.t0; have:=R.ht; omega
 exact⟨S.g,aeD S.wk ((Hf R.c R.ht R.r (FQ R.r ho ha)).1.kt R.c) hp,S.n2s,afV hp _ _⟩
theorem apA (t:Int): ∃s' k' e1 e2 e3 e4 e5 oc,aIU d0 d1 s k t n s' k' e1 e2 e3 e4 e5 oc:=by
 rcases apO (t:=t) S hn h0 h1 with h|⟨x,R⟩
 ·exact⟨s,k,0,0,0,0,0,0,afU S h,S.mono (aJ2 n),rfl,rfl⟩
 ·rcases LW d1 t x with ho|ho
  ·by_cases ha:low (eX d1 t x) 4=0
   ·exact⟨_,_,0,0,0,0,0,1,Fq S R ho ha,(aqY S hn h0 h1 R ho ha).mono (aJ2 n),rfl,gG _ _ _⟩
   ·obtain⟨op,obj,arg,tr,hq⟩:=TG (by omega) ha;obtain⟨k1,k2,k3⟩:=VQ R.c R.r R.c.ok.1 hq
    have hti:iM .i64 t:=by have:=R.r.t0;have:=R.r.t1;have:=h1.len;exact⟨by omega,by omega⟩
    obtain⟨s',e1,e2,e3,e4,e5,oc,A⟩:=try_any (tries:=tr) h0 h1 S.g hn hti k1 k2 k3;exact⟨s',_,e1,e2,e3,e4,e5,oc,wF S R ho hq A,Z7 S R.c R.r R.ht (aiU R.r ho) A,A.len,gG _ _ _⟩
  ·exact⟨s,k,0,0,0,0,0,4,Ja S R ho,S.mono (aJ2 n),rfl,rfl⟩
end
def Ye (x n:Int):Int:=if x.tmod n<0 then x.tmod n+n else x.tmod n
theorem XM {x n:Int} (h:0<n): -n<x.tmod n/\x.tmod n<n:=by have h1:=aKP x h;have h2:=aKP (-x) h;rw [Int.neg_tmod] at h2;omega
theorem akA {x n:Int} (h:0<n):0<=Ye x n/\Ye x n<n:=by have:=XM (x:=x) h;unfold Ye;split<;>omega
theorem ajZ {x n:Int} (h:0<n) (hb:n<=140737488351232):(IntKind.i64.wrap (x.tmod n+n)).tmod n=Ye x n:=by
 have h1:=XM (x:=x) h;rw [mY (by omega) (by omega)];unfold Ye;split
 ·exact Int.tmod_eq_of_lt (by omega) (by omega)
 ·rw [Int.tmod_eq_emod_of_nonneg (by omega),Int.add_emod_right];exact Int.emod_eq_of_lt (by omega) (by omega)
inductive Zx (d0 d1 s:D) (t op obj arg tries:Int):D->Int->Int->Int->Int->Int->Int->Prop
 |no:Zx d0 d1 s t op obj arg tries s 0 0 0 0 0 0
 |mis (A:Acc d0 d1 s t op obj):Zx d0 d1 s t op obj arg tries s t 27 obj (IntKind.i64.wrap op) 0 2
 |res (A:Acc d0 d1 s t op obj) (o c dn g:Int) (r v:D) (o' c' IX g':Int) (r' v':D) (m:Option Int) (a oc:Int) (T:Tg (s.at obj) o c dn g r v)
  (h:act (Mx d0 obj) (Mo d0 s obj) t op arg tries o c dn g r v= .res o' c' IX g' r' v' m a oc):Zx d0 d1 s t op obj arg tries (CQ s obj (Mx d0 obj) (.res o' c' IX g' r' v' m a oc)) t op obj a 0 oc
section
variable {d0 d1 s s':D} {t op obj arg tries e1 e2 e3 e4 e5 oc:Int} {n:Nat}
theorem Z4 (h0:Wd (.sl 3) d0) (h1:Wd (.sl 4) d1) (G:Gs s n) (hn:n<17592186043904) (hop:iM .u8 op) (A:Tried d0 d1 s t op obj arg tries n s' e1 e2 e3 e4 e5 oc):Zx d0 d1 s t op obj arg tries s' e1 e2 e3 e4 e5 oc:=by
 have hf:=G.few (by omega:n<17592186044415);have hA:=A.eq;by_cases h:Acc d0 d1 s t op obj
 ·obtain⟨_,o,c,dn,g,r,v,T,hL⟩:=xG (arg:=arg) (tries:=tries) h0 h1 G.wd hf hop h;rw [D6] at hL;rw [hA] at hL
  cases hB:act (Mx d0 obj) (Mo d0 s obj) t op arg tries o c dn g r v with
  |blk=> rw [hB] at hL;simp only [evA,aJf,List.cons.injEq,and_true] at hL;obtain⟨q,rfl,rfl,rfl,rfl,rfl,rfl⟩:=hL;have q:=jB q;subst q;exact .no
  |mis=> rw [hB] at hL;simp only [evA,aJf,List.cons.injEq,and_true] at hL;obtain⟨q,rfl,rfl,rfl,rfl,rfl,rfl⟩:=hL;have q:=jB q;subst q;exact .mis h
  |res o' c' IX g' r' v' m a oc'=> rw [hB] at hL;simp only [evA,aJf,List.cons.injEq,and_true] at hL;obtain⟨q,rfl,rfl,rfl,rfl,rfl,rfl⟩:=hL;have q:=jB q;subst q;exact .res h o c dn g r v o' c' IX g' r' v' m _ _ T hB
 ·have hL:=I8 (arg:=arg) (tries:=tries) h0 h1 G.wd hf hop h;rw [hA] at hL;simp only [aJf,List.cons.injEq,and_true] at hL;obtain⟨q,rfl,rfl,rfl,rfl,rfl,rfl⟩:=hL;have q:=jB q;subst q;exact .no
end
section
variable {d0 d1 s:D} {n:Nat} (h0:Wd (.sl 3) d0) (h1:Wd (.sl 4) d1) (G:Gs s n) (hn:n<17592186044000)
include h0 h1 G hn
theorem DX (R:L 350 [enc d0,enc d1,enc s]=some [1]):L 450 [enc d0,enc d1]=some [0]/\yA d0 d1/\s.l.length=d0.l.length:=by obtain⟨b,hb,_,hi⟩:=nY h0 h1 (G.few (by omega)).rows;rw [R] at hb;simp only [aJf,List.cons.injEq,and_true] at hb;obtain⟨hC,hle,_⟩:=hi.1 hb.symm;exact⟨hC,N7 h0 h1 (G.few (by omega)) R⟩
theorem Vy (R:L 350 [enc d0,enc d1,enc s]=some [1]) {i:Int} (i0:0<=i) (i1:i<(s.l.length:Int)) {o c dn g:Int} {r v:D} (T:Tg (s.at i) o c dn g r v):adW ((d0.at i).hd 0).n ((d0.at i).hd 2).n (d1.l.length:Int) o c dn g r v:=by
 obtain⟨b,hb,_,hi⟩:=nY h0 h1 (G.few (by omega)).rows;rw [R] at hb;simp only [aJf,List.cons.injEq,and_true] at hb;obtain⟨_,hle,hs⟩:=hi.1 hb.symm;obtain⟨k,rfl⟩ : ∃k:Nat,i=(k:Int):=⟨i.toNat,by omega⟩;have hk:k<s.l.length:=by omega
 have h:=hs k hk;rw [aX hk] at T;have hrow:=G.rows _ (aJm hk);rw [T.is] at hrow;have hl:r.l.length<=140737488351232:=by have:=hrow.1; have:r.l.length<=n:=this; omega
 rw [apD T hl] at h;rw [aX (by omega:k<d0.l.length)];exact h
theorem aGd (hC:L 450 [enc d0,enc d1]=some [0]) (hle:s.l.length=d0.l.length) (h: ∀i:Nat,i<s.l.length->∃o c dn g r v,Tg (s.at (i:Int)) o c dn g r v/\adW ((d0.at (i:Int)).hd 0).n ((d0.at (i:Int)).hd 2).n (d1.l.length:Int) o c dn g r v):L 350 [enc d0,enc d1,enc s]=some [1]:=by
 obtain⟨b,hb,_,hi⟩:=nY h0 h1 (G.few (by omega)).rows;rw [hb,hi.2 ⟨hC,hle,fun k hk=>?_⟩];obtain⟨o,c,dn,g,r,v,T,P⟩:=h k hk;rw [aX hk] at T;rw [aX (by omega:k<d0.l.length)] at P;have hrow:=G.rows _ (aJm hk);rw [T.is] at hrow;have hl:r.l.length<=140737488351232:=by have:=hrow.1; have:r.l.length<=n:=this; omega
 exact (apD T hl).2 P
end
theorem ahH {s:D} {n:Nat} (G:Gs s n) {i:Int} (i0:0<=i) (i1:i<(s.l.length:Int)): ∃o c dn g r v,Tg (s.at i) o c dn g r v/\r.l.length<=n/\v.l.length<=n:=by
 obtain⟨k,rfl⟩ : ∃k:Nat,i=(k:Int):=⟨i.toNat,by omega⟩;have hk:k<s.l.length:=by omega
 obtain⟨o,c,dn,g,r,v,T⟩:=Nb (G.wd.thing _ (aJm hk));have hrow:=G.rows _ (aJm hk);rw [T.is] at hrow;exact⟨o,c,dn,g,r,v,by rw [aX hk]; exact T,hrow.1,hrow.2⟩
def amD (th:Int):Act->Prop
 | .res _ _ _ _ _ _ m _ _=> ∀q,m=some q->q= -1\/q=th
 |_=>True
theorem amD.ite {th:Int} {p:Prop} [Decidable p] {a b:Act} (ha:amD th a) (hb:amD th b):amD th (if p then a else b):=by
 split
 ·exact ha
 ·exact hb
theorem aHV {M mo th op arg tries o c dn g:Int} {r v:D}:amD th (act M mo th op arg tries o c dn g r v):=by
 have e1: ∀q:Int,(none:Option Int)=some q->q= -1\/q=th:=fun q h=>by simp at h
 have e2: ∀q:Int,some (-1:Int)=some q->q= -1\/q=th:=fun q h=>by simp only [aJf] at h; exact .inl h.symm
 have e3: ∀q:Int,some th=some q->q= -1\/q=th:=fun q h=>by simp only [aJf] at h; exact .inr h.symm
 unfold act
 repeat' refine amD.ite ?_ ?_
 all_goals first
  |trivial
  |exact e1
  |exact e2
  |exact e3
theorem Xn {s:D} {i:Nat} {x:D} (h:s.l[i]?=some x):s.at (i:Int)=x:=by rw [lN,h]; rfl
section
variable {d0 d1 s:D} {t op obj arg tries:Int} {n:Nat} (h0:Wd (.sl 3) d0) (h1:Wd (.sl 4) d1) (G:Gs s n) (hn:n<17592186043904) (hop:iM .u8 op) (ht:iM .i64 t) (ha:iM .i64 arg)
include h0 h1 G hn hop ht ha
theorem ajT (A:Acc d0 d1 s t op obj) {o c dn g:Int} {r v:D} (T:Tg (s.at obj) o c dn g r v) {o' c' IX g':Int} {r' v':D} {m:Option Int} {a oc:Int}
 (h:act (Mx d0 obj) (Mo d0 s obj) t op arg tries o c dn g r v= .res o' c' IX g' r' v' m a oc):L 350 [enc d0,enc d1,enc (CQ s obj (Mx d0 obj) (.res o' c' IX g' r' v' m a oc))]=some [1]:=by
 obtain⟨hC,ok,hle⟩:=DX h0 h1 G (by omega) A.r;have a0:=A.o0;have a1:=A.o1;obtain⟨i,rfl⟩ : ∃i:Nat,obj=(i:Int):=⟨obj.toNat,by omega⟩;have hi:i<s.l.length:=by omega
 have hO:=ok.2.2 _ (VU (d:=d0) a0 (by omega))
 have hrv:r.l.length<=n/\v.l.length<=n:=by
  have hrow:=G.rows _ (aJm hi);have e:s.l[i]=dL [.i o,.i c,.i dn,.i g,r,v]:=by rw [<- aX hi]; exact T.is
  rw [e] at hrow;exact hrow
 have hS:=Vy h0 h1 G (by omega) A.r a0 a1 T;have hS':=aBw (d0:=d0) (mo:=Mo d0 s (i:Int)) (tries:=tries) (arg:=arg) (th:=t) T hS hop.1 A.k hO A.t0 A.t1 (by have:=ok.2.1; omega);have hK:=axE (M:=Mx d0 (i:Int)) (mo:=Mo d0 s (i:Int)) (op:=op) (tries:=tries) T (n:=n) hrv.1 hrv.2 (by omega) ht ha;have hQ:=aHV (M:=Mx d0 (i:Int)) (mo:=Mo d0 s (i:Int)) (th:=t) (op:=op) (arg:=arg) (tries:=tries) (o:=o) (c:=c) (dn:=dn) (g:=g) (r:=r) (v:=v)
 have hN:m=none\/op=12\/op=24:=by
  by_cases h2:op=12\/op=24
  ·exact .inr h2
  ·have:=UU (M:=Mx d0 (i:Int)) (mo:=Mo d0 s (i:Int)) (th:=t) (op:=op) (arg:=arg) (tries:=tries) (o:=o) (c:=c) (dn:=dn) (g:=g) (r:=r) (v:=v) (by omega) (by omega);rw [h] at this;exact .inl this
 rw [h] at hS' hK hQ
 have hM:NoM (.res o' c' IX g' r' v' m a oc)\/0<=Mx d0 (i:Int)/\Mx d0 (i:Int)<(s.l.length:Int)/\Mx d0 (i:Int)≠(i:Int):=by
  rcases hN with h2|h2
  ·exact .inl h2
  ·exact .inr (QN h0 h1 G.wd (G.few (by omega)) hop A h2)
 have G':=agB G hK a0 a1 (hM.imp id fun h=> ⟨h.1,h.2.1⟩);have hl:=Oh s (i:Int) (Mx d0 (i:Int)) (.res o' c' IX g' r' v' m a oc)
 have hd:(if IX=0 then (0:Int) else 1)=IX:=by rcases hK.2.2.1 with rfl|rfl<;>rfl
 refine aGd h0 h1 G' (by omega) hC (by rw [hl]; exact hle) fun j hj=>?_;rw [hl] at hj;by_cases hji:j=i
 ·subst hji
  have e:(CQ s (j:Int) (Mx d0 (j:Int)) (.res o' c' IX g' r' v' m a oc)).at (j:Int)=dL [.i o',.i c',.i IX,.i g',r',v']:=by refine Xn ?_;unfold CQ;rw [aW,hd];exact zG (by cases m with |none=>exact hj|some q=>rw [dQ]; exact hj)
  exact⟨o',c',IX,g',r',v',⟨e,hK.1,hK.2.1,hK.2.2.1,hK.2.2.2.1,hK.2.2.2.2.1,hK.2.2.2.2.2.2.1⟩,hS'⟩
 ·by_cases hjm:NoM (.res o' c' IX g' r' v' m a oc)\/(j:Int)≠Mx d0 (i:Int)
  ·have e:(CQ s (i:Int) (Mx d0 (i:Int)) (.res o' c' IX g' r' v' m a oc)).at (j:Int)=s.at (j:Int):=by
    rw [lN,lN,apY (by omega) hjm]
   obtain⟨o2,c2,dn2,g2,r2,v2,T2,_,_⟩:=ahH G (i:=(j:Int)) (by omega) (by omega);exact⟨o2,c2,dn2,g2,r2,v2,by rw [e]; exact T2,Vy h0 h1 G (by omega) A.r (by omega) (by omega) T2⟩
  ·have hj1:(j:Int)=Mx d0 (i:Int):=Decidable.byContradiction fun hne=>hjm (.inr hne)
   cases m with
   |none=>exact absurd (.inl rfl) hjm
   |some q=>
    obtain⟨o2,c2,dn2,g2,r2,v2,T2,_,_⟩:=ahH G (i:=(j:Int)) (by omega) (by omega);have P2:=Vy h0 h1 G (by omega) A.r (by omega) (by omega) T2
    have hk1:((d0.at (j:Int)).hd 0).n=1:=by
     have h4:((d0.at (i:Int)).hd 0).n=4:=by
      rw [<- A.k];rcases hN with h2|h2|h2
      ·simp at h2
      ·rw [h2]; rfl
      ·rw [h2]; rfl
     obtain⟨_,_,m3⟩:=hO.2.2.2.2.2 h4;rw [hj1];exact m3
    have e:(CQ s (i:Int) (Mx d0 (i:Int)) (.res o' c' IX g' r' v' (some q) a oc)).at (j:Int)=dL [.i q,.i c2,.i dn2,.i g2,r2,v2]:=by refine Xn ?_;unfold CQ;rw [aW,lZ (by omega),<- hj1,zG (by omega),T2.is];rfl
    refine⟨q,c2,dn2,g2,r2,v2,⟨e,hK.2.2.2.2.2.2.2.2.1 q rfl,T2.hc,T2.hd,T2.hg,T2.hr,T2.hv⟩,?_⟩;have t0:=A.t0;have t1:=A.t1;have hq:=hQ q rfl;rw [hk1] at P2 ⊢;obtain⟨p,q2,q3⟩:=P2;unfold U6 wW at p;unfold La at q3;refine⟨?_,q2,?_⟩
    ·unfold U6 wW;omega
    ·unfold La;omega
end
def amB (op:Int):Act->Prop
 | .res _ _ _ _ _ _ _ _ oc=>oc=2\/oc=3/\(op=12\/op=15)
 |_=>True
theorem amB.ite {op:Int} {p:Prop} [Decidable p] {a b:Act} (ha:p->amB op a) (hb: ¬p->amB op b):amB op (if p then a else b):=by
 by_cases h:p
 ·rw [aJe h]; exact ha h
 ·rw [aJd h]; exact hb h
theorem aHU {M mo th op arg tries o c dn g:Int} {r v:D}:amB op (act M mo th op arg tries o c dn g r v):=by
 unfold act
 repeat' first
  |trivial
  |exact .inl rfl
  |exact .inr ⟨rfl,.inl (by assumption)⟩
  |exact .inr ⟨rfl,.inr (by assumption)⟩
  |refine amB.ite (fun _=>?_) (fun _=>?_)
section
variable {d0 d1 s s' k:D} {t op obj arg tries e1 e2 e3 e4 e5 oc:Int} {n:Nat} {x:KT}
theorem amY (C:Cd d0 d1) (R:Rt d0 d1 t x) (hx:x.w=0->x.a<(Nc d1 t:Int)) (hle:s.l.length=d0.l.length) (h3:iM .i64 e3) (h4:iM .i64 e4) (T:Zx d0 d1 s t op obj arg tries s' e1 e2 e3 e4 e5 oc):Rt d0 d1 t (jI (Ins d1 t x) x op e2 e3 e4 oc):=by
 obtain⟨a',lc',w',o',g',tr',hK⟩:=amZ (op:=op) (e2:=e2) (oc:=oc) C R hx h3 h4;have hd:=hK.is;simp only [KT.d,dU,gB,D.p.injEq,D.i.injEq,and_true] at hd;obtain⟨e_a,e_l,e_w,e_o,e_g,e_t⟩:=hd
 have hw3:oc=3->0<=e3/\e3<(d0.l.length:Int)/\(e2=15/\((d0.at e3).hd 0).n=5\/e2≠15/\((d0.at e3).hd 0).n=4):=by
  intro ho
  cases T with
  |no=>omega
  |mis A=>omega
  |res A o c dn g r v o' c' IX g' r' v' m a oc T h=>
   have hW:=aHU (M:=Mx d0 obj) (mo:=Mo d0 s obj) (th:=t) (op:=op) (arg:=arg) (tries:=tries) (o:=o) (c:=c) (dn:=dn) (g:=g) (r:=r) (v:=v);rw [h] at hW;have hk:=A.k;have:=A.o0;have:=A.o1;refine⟨A.o0,by omega,?_⟩;rcases hW with hW|⟨_,hW|hW⟩
   ·omega
   ·subst hW;exact .inr ⟨by omega,by rw [<- hk]; rfl⟩
   ·subst hW;exact .inl ⟨rfl,by rw [<- hk]; rfl⟩
 refine⟨R.t0,R.t1,?_,by rw [e_l]; exact hK.hl,by rw [e_g]; exact hK.hg⟩;obtain⟨a0,a1,hln,tr0,tr1,hw⟩:=R.ok;unfold jI;by_cases o0:oc=0
 ·rw [aJe o0];split
  ·refine⟨a0,a1,hln,?_,?_,hw⟩
   ·show 0<=(if 4611686018427387904<x.tr+1 then (4611686018427387904:Int) else x.tr+1);split<;>omega
   ·show (if 4611686018427387904<x.tr+1 then (4611686018427387904:Int) else x.tr+1)<=4611686018427387904;split<;>omega
  ·exact⟨a0,a1,hln,tr0,tr1,hw⟩
 ·rw [aJd o0];by_cases w0:x.w=0
  ·rw [aJe w0];have c4:=hx w0;have F:=C.inf R c4;have ok:=F.ok;unfold OkI at ok;unfold Nc at c4;have hxo:x.o=0/\x.g=0:=by omega
   refine⟨?_,?_,?_,aKC _,by show (0:Int)<=4611686018427387904; omega,?_⟩
   ·show (0:Int)<=(if ((Ins d1 t x).hd 0).n=1/\((Ins d1 t x).hd 1).n=16/\¬(e2=16/\e4=1) then ((Ins d1 t x).hd 4).n else x.a+1);split
    ·rename_i hc;obtain⟨c1,c2,_⟩:=hc;omega
    ·omega
   ·show (if ((Ins d1 t x).hd 0).n=1/\((Ins d1 t x).hd 1).n=16/\¬(e2=16/\e4=1) then ((Ins d1 t x).hd 4).n else x.a+1)<=(((d1.at t).hd 2).l.length:Int);split
    ·rename_i hc;obtain⟨c1,c2,_⟩:=hc;unfold Nc at ok;omega
    ·omega
   ·show ((if ((Ins d1 t x).hd 0).n=1/\¬((Ins d1 t x).hd 3).n<0 then dL (dY x.lc.l ((Ins d1 t x).hd 3).n (.i e4)) else x.lc).l.length:Int)=_;split
    ·rw [aW,dQ]; exact hln
    ·exact hln
   ·show (if oc=3 then (if e2=15 then (25:Int) else 24) else 0)=0/\(if oc=3 then e3 else x.o)=0/\(if oc=3/\e2=15 then e4 else x.g)=0\/(if oc=3 then (if e2=15 then (25:Int) else 24) else 0)=24/\0<=(if oc=3 then e3 else x.o)/\(if oc=3 then e3 else x.o)<(d0.l.length:Int)/\((d0.at (if oc=3 then e3 else x.o)).hd 0).n=4\/(if oc=3 then (if e2=15 then (25:Int) else 24) else 0)=25/\0<=(if oc=3 then e3 else x.o)/\(if oc=3 then e3 else x.o)<(d0.l.length:Int)/\((d0.at (if oc=3 then e3 else x.o)).hd 0).n=5;by_cases ho:oc=3
    ·obtain⟨q0,q1,q2⟩:=hw3 ho;rcases q2 with ⟨q2,q3⟩|⟨q2,q3⟩
     ·simp only [ho,q2,if_true,true_and,and_self];exact .inr (.inr ⟨q0,q1,q3⟩)
     ·simp only [ho,q2,if_true,if_false,true_and,and_false];exact .inr (.inl ⟨q0,q1,q3⟩)
    ·simp only [ho,if_false,false_and,hxo,true_and,and_self,true_or]
  ·rw [aJd w0];exact⟨a0,a1,hln,aKC _,by show (0:Int)<=4611686018427387904; omega,.inl ⟨rfl,rfl,rfl⟩⟩
end
inductive E8 (d0 d1 s k:D) (t:Int) (n:Nat):D->D->Int->Int->Int->Int->Int->Int->Prop
 |no (h:L 1550 [enc d0,enc d1,enc s,enc k,t]=some [0]):E8 d0 d1 s k t n s k 0 0 0 0 0 0
 |over (x:KT) (R:Rs d0 d1 s k t x) (ho:fE d1 t x=1):E8 d0 d1 s k t n s k 0 0 0 0 0 4
 |loc (x:KT) (R:Rs d0 d1 s k t x) (ho:fE d1 t x=0) (ha:low (eX d1 t x) 4=0):E8 d0 d1 s k t n s (fK k t (gW (Ins d1 t x) x)) 0 0 0 0 0 1
 |tri (x:KT) (R:Rs d0 d1 s k t x) (ho:fE d1 t x=0) (op obj arg tr:Int) (hq:eX d1 t x= [op,obj,arg,tr,1]) (k1:iM .u8 op) (k2:iM .i64 obj) (k3:iM .i64 arg) (hti:iM .i64 t) (s':D) (e1 e2 e3 e4 e5 oc:Int)
  (A:Tried d0 d1 s t op obj arg tr n s' e1 e2 e3 e4 e5 oc) (T:Zx d0 d1 s t op obj arg tr s' e1 e2 e3 e4 e5 oc):E8 d0 d1 s k t n s' (fK k t (jI (Ins d1 t x) x op e2 e3 e4 oc)) e1 e2 e3 e4 e5 oc
section
variable {d0 d1 s k:D} {n:Nat} (S:Sx s k n) (hn:n<17592186043904) (h0:Wd (.sl 3) d0) (h1:Wd (.sl 4) d1)
include S hn h0 h1
theorem Fv (t:Int): ∃s' k' e1 e2 e3 e4 e5 oc,L 1850 [enc d0,enc d1,enc s,enc k,t]=some [enc s',enc k',e1,e2,e3,e4,e5,oc]/\E8 d0 d1 s k t n s' k' e1 e2 e3 e4 e5 oc:=by
 rcases apO (t:=t) S hn h0 h1 with h|⟨x,R⟩
 ·exact⟨s,k,0,0,0,0,0,0,afU S h,.no h⟩
 ·rcases LW d1 t x with ho|ho
  ·by_cases ha:low (eX d1 t x) 4=0
   ·exact⟨_,_,0,0,0,0,0,1,Fq S R ho ha,.loc x R ho ha⟩
   ·obtain⟨op,obj,arg,tr,hq⟩:=TG (by omega) ha;obtain⟨k1,k2,k3⟩:=VQ R.c R.r R.c.ok.1 hq
    have hti:iM .i64 t:=by have:=R.r.t0;have:=R.r.t1;have:=h1.len;exact⟨by omega,by omega⟩
    obtain⟨s',e1,e2,e3,e4,e5,oc,A⟩:=try_any (tries:=tr) h0 h1 S.g hn hti k1 k2 k3;exact⟨s',_,e1,e2,e3,e4,e5,oc,wF S R ho hq A,.tri x R ho op obj arg tr hq k1 k2 k3 hti s' e1 e2 e3 e4 e5 oc A (Z4 h0 h1 S.g hn k1 A)⟩
  ·exact⟨s,k,0,0,0,0,0,4,Ja S R ho,.over x R ho⟩
theorem NQ {t:Int} {s' k':D} {e1 e2 e3 e4 e5 oc:Int} (H:E8 d0 d1 s k t n s' k' e1 e2 e3 e4 e5 oc):Sx s' k' (n+1)/\s'.l.length=s.l.length/\k'.l.length=k.l.length:=by
 cases H with
 |no h=>exact⟨S.mono (aJ2 n),rfl,rfl⟩
 |over x R ho=>exact⟨S.mono (aJ2 n),rfl,rfl⟩
 |loc x R ho ha=>exact⟨(aqY S hn h0 h1 R ho ha).mono (aJ2 n),rfl,gG _ _ _⟩
 |tri x R ho op obj arg tr hq k1 k2 k3 hti s' e1 e2 e3 e4 e5 oc A T=>exact⟨Z7 S R.c R.r R.ht (aiU R.r ho) A,A.len,gG _ _ _⟩
omit h0 h1 in
theorem abL {t:Int} {x:KT} {s':D} (M:MR d0 d1 s k) (R:Rt d0 d1 t x) (ht:t<(k.l.length:Int)) (hs:L 350 [enc d0,enc d1,enc s']=some [1]):MR d0 d1 s' (fK k t x):=by
 obtain⟨_,hle,hO⟩:=M;refine⟨hs,(gG k t x).trans hle,fun i hi=>?_⟩;have hi':i<k.l.length:=by rw [gG] at hi; exact hi
 have t0:=R.t0;obtain⟨j,rfl⟩ : ∃j:Nat,t=(j:Int):=⟨t.toNat,by omega⟩;by_cases hij:i=j
 ·subst hij
  have e:(fK k (i:Int) x).l[i]=x.d:=by rw [<- aX hi];exact iZ (by omega) ht x
  have ok:=R.ok;rw [aX (by omega:i<d1.l.length)] at ok;unfold OkK;rw [e];simp only [KT.d,zg,aJl,n_i];exact ok
 ·have e:(fK k (j:Int) x).l[i]=k.l[i]:=by
   have h:=lZ (l:=k.l) (z:=(j:Int)) (y:=x.d) (k:=i) (by omega)
   have h2:(fK k (j:Int) x).l[i]?=k.l[i]?:=by show (dL (dY k.l (j:Int) x.d)).l[i]?=_;rw [aW];exact h
   rw [aJu hi,aJu hi'] at h2;simpa using h2
  rw [e];exact hO i hi'
theorem XZ {t:Int} {s' k':D} {e1 e2 e3 e4 e5 oc:Int} (M:MR d0 d1 s k) (H:E8 d0 d1 s k t n s' k' e1 e2 e3 e4 e5 oc):MR d0 d1 s' k':=by
 cases H with
 |no h=>exact M
 |over x R ho=>exact M
 |loc x R ho ha=>exact abL S hn M (Hf R.c R.ht R.r (FQ R.r ho ha)).1 R.ht M.1
 |tri x R ho op obj arg tr hq k1 k2 k3 hti s' e1 e2 e3 e4 e5 oc A T=>
  have hle:=(DX h0 h1 S.g (by omega) M.1).2.2;have hR:=amY R.c R.r (aiU R.r ho) hle A.e3 A.e4 T;refine abL S hn M hR R.ht ?_
  cases T with
  |no=>exact M.1
  |mis A'=>exact M.1
  |res A' o c dn g r v o' c' IX g' r' v' m a oc T' h=>exact ajT h0 h1 S.g hn k1 hti k3 A' T' h
end
theorem MR.thr {d0 d1 s k:D} {n:Nat} (S:Sx s k n) (hn:n<17592186043904) (h0:Wd (.sl 3) d0) (h1:Wd (.sl 4) d1) (M:MR d0 d1 s k) {t:Int} (t0:0<=t) (t1:t<(d1.l.length:Int)): ∃x,Rs d0 d1 s k t x:=by
 obtain⟨ys,hL,b,rfl,hb⟩:=X8 (k:=k) h0 h1 (S.g.few (by omega)).rows h1.len t;rcases hb with ⟨_,hb⟩|⟨rfl,_⟩
 ·exact absurd ⟨t0,t1,M⟩ hb
 ·rcases apO (t:=t) S hn h0 h1 with h|h
  ·rw [hL] at h;simp at h
  ·exact h
def EM (s:D) (t:Int) (x:KT):Int:=if x.w=24 then (if place ((s.at x.o).hd 4) t<0 then 0 else 1) else if x.w=25 then (if x.g<((s.at x.o).hd 3).n then 0 else 1) else 0
def alU (d1 s:D) (t:Int) (x:KT):Int:=if fE d1 t x=1 then 0 else if EM s t x=0 then 1 else 0
section
variable {d0 d1 s k:D} {t:Int} {n:Nat} {x:KT} (S:Sx s k n) (hn:n<17592186043904) (R:Rs d0 d1 s k t x) (hle:s.l.length=d0.l.length)
include S hn R hle
theorem UR:L 2850 [enc s,enc k,t]=some [EM s t x]:=by
 have hk:=R.hk;have ht:=R.ht;have c1: ¬t<0:=by have:=R.r.t0; omega
 have hw:=R.r.ok.2.2.2.2.2;rw [aN,aCK];unfold EM
 have q:(x.w=24\/x.w=25)->((s.at x.o).hd 4).l.length<=140737488351232/\¬x.o<0/\x.o<(s.l.length:Int):=fun h=>by
  have o0:0<=x.o/\x.o<(s.l.length:Int):=by omega
  obtain⟨o,c,dn,g,r,v,T,hr,_⟩:=ahH S.g o0.1 o0.2;rw [T.is];exact⟨by simp only [zg,aJl]; omega,by omega,o0.2⟩
 by_cases w4:x.w=24
 ·obtain⟨hl,o0,o1⟩:=q (.inl w4);have hh:=has_is ((s.at x.o).hd 4) t hl;by_cases hp:place ((s.at x.o).hd 4) t<0
  ·rw [aJe hp] at hh;simp only [Np,zz,hk,c1,ht,zg,w4,o0,o1,hh,hp,aG,if_true]
  ·rw [aJd hp] at hh;simp only [Np,zz,hk,c1,ht,zg,w4,o0,o1,hh,hp,aG,if_true,if_false,aC]
 ·by_cases w5:x.w=25
  ·obtain⟨hl,o0,o1⟩:=q (.inr w5);by_cases hp:x.g<((s.at x.o).hd 3).n
   ·simp only [Np,zz,hk,c1,ht,zg,w5,o0,o1,hp,aG,if_true,if_false,Int.reduceEq]
   ·simp only [Np,zz,hk,c1,ht,zg,w5,o0,o1,hp,aG,if_true,if_false,Int.reduceEq]
  ·simp only [Np,zz,hk,c1,ht,zg,w4,w5,aG,if_false]
theorem UE:L 2900 [enc d0,enc d1,enc s,enc k,t]=some [alU d1 s t x]:=by
 have hk:=R.hk;have ht:=R.ht;have c1: ¬t<0:=by have:=R.r.t0; omega
 have c2:=R.r.t1;have hA:=UR S hn R hle;rw [aN,aCJ];unfold alU fE Nc
 have a01:EM s t x=0\/EM s t x=1:=by
  unfold EM
  repeat' split
  all_goals simp
 by_cases w0:x.w=0
 ·by_cases a0:x.a=(((d1.at t).hd 2).l.length:Int)
  ·simp only [Nl,zz,hk,c1,c2,ht,zg,w0,a0,aG,if_true]
  ·rcases a01 with h|h
   ·rw [h] at hA;simp only [Nl,zz,hk,c1,c2,ht,zg,w0,a0,hA,h,aG,if_true,if_false,Int.reduceEq]
   ·rw [h] at hA;simp only [Nl,zz,hk,c1,c2,ht,zg,w0,a0,hA,h,aG,if_true,if_false,Int.reduceEq]
 ·rcases a01 with h|h
  ·rw [h] at hA;simp only [Nl,zz,hk,c1,c2,ht,zg,w0,hA,h,aG,if_true,if_false,Int.reduceEq]
  ·rw [h] at hA;simp only [Nl,zz,hk,c1,c2,ht,zg,w0,hA,h,aG,if_true,if_false,Int.reduceEq]
end
noncomputable def Bz (d0 d1 s k:D) (u:Int):Int:=low ((L 2900 [enc d0,enc d1,enc s,enc k,u]).getD []) 0
def II (cnt:Int->Int) (c:D) (t:Int):Prop:=cnt t≠0/\∀u:Nat,u<c.l.length->((c.at (u:Int)).n<(c.at t).n\/(c.at (u:Int)).n=(c.at t).n/\(u:Int)<t)->cnt (u:Int)=0
section
variable {d0 d1 s k c:D} {t:Int} (hc: ∀u:Int,0<=u->u<(c.l.length:Int)->∃z:Int,L 2900 [enc d0,enc d1,enc s,enc k,u]=some [z]) (t0:0<=t) (t1:t<(c.l.length:Int)) (hb:c.l.length<=140737488351232)
include hc t0 t1 hb
theorem RQ: ∀(j i:Nat),i+j=c.l.length->∃b:Int,L 2951 [t,enc c,(c.l.length:Int),(i:Int),enc d0,enc d1,enc s,enc k]=some [b]/\(b=0\/b=1)/\
 (b=1↔∀u:Nat,i<=u->u<c.l.length->((c.at (u:Int)).n<(c.at t).n\/(c.at (u:Int)).n=(c.at t).n/\(u:Int)<t)->Bz d0 d1 s k (u:Int)=0)
 |0,i,hi=>by
  have c1: ¬(i:Int)<(c.l.length:Int):=by omega
  refine⟨1,?_,.inr rfl,fun _ u h h'=>by omega,fun _=>rfl⟩;rw [aN,KI];simp only [Gv,zz,c1,aG]
 |j+1,i,hi=>by
  have c1:(i:Int)<(c.l.length:Int):=by omega
  have c2: ¬((i:Int)<0):=by omega
  have c3: ¬(t<0):=by omega
  have w:=aZ (n:=i) (by omega);obtain⟨b,ih,hb2,hiff⟩:=RQ j (i+1) (by omega);obtain⟨z,hz⟩:=hc (i:Int) (by omega) c1
  have hzl:Bz d0 d1 s k (i:Int)=z:=by unfold Bz;rw [hz];rfl
  have pass:(((c.at (i:Int)).n<(c.at t).n\/(c.at (i:Int)).n=(c.at t).n/\(i:Int)<t)->z=0)->(b=1↔∀u:Nat,i<=u->u<c.l.length->((c.at (u:Int)).n<(c.at t).n\/(c.at (u:Int)).n=(c.at t).n/\(u:Int)<t)->Bz d0 d1 s k (u:Int)=0):=fun hp=>by
   rw [hiff];refine⟨fun h u hu hl ha=>?_,fun h u hu hl ha=>h u (by omega) hl ha⟩;by_cases hui:u=i
   ·subst hui;rw [hzl];exact hp ha
   ·exact h u (by omega) hl ha
  have stop:((c.at (i:Int)).n<(c.at t).n\/(c.at (i:Int)).n=(c.at t).n/\(i:Int)<t)->z≠0->((0:Int)=1↔∀u:Nat,i<=u->u<c.l.length->((c.at (u:Int)).n<(c.at t).n\/(c.at (u:Int)).n=(c.at t).n/\(u:Int)<t)->Bz d0 d1 s k (u:Int)=0):=fun ha hne=>
   ⟨fun h=>by omega,fun h=>absurd (hzl.symm.trans (h i (aJi _) (by omega) ha)) hne⟩
  by_cases l1:(c.at (i:Int)).n<(c.at t).n
  ·by_cases z0:z=0
   ·refine⟨b,?_,hb2,pass fun _=>z0⟩;rw [aN,KI];simp only [Gv,zz,c1,c2,c3,t1,w,l1,hz,z0,aK,ih]
   ·refine⟨0,?_,.inl rfl,stop (.inl l1) z0⟩;rw [aN,KI];simp only [Gv,zz,c1,c2,c3,t1,w,l1,hz,aJd z0,aG]
  ·by_cases l2:(c.at (i:Int)).n=(c.at t).n
   ·by_cases l3:(i:Int)<t
    ·by_cases z0:z=0
     ·refine⟨b,?_,hb2,pass fun _=>z0⟩;rw [aN,KI];simp only [Gv,zz,c1,c2,c3,t1,w,aJd l1,aJe l2,l3,hz,z0,aK,ih]
     ·refine⟨0,?_,.inl rfl,stop (.inr ⟨l2,l3⟩) z0⟩;rw [aN,KI];simp only [Gv,zz,c1,c2,c3,t1,w,aJd l1,aJe l2,l3,hz,aJd z0,aG]
    ·refine⟨b,?_,hb2,pass fun h=>by omega⟩;rw [aN,KI];simp only [Gv,zz,c1,c2,c3,t1,w,aJd l1,aJe l2,aJd l3,aK,ih]
   ·refine⟨b,?_,hb2,pass fun h=>by omega⟩;rw [aN,KI];simp only [Gv,zz,c1,c2,c3,t1,w,aJd l1,aJd l2,aK,ih]
theorem axS: ∃b:Int,L 2950 [enc d0,enc d1,enc s,enc k,enc c,t]=some [b]/\(b=0\/b=1)/\(b=1↔II (Bz d0 d1 s k) c t):=by
 obtain⟨b,hL,hb2,hiff⟩:=RQ hc t0 t1 hb c.l.length 0 (by omega);obtain⟨z,hz⟩:=hc t t0 t1
 have hzl:Bz d0 d1 s k t=z:=by unfold Bz;rw [hz];rfl
 unfold II;rw [hzl];rw [aJR] at hL;by_cases z0:z=0
 ·refine⟨0,?_,.inl rfl,fun h=>by omega,fun h=>absurd z0 h.1⟩;rw [aN,atW];simp only [afA,zz,hz,z0,aG]
 ·refine⟨b,?_,hb2,hiff.trans ⟨fun h=> ⟨z0,fun u hu ha=>h u (aKl _) hu ha⟩,fun h u _ hu ha=>h.2 u hu ha⟩⟩;rw [aN,atW];simp only [afA,zz,hz,aJd z0,aK,hL]
end
theorem Yn (c:D) (hb:c.l.length<=140737488351232): ∀(j i:Nat),i+j=c.l.length->∃b:Int,L 16051 [enc c,(c.l.length:Int),(i:Int)]=some [b]/\(b<0↔∀u:Nat,i<=u->u<c.l.length->0<=(c.at (u:Int)).n)
 |0,i,hi=>by
  have c1: ¬(i:Int)<(c.l.length:Int):=by omega
  refine⟨-1,?_,fun _ u h h'=>by omega,fun _=>by omega⟩;rw [aN,WY];simp only [Ns,zz,c1,aG]
 |j+1,i,hi=>by
  have c1:(i:Int)<(c.l.length:Int):=by omega
  have c2: ¬((i:Int)<0):=by omega
  have w:=aZ (n:=i) (by omega);obtain⟨b,ih,hiff⟩:=Yn c hb j (i+1) (by omega);by_cases hz:(c.at (i:Int)).n<0
  ·refine⟨(i:Int),?_,fun h=>by omega,fun h=>?_⟩
   ·rw [aN,WY];simp only [Ns,zz,c1,c2,hz,aG]
   ·have:=h i (aJi _) (by omega);omega
  ·refine⟨b,?_,hiff.trans ⟨fun h u hu hl=>?_,fun h u hu hl=>h u (by omega) hl⟩⟩
   ·rw [aN,WY];simp only [Ns,zz,c1,c2,aJd hz,w,aK,ih]
   ·by_cases hui:u=i
    ·subst hui; omega
    ·exact h u (by omega) hl
def KR (d0 d1 s k c:D):Prop:=c.l.length=d1.l.length/\(∀u:Nat,u<c.l.length->0<=(c.at (u:Int)).n)/\MR d0 d1 s k
theorem TU {d0 d1 s k c:D} (h0:Wd (.sl 3) d0) (h1:Wd (.sl 4) d1) (hr:FB s) (hb:c.l.length<=140737488351232):Tot 2750 [enc d0,enc d1,enc s,enc k,enc c] (Xw (KR d0 d1 s k c)):=by
 obtain⟨ys,hM,m,rfl,hm⟩:=Jp h0 h1 hr h1.len (k:=k);obtain⟨b,hL,hiff⟩:=Yn c hb c.l.length 0 (by omega);rw [aJR] at hL
 have h50:L 16050 [enc c]=some [b]:=by rw [aN,auO];simp only [aaB,zz,aK,hL]
 have h00:L 16000 [enc c]=some [if b<0 then 0 else 1]:=by
  rw [aN,auP];by_cases hb0:b<0
  ·simp only [Vj,zz,h50,hb0,aG,if_true]
  ·simp only [Vj,zz,h50,hb0,aG,if_false]
 unfold KR;refine Tot.of ?_;rw [aCL];by_cases hl:(c.l.length:Int)=(d1.l.length:Int)
 ·by_cases hb0:b<0
  ·rw [aJe hb0] at h00;simp only [XQ,zz,hl,h00,hM];have hall:=fun u hu=>hiff.1 hb0 u (aKl _) hu;refine .ite (fun h=> .out (xP fun q=>?_)) (fun h=> .out (Ub ⟨by omega,hall,?_⟩))
   ·rcases hm with ⟨_,hm⟩|⟨h',_⟩
    ·exact hm q.2.2
    ·omega
   ·rcases hm with ⟨h',_⟩|⟨_,hm⟩
    ·exact absurd h' h
    ·exact hm
  ·rw [aJd hb0] at h00;simp only [XQ,zz,hl,h00,aC];exact .out (xP fun q=>hb0 (hiff.2 fun u _ hu=>q.2.1 u hu))
 ·simp only [XQ,zz,aJd hl];exact .out (xP fun q=>hl (by have:=q.1; omega))
def EqN (a b:D):Prop:=a.l.length=b.l.length/\∀(i:Nat),(a.at (i:Int)).n=(b.at (i:Int)).n
structure KEq (x y:D):Prop where
 c0:(x.hd 0).n=(y.hd 0).n
 c1:EqN (x.hd 1) (y.hd 1)
 c2:(x.hd 2).n=(y.hd 2).n
 c3:(x.hd 3).n=(y.hd 3).n
 c4:(x.hd 4).n=(y.hd 4).n
 c5:(x.hd 5).n=(y.hd 5).n
theorem EqN.rfl' (a:D):EqN a a:=⟨rfl,fun _=>rfl⟩
theorem KEq.rfl' (a:D):KEq a a:=⟨rfl,EqN.rfl' _,rfl,rfl,rfl,rfl⟩
def aqW (k:D):Prop:=k.l.length<=140737488351232/\∀i:Nat,((k.at (i:Int)).hd 1).l.length<=140737488351232
section
variable {s k s' k':D} (hl:k.l.length=k'.l.length) (hq: ∀i:Nat,KEq (k.at (i:Int)) (k'.at (i:Int))) (hb:aqW k)
include hl hq hb
theorem GL: ∀(j i:Nat),i+j=k.l.length->L 2051 [(k.l.length:Int),(i:Int),enc s,enc k,enc s',enc k']=some [1]
 |0,i,hi=>by
  have c1: ¬(i:Int)<(k.l.length:Int):=by omega
  rw [aN,auC];simp only [afG,zz,c1,aG]
 |j+1,i,hi=>by
  have c1:(i:Int)<(k.l.length:Int):=by omega
  have c2: ¬((i:Int)<0):=by omega
  have c3:(i:Int)<(k'.l.length:Int):=by omega
  have b1:=hb.1;have w:=aZ (n:=i) (by omega);have ih:=GL j (i+1) (by omega);have q:=hq i;obtain⟨q1,q2⟩:=q.c1;have b2:=hb.2 i
  have lp: ∀(j' i':Nat),i'+j'=((k.at (i:Int)).hd 1).l.length->L 2052 [(k.l.length:Int),(i:Int),(((k.at (i:Int)).hd 1).l.length:Int),(i':Int),enc s,enc k,enc s',enc k',((k.at (i:Int)).hd 0).n,enc ((k.at (i:Int)).hd 1),((k.at (i:Int)).hd 2).n,((k.at (i:Int)).hd 3).n,((k.at (i:Int)).hd 4).n,((k.at (i:Int)).hd 5).n,((k'.at (i:Int)).hd 0).n,enc ((k'.at (i:Int)).hd 1),((k'.at (i:Int)).hd 2).n,((k'.at (i:Int)).hd 3).n,((k'.at (i:Int)).hd 4).n,((k'.at (i:Int)).hd 5).n]=some [1]:=by
   intro j'
   induction j' with
   |zero=>
    intro i' hi';have d1: ¬(i':Int)<(((k.at (i:Int)).hd 1).l.length:Int):=by omega
    rw [aN,auB];simp only [afF,zz,d1,w,aK,ih]
   |succ j' ihj=>
    intro i' hi';have d1:(i':Int)<(((k.at (i:Int)).hd 1).l.length:Int):=by omega
    have d2: ¬((i':Int)<0):=by omega
    have d3:(i':Int)<(((k'.at (i:Int)).hd 1).l.length:Int):=by omega
    have w':=aZ (n:=i') (by omega);have h':=ihj (i'+1) (by omega);have hn:=q2 i';rw [aN,auB];simp only [afF,zz,d1,d2,d3,w',hn,aK];exact h'
  have l0:=lp ((k.at (i:Int)).hd 1).l.length 0 (by omega);have q1':(((k.at (i:Int)).hd 1).l.length:Int)=(((k'.at (i:Int)).hd 1).l.length:Int):=by omega
  simp only [q.c0,q.c2,q.c3,q.c4,q.c5,q1',aJR] at l0;rw [aN,auC];simp only [afG,zz,c1,c2,c3,q.c0,q.c2,q.c3,q.c4,q.c5,q1',aK];exact l0
theorem ajQ (hs:L 200 [enc s,enc s']=some [1]):L 2050 [enc s,enc k,enc s',enc k']=some [1]:=by
 have h:=GL (s:=s) (s':=s') hl hq hb k.l.length 0 (by omega);have hl':(k.l.length:Int)=(k'.l.length:Int):=by omega
 rw [aJR] at h;rw [aN,aCN];simp only [aoI,zz,hs,aC,hl',aK];rw [hl'] at h;exact h
end
theorem ajP {s:D} (hlen:s.l.length<=140737488351232) (hr:Vz s):L 200 [enc s,enc s]=some [1]:=by obtain⟨c,h1,_,h3⟩:=ajO s s hlen hr;rw [h1,h3.2 ⟨rfl,fun k h1 h2 _=> ⟨rfl,rfl,Iff.rfl,rfl,⟨rfl,fun _ _ _ _=>rfl⟩,⟨rfl,fun _ _ _ _=>rfl⟩⟩⟩]
theorem Sx.aIh {s k:D} {n:Nat} (S:Sx s k n):aqW k:=by
 refine⟨S.wk.len,fun i=>?_⟩;by_cases hi:i<k.l.length
 ·obtain⟨a,lc,w,o,g,tr,T⟩:=jO S.wk _ (aJm hi);rw [aX hi,T.is,eP];exact T.hl.len
 ·rw [lN,aJ6 (by omega)];show ((D.i 0).hd 1).l.length<=_;simp [D.hd,D.l]
theorem Sx.same {s k:D} {n:Nat} (S:Sx s k n) (hn:n<17592186043904):L 2050 [enc s,enc k,enc s,enc k]=some [1]:=
 ajQ rfl (fun _=>KEq.rfl' _) S.aIh (ajP S.g.wd.len (fun x hx=>by have:=S.g.rows x hx; omega))
theorem YQ (d:D) (hd:d.l.length<=140737488351232): ∀(j i:Nat),i+j=d.l.length->L 2451 [enc d,enc d,(d.l.length:Int),(i:Int)]=some [1]
 |0,i,hi=>by
  have c1: ¬(i:Int)<(d.l.length:Int):=by omega
  rw [aN,Zd];simp only [RX,zz,c1,aG]
 |j+1,i,hi=>by
  have c1:(i:Int)<(d.l.length:Int):=by omega
  have c2: ¬((i:Int)<0):=by omega
  have w:=aZ (n:=i) (by omega);have ih:=YQ d hd j (i+1) (by omega);rw [aN,Zd];simp only [RX,zz,c1,c2,w,mJ,and_self,aK,ih]
theorem YP (d:D) (hd:d.l.length<=140737488351232):L 2450 [enc d,enc d]=some [1]:=by have h:=YQ d hd d.l.length 0 (by omega);rw [aJR] at h;rw [aN,atY];simp only [afC,zz,aK];exact h
section
variable {k c:D} (hk:Tk k) (hc:Wd (.sl 0) c)
include hk hc
theorem agW (x:Int): ∀(j i:Nat) (acc:List D),i+j=k.l.length->acc.length=i->L 3055 [enc k,(k.l.length:Int),(i:Int),x,enc c,enc (dL acc)]=some [enc (.i 1),enc (dL (acc++k.l.drop i)),enc c]
 |0,i,acc,hi,ha=>by
  have c1: ¬(i:Int)<(k.l.length:Int):=by omega
  rw [aJ7 (by omega),aJ1,aN,atQ];rcases bF hc with rfl|rfl|⟨r1,r2⟩
  ·simp only [JV,zz,c1,len1,len2,nI,iP,aG]
  ·simp only [JV,zz,c1,len1,len2,nI,iP,aG]
  ·simp only [JV,zz,c1,r1,r2,aG]
 |j+1,i,acc,hi,ha=>by
  have hil:i<k.l.length:=by omega
  have hf:=hk.few;have c1:(i:Int)<(k.l.length:Int):=by omega
  have c2: ¬((i:Int)<0):=by omega
  have c4:(acc.length:Int)<2199023255551:=by omega
  have w:=aZ (n:=i) (by omega);obtain⟨a,lc,w',o,g,tr,T⟩:=jO hk.wd _ (aJm hil);have he:=T.is;have ih:=agW x j (i+1) (acc++ [k.l[i]]) (by omega) (by rw [aJy,ha]; rfl);rw [aKa,aJv,aJo,<- aJN hil] at ih;rw [he] at ih;simp only [dU,gB] at ih;rw [aN,atQ];rcases bF T.hl with rfl|rfl|⟨r1,r2⟩
  ·simp only [JV,zz,c1,c2,c4,w,aX hil,he,eP,aW,aJn,aJk,aJl,len1,len2,nI,iP,aK];exact ih
  ·simp only [JV,zz,c1,c2,c4,w,aX hil,he,eP,aW,aJn,aJk,aJl,len1,len2,nI,iP,aK];exact ih
  ·simp only [JV,zz,c1,c2,c4,w,aX hil,he,eP,aW,aJn,aJk,aJl,len1,len2,nI,iP,aK,r1,r2];exact ih
theorem agV (x:Int) (y:Int): ∀(j i:Nat) (acc:List D),i+j=k.l.length->acc.length=i->L 3056 [enc k,(k.l.length:Int),(i:Int),x,enc c,y,enc (dL acc)]=some [y,enc (dL (acc++k.l.drop i)),enc c]
 |0,i,acc,hi,ha=>by
  have c1: ¬(i:Int)<(k.l.length:Int):=by omega
  rw [aJ7 (by omega),aJ1,aN,atP];rcases bF hc with rfl|rfl|⟨r1,r2⟩
  ·simp only [JU,zz,c1,len1,len2,nI,iP,aG]
  ·simp only [JU,zz,c1,len1,len2,nI,iP,aG]
  ·simp only [JU,zz,c1,r1,r2,aG]
 |j+1,i,acc,hi,ha=>by
  have hil:i<k.l.length:=by omega
  have hf:=hk.few;have c1:(i:Int)<(k.l.length:Int):=by omega
  have c2: ¬((i:Int)<0):=by omega
  have c4:(acc.length:Int)<2199023255551:=by omega
  have w:=aZ (n:=i) (by omega);obtain⟨a,lc,w',o,g,tr,T⟩:=jO hk.wd _ (aJm hil);have he:=T.is;have ih:=agV x y j (i+1) (acc++ [k.l[i]]) (by omega) (by rw [aJy,ha]; rfl);rw [aKa,aJv,aJo,<- aJN hil] at ih;rw [he] at ih;simp only [dU,gB] at ih;rw [aN,atP];rcases bF T.hl with rfl|rfl|⟨r1,r2⟩
  ·simp only [JU,zz,c1,c2,c4,w,aX hil,he,eP,aW,aJn,aJk,aJl,len1,len2,nI,iP,aK];exact ih
  ·simp only [JU,zz,c1,c2,c4,w,aX hil,he,eP,aW,aJn,aJk,aJl,len1,len2,nI,iP,aK];exact ih
  ·simp only [JU,zz,c1,c2,c4,w,aX hil,he,eP,aW,aJn,aJk,aJl,len1,len2,nI,iP,aK,r1,r2];exact ih
end
section
variable {k c:D} (hk0:k.l.length=0->k= .i 1) (hk1:0<k.l.length->Tk k) (hc:Wd (.sl 0) c)
include hk0 hk1 hc
theorem aAf (x:Int):L 3053 [enc k,(k.l.length:Int),x,enc c]=some [enc (.i 1),enc k,enc c]:=by
 by_cases hz:k.l.length=0
 ·obtain rfl:k= .i 1:=hk0 hz;rw [aN,atT];rcases bF hc with rfl|rfl|⟨r1,r2⟩
  ·simp only [JX,zz,len1,len2,nI,iP,aG]
  ·simp only [JX,zz,len1,len2,nI,iP,aG]
  ·simp only [JX,zz,len1,nI,r1,r2,aG]
 ·have hp:0<k.l.length:=by omega
  have hk:=hk1 hp;have c1:(0:Int)<(k.l.length:Int):=by omega
  obtain⟨a,lc,w',o,g,tr,T⟩:=jO hk.wd _ (aJm hp);have he:=T.is;have ih:=agW hk hc x (k.l.length-1) 1 [k.l[0]] (by omega) rfl;rw [aJv,aJo,<- aJN hp,aKf,<- hk.sh] at ih;rw [he] at ih;simp only [dU,gB] at ih;have a0:k.at 0=k.l[0]:=aX (i:=0) hp;rw [aN,atT];rcases bF T.hl with rfl|rfl|⟨r1,r2⟩
  ·simp only [JX,zz,c1,a0,he,eP,aW,wX,aJo,aJn,aJk,len1,len2,nI,iP,aK];exact ih
  ·simp only [JX,zz,c1,a0,he,eP,aW,wX,aJo,aJn,aJk,len1,len2,nI,iP,aK];exact ih
  ·simp only [JX,zz,c1,a0,he,eP,aW,wX,aJo,aJn,aJk,r1,r2,aK];exact ih
theorem aAe (x:Int) (y:Int):L 3054 [enc k,(k.l.length:Int),x,enc c,y]=some [y,enc k,enc c]:=by
 by_cases hz:k.l.length=0
 ·obtain rfl:k= .i 1:=hk0 hz;rw [aN,atS];rcases bF hc with rfl|rfl|⟨r1,r2⟩
  ·simp only [JW,zz,len1,len2,nI,iP,aG]
  ·simp only [JW,zz,len1,len2,nI,iP,aG]
  ·simp only [JW,zz,len1,nI,r1,r2,aG]
 ·have hp:0<k.l.length:=by omega
  have hk:=hk1 hp;have c1:(0:Int)<(k.l.length:Int):=by omega
  obtain⟨a,lc,w',o,g,tr,T⟩:=jO hk.wd _ (aJm hp);have he:=T.is;have ih:=agV hk hc x y (k.l.length-1) 1 [k.l[0]] (by omega) rfl;rw [aJv,aJo,<- aJN hp,aKf,<- hk.sh] at ih;rw [he] at ih;simp only [dU,gB] at ih;have a0:k.at 0=k.l[0]:=aX (i:=0) hp;rw [aN,atS];rcases bF T.hl with rfl|rfl|⟨r1,r2⟩
  ·simp only [JW,zz,c1,a0,he,eP,aW,wX,aJo,aJn,aJk,len1,len2,nI,iP,aK];exact ih
  ·simp only [JW,zz,c1,a0,he,eP,aW,wX,aJo,aJn,aJk,len1,len2,nI,iP,aK];exact ih
  ·simp only [JW,zz,c1,a0,he,eP,aW,wX,aJo,aJn,aJk,r1,r2,aK];exact ih
end
section
variable {s k c:D} (hs:Th s)
include hs
theorem arD: ∀(j i:Nat) (acc:List D),i+j=s.l.length->acc.length=i->L 3052 [enc s,(s.l.length:Int),(i:Int),enc k,enc c,enc (dL acc)]=L 3054 [enc k,(k.l.length:Int),enc s,enc c,enc (dL (acc++s.l.drop i))]
 |0,i,acc,hi,ha=>by
  have c1: ¬(i:Int)<(s.l.length:Int):=by omega
  rw [aJ7 (by omega),aJ1,aN,atU];simp only [aeY,zz,c1,aK]
 |j+1,i,acc,hi,ha=>by
  have hil:i<s.l.length:=by omega
  have hf:=hs.few;have c1:(i:Int)<(s.l.length:Int):=by omega
  have c2: ¬((i:Int)<0):=by omega
  have c4:(acc.length:Int)<1759218604440:=by omega
  have w:=aZ (n:=i) (by omega);obtain⟨o,c',dn,g,r,v,he,_,_,hd,_,hr,hv⟩:=hs.wd.thing _ (aJm hil);have ih:=arD j (i+1) (acc++ [s.l[i]]) (by omega) (by rw [aJy,ha]; rfl);rw [aKa,aJv,aJo,<- aJN hil] at ih;rw [he] at ih;simp only [dU,gB] at ih;rw [aN,atU];rcases hd with rfl|rfl<;>rcases bF hr with rfl|rfl|⟨r1,r2⟩ <;>rcases bF hv with rfl|rfl|⟨v1,v2⟩
  all_goals
   simp only [aeY,zz,c1,c2,c4,w,aX hil,he,eP,aW,aJn,aJk,len1,len2,nI,iP]
   try simp only [r1,r2,zz]
   try simp only [v1,v2,zz]
   try simp only [aK,if_true,aC,if_false]
   exact ih
end
section
variable {s k c:D} (hs0:s.l.length=0->s= .i 1) (hs1:0<s.l.length->Th s) (hk0:k.l.length=0->k= .i 1) (hk1:0<k.l.length->Tk k) (hc:Wd (.sl 0) c)
include hs0 hs1 hk0 hk1 hc
theorem abW:L 3050 [enc s,enc k,enc c]=some [enc s,enc k,enc c]:=by
 have h:L 3051 [enc s,(s.l.length:Int),enc k,enc c]=some [enc s,enc k,enc c]:=by
  by_cases hz:s.l.length=0
  ·have c1: ¬(0:Int)<(s.l.length:Int):=by omega
   have h:=aAf hk0 hk1 hc (enc s);rw [aN,atV];simp only [aeZ,zz,c1,aK];rw [h,hs0 hz]
  ·have hp:0<s.l.length:=by omega
   have hs:=hs1 hp;have c1:(0:Int)<(s.l.length:Int):=by omega
   obtain⟨o,c',dn,g,r,v,he,_,_,hd,_,hr,hv⟩:=hs.wd.thing _ (aJm hp);have ih:=arD (k:=k) (c:=c) hs (s.l.length-1) 1 [s.l[0]] (by omega) rfl;rw [aJv,aJo,<- aJN hp,aKf,<- hs.sh,aAe hk0 hk1 hc] at ih;rw [he] at ih;simp only [dU,gB] at ih;have a0:s.at 0=s.l[0]:=aX (i:=0) hp;rw [aN,atV];rcases hd with rfl|rfl<;>rcases bF hr with rfl|rfl|⟨r1,r2⟩ <;>rcases bF hv with rfl|rfl|⟨v1,v2⟩
   all_goals
    simp only [aeZ,zz,c1,a0,he,eP,aW,wX,aJo,aJn,aJk,len1,len2,nI,iP]
    try simp only [r1,r2,zz]
    try simp only [v1,v2,zz]
    try simp only [aK,if_true,aC,if_false]
    exact ih
 rw [aN,aCI];simp only [aoE,zz,aK];exact h
end
theorem Sx.aGu {s k c:D} {n:Nat} (S:Sx s k n) (hc:Wd (.sl 0) c):L 3050 [enc s,enc k,enc c]=some [enc s,enc k,enc c]:=by
 refine abW (fun h=>?_) (fun h=>BZ S.g.wd h) (fun h=>?_) (fun h=>BU S.wk h) hc
 ·rcases S.g.wd.sh with h1|h1|⟨_,h2⟩
  ·exact h1
  ·exact absurd h1 S.n2s
  ·exact absurd (aL1.1 h) h2
 ·rcases S.wk.sh with h1|h1|⟨_,h2⟩
  ·exact h1
  ·exact absurd h1 S.n2k
  ·exact absurd (aL1.1 h) h2
def bump (c:D) (u n:Int):D:=dL (dY c.l u (.i (if (c.at u).n<n then n else (c.at u).n)))
theorem uO (c:D) (u n:Int):(bump c u n).l.length=c.l.length:=by unfold bump; rw [aW,dQ]
def wkB (n:Int):List D->D->D
 |[],c=>c
 |x::l,c=>wkB n l (bump c x.n n)
def wkA (o g n:Int):List D->Nat->D->D
 |[],_,c=>c
 |x::l,i,c=>wkA o g n l (i+1) (if (x.hd 2).n=25/\(x.hd 3).n=o/\(x.hd 4).n=g then bump c (i:Int) n else c)
def Rf (s s' k':D) (e2 e3 e4:Int) (c:D) (n:Int):D:=
 if e2=13 then (if 0<e4 then bump c (IntKind.i64.wrap (e4-1)) n else c)
 else if e2=14 then wkB n ((s.at e3).hd 4).l c
 else if e2=15 then (if e4<((s'.at e3).hd 3).n then wkA e3 e4 n k'.l 0 c else c)
 else c
section
variable {x0 x1 x2 x3 x4 x5 x6 x7 x8 x9 n:Int} {m:Nat}
theorem XF (r:D) (hr: ∀x∈r.l,0<=x.n/\x.n<(m:Int)) (hb:r.l.length<=140737488351232): ∀(j i:Nat) (c:D),i+j=r.l.length->c.l.length=m->
 L 15001 [x0,x1,x2,x3,x4,x5,x6,x7,x8,x9,n,enc r,(r.l.length:Int),(i:Int),enc c]=some [0,x0,x1,x2,x3,x4,x5,x6,x7,x8,x9,n,enc (wkB n (r.l.drop i) c)]
 |0,i,c,hi,hc=>by
  have c1: ¬(i:Int)<(r.l.length:Int):=by omega
  rw [aJ7 (by omega),aN,adI];simp only [Nu,zz,c1,aG,wkB]
 |j+1,i,c,hi,hc=>by
  have hil:i<r.l.length:=by omega
  have c1:(i:Int)<(r.l.length:Int):=by omega
  have c2: ¬((i:Int)<0):=by omega
  have w:=aZ (n:=i) (by omega);obtain⟨r0,r1⟩:=hr _ (aJm hil);have c3: ¬((r.l[i]).n<0):=by omega
  have c4:(r.l[i]).n<(c.l.length:Int):=by omega
  have ih:=XF r hr hb j (i+1) (bump c (r.l[i]).n n) (by omega) (by rw [uO]; exact hc);rw [aJN hil,wkB,aN,adI];unfold bump at ih ⊢;by_cases hz:(c.at (r.l[i]).n).n<n
  ·simp only [aJe hz] at ih ⊢;simp only [Nu,zz,c1,c2,c3,c4,aX hil,hz,w,aK];exact ih
  ·simp only [aJd hz] at ih ⊢;simp only [Nu,zz,c1,c2,c3,c4,aX hil,hz,w,aK];exact ih
theorem BQ (k:D) (hb:k.l.length<=140737488351232) (hk:k.l.length<=m): ∀(j i:Nat) (c:D),i+j=k.l.length->c.l.length=m->
 L 15002 [x0,x1,x2,enc k,x4,x5,x6,x7,x8,x9,n,(k.l.length:Int),(i:Int),enc c]=some [0,x0,x1,x2,enc k,x4,x5,x6,x7,x8,x9,n,enc (wkA x6 x7 n (k.l.drop i) i c)]
 |0,i,c,hi,hc=>by
  have c1: ¬(i:Int)<(k.l.length:Int):=by omega
  rw [aJ7 (by omega),aN,adH];simp only [Cb,zz,c1,aG,wkA]
 |j+1,i,c,hi,hc=>by
  have hil:i<k.l.length:=by omega
  have c1:(i:Int)<(k.l.length:Int):=by omega
  have c2: ¬((i:Int)<0):=by omega
  have c4:(i:Int)<(c.l.length:Int):=by omega
  have w:=aZ (n:=i) (by omega);rw [aJN hil,wkA,aN,adH];by_cases h2:((k.l[i]).hd 2).n=25
  ·by_cases h3:((k.l[i]).hd 3).n=x6
   ·by_cases h4:((k.l[i]).hd 4).n=x7
    ·have ih:=BQ k hb hk j (i+1) (bump c (i:Int) n) (by omega) (by rw [uO]; exact hc);rw [aJe ⟨h2,h3,h4⟩];unfold bump at ih ⊢;by_cases hz:(c.at (i:Int)).n<n
     ·simp only [aJe hz] at ih ⊢;simp only [Cb,zz,c1,c2,c4,aX hil,h2,h3,h4,hz,w,aK];exact ih
     ·simp only [aJd hz] at ih ⊢;simp only [Cb,zz,c1,c2,c4,aX hil,h2,h3,h4,hz,w,aK];exact ih
    ·have ih:=BQ k hb hk j (i+1) c (by omega) hc;rw [aJd (fun h=>h4 h.2.2)];simp only [Cb,zz,c1,c2,aX hil,h2,h3,aJd h4,w,aK];exact ih
   ·have ih:=BQ k hb hk j (i+1) c (by omega) hc;rw [aJd (fun h=>h3 h.2.1)];simp only [Cb,zz,c1,c2,aX hil,h2,aJd h3,w,aK];exact ih
  ·have ih:=BQ k hb hk j (i+1) c (by omega) hc;rw [aJd (fun h=>h2 h.1)];simp only [Cb,zz,c1,c2,aX hil,aJd h2,w,aK];exact ih
end
structure axF (s s' k':D) (e2 e3 e4:Int) (m:Nat):Prop where
 sig:e2=13->0<e4->0<=IntKind.i64.wrap (e4-1)/\IntKind.i64.wrap (e4-1)<(m:Int)
 brd:e2=14->0<=e3/\e3<(s.l.length:Int)/\(∀x∈((s.at e3).hd 4).l,0<=x.n/\x.n<(m:Int))/\((s.at e3).hd 4).l.length<=140737488351232
 arr:e2=15->0<=e3/\e3<(s'.l.length:Int)
 lk:k'.l.length<=m
 few:k'.l.length<=140737488351232
theorem amM {s s' k' c:D} {x1 e1 e2 e3 e4 e5 n:Int} (W:axF s s' k' e2 e3 e4 c.l.length):L 15000 [enc s,x1,enc s',enc k',e1,e2,e3,e4,e5,enc c,n]=some [0,enc s,x1,enc s',enc k',e1,e2,e3,e4,e5,enc c,n,enc (Rf s s' k' e2 e3 e4 c n)]:=by
 rw [aN,auR];unfold Rf;by_cases h3:e2=13
 ·by_cases hp:0<e4
  ·obtain⟨w0,w1⟩:=W.sig h3 hp;have c2: ¬(IntKind.i64.wrap (e4-1)<0):=by omega
   unfold bump;by_cases hz:(c.at (IntKind.i64.wrap (e4-1))).n<n
   ·simp only [Ad,zz,h3,hp,c2,w1,hz,aG,if_true]
   ·simp only [Ad,zz,h3,hp,c2,w1,hz,aG,if_true,if_false]
  ·simp only [Ad,zz,h3,hp,aG,if_true,if_false]
 ·by_cases h4:e2=14
  ·obtain⟨b0,b1,b2,b3⟩:=W.brd h4;have c2: ¬(e3<0):=by omega
   have h:=XF (x0:=enc s) (x1:=x1) (x2:=enc s') (x3:=enc k') (x4:=e1) (x5:=e2) (x6:=e3) (x7:=e4) (x8:=e5) (x9:=enc c) (n:=n) ((s.at e3).hd 4) b2 b3 ((s.at e3).hd 4).l.length 0 c (by omega) rfl;rw [aKf,aJR,h4] at h;simp only [Ad,zz,h4,b1,c2,aK,if_true,if_false,Int.reduceEq];exact h
  ·by_cases h5:e2=15
   ·obtain⟨b0,b1⟩:=W.arr h5;have c2: ¬(e3<0):=by omega
    by_cases hg:e4<((s'.at e3).hd 3).n
    ·have h:=BQ (x0:=enc s) (x1:=x1) (x2:=enc s') (x4:=e1) (x5:=e2) (x6:=e3) (x7:=e4) (x8:=e5) (x9:=enc c) (n:=n) k' W.few W.lk k'.l.length 0 c (by omega) rfl;rw [aKf,aJR,h5] at h;simp only [Ad,zz,h5,b1,c2,hg,aK,if_true,if_false,Int.reduceEq];exact h
    ·simp only [Ad,zz,h5,b1,c2,hg,aG,if_true,if_false,Int.reduceEq]
   ·simp only [Ad,zz,h3,h4,h5,aG,if_false]
abbrev LC:Int:=9223372036854775807
abbrev tick (c:D) (t:Int):D:=dL (dY c.l t (.i ((c.at t).n+1)))
inductive ZF (d0 d1 s k c:D) (t:Int) (n:Nat):D->D->D->Int->Int->Int->Int->Int->Int->Int->Prop
 |no (h: ¬(0<=t/\t<(d1.l.length:Int)/\KR d0 d1 s k c)):ZF d0 d1 s k c t n s k c 0 0 0 0 0 0 0
 |over (x:KT) (K:KR d0 d1 s k c) (R:Rs d0 d1 s k t x) (ho:fE d1 t x=1):ZF d0 d1 s k c t n s k c 0 0 0 0 0 4 0
 |asl (x:KT) (K:KR d0 d1 s k c) (R:Rs d0 d1 s k t x) (ho:fE d1 t x=0) (ha:EM s t x≠0):ZF d0 d1 s k c t n s k c 0 0 0 0 0 0 0
 |wait (x:KT) (K:KR d0 d1 s k c) (R:Rs d0 d1 s k t x) (ho:fE d1 t x=0) (ha:EM s t x=0) (hq:low (eX d1 t x) 4≠0\/(c.at t).n=LC) (ht: ¬II (Bz d0 d1 s k) c t):ZF d0 d1 s k c t n s k c 0 0 0 0 0 0 0
 |full (x:KT) (K:KR d0 d1 s k c) (R:Rs d0 d1 s k t x) (ho:fE d1 t x=0) (ha:EM s t x=0) (ht:II (Bz d0 d1 s k) c t) (hm:(c.at t).n=LC):ZF d0 d1 s k c t n s k c 0 0 0 0 0 0 131
 |go (x:KT) (K:KR d0 d1 s k c) (R:Rs d0 d1 s k t x) (ho:fE d1 t x=0) (ha:EM s t x=0) (hq:low (eX d1 t x) 4=0\/II (Bz d0 d1 s k) c t) (hm:(c.at t).n≠LC) (s' k':D) (e1 e2 e3 e4 e5 oc:Int)
  (hL:L 1850 [enc d0,enc d1,enc s,enc k,t]=some [enc s',enc k',e1,e2,e3,e4,e5,oc]) (H:E8 d0 d1 s k t n s' k' e1 e2 e3 e4 e5 oc) (W:axF s s' k' e2 e3 e4 c.l.length):ZF d0 d1 s k c t n s' k' (Rf s s' k' e2 e3 e4 (tick c t) ((c.at t).n+1)) e1 e2 e3 e4 e5 oc 0
theorem akI (d1:D) (t:Int) (x:KT): ∃a b c d e,eX d1 t x= [a,b,c,d,e]/\(e=0\/e=1):=by
 unfold eX;split
 ·split
  ·exact⟨_,_,_,_,_,rfl,.inl rfl⟩
  ·split
   ·exact⟨_,_,_,_,_,rfl,.inr rfl⟩
   ·split
    ·exact⟨_,_,_,_,_,rfl,.inr rfl⟩
    ·exact⟨_,_,_,_,_,rfl,.inl rfl⟩
 ·exact⟨_,_,_,_,_,rfl,.inr rfl⟩
section
variable {d0 d1 s k:D} {n:Nat} (S:Sx s k n) (hn:n<17592186043904) (h0:Wd (.sl 3) d0) (h1:Wd (.sl 4) d1)
include S hn h0 h1
theorem aaZ (M:MR d0 d1 s k) {i:Int} (i0:0<=i) (i1:i<(s.l.length:Int)):(∀x∈((s.at i).hd 4).l,0<=x.n/\x.n<(d1.l.length:Int))/\((s.at i).hd 4).l.length<=140737488351232:=by obtain⟨o,c,dn,g,r,v,T,hr,_⟩:=ahH S.g i0 i1;have P:=Vy h0 h1 S.g (by omega) M.1 i0 i1 T;rw [T.is];simp only [zg,aJl];exact⟨P.2.1.1,by omega⟩
theorem aFL (M:MR d0 d1 s k) {t:Int} {s' k':D} {e1 e2 e3 e4 e5 oc:Int} (H:E8 d0 d1 s k t n s' k' e1 e2 e3 e4 e5 oc):axF s s' k' e2 e3 e4 d1.l.length:=by
 have hx:=NQ S hn h0 h1 H;have hlk:k.l.length=d1.l.length:=M.2.1;have hk2:=h1.len;have hle:=(DX h0 h1 S.g (by omega) M.1).2.2;refine⟨fun h13 hp=>?_,fun h14=>?_,fun h15=>?_,by omega,by omega⟩
 all_goals
  cases H with
  |no h=>omega
  |over x R ho=>omega
  |loc x R ho ha=>omega
  |tri x R ho op obj arg tr hq k1 k2 k3 hti s' e1 e2 e3 e4 e5 oc A T=>
   cases T with
   |no=>omega
   |mis A'=>omega
   |res A' o c dn g r v o' c' IX g' r' v' m a oc T' h=>
    have a0:=A'.o0;have a1:=A'.o1;obtain⟨hrow,hrl⟩:=aaZ S hn h0 h1 M a0 a1
    first
     |(subst h13
       have e:act (Mx d0 e3) (Mo d0 s e3) t 13 arg tr o c dn g r v=if (r.l.length:Int)=0 then .res o c dn g r v none 0 2 else .res o c dn g (fJ r (r.l.drop 1)) v none (IntKind.i64.wrap ((r.at 0).n+1)) 2:=by simp [act]
       rw [e] at h;rw [T'.is] at hrow;simp only [zg,aJl] at hrow;have hok:=(DX h0 h1 S.g (by omega) M.1).2.1.2.1;by_cases hz:(r.l.length:Int)=0
       ·rw [aJe hz] at h;simp only [Act.res.injEq] at h;omega
       ·rw [aJd hz] at h;simp only [Act.res.injEq] at h;have h2:=h.2.2.2.2.2.2.2.1;have hm:r.at 0∈r.l:=VU (aKC 0) (by omega);obtain⟨q0,q1⟩:=hrow _ hm;rw [mY (by omega) (by omega)] at h2;rw [<- h2,mY (by omega) (by omega)]
        omega)
     |exact⟨a0,a1,hrow,hrl⟩
     |(have:=hx.2.1
       exact⟨a0,by omega⟩)
theorem Yw {c:D} (hc:Wd (.sl 0) c) (t:Int): ∃s' k' c' e1 e2 e3 e4 e5 oc er,L 3100 [enc d0,enc d1,enc s,enc k,enc c,t]=some [enc s',enc k',enc c',e1,e2,e3,e4,e5,oc,er]/\ZF d0 d1 s k c t n s' k' c' e1 e2 e3 e4 e5 oc er:=by
 have hcp:=S.aGu hc;have hb:=hc.len;obtain⟨ys,hK,b,rfl,hb'⟩:=TU (k:=k) h0 h1 (S.g.few (by omega)).rows hb;by_cases t0:t<0
 ·refine⟨s,k,c,0,0,0,0,0,0,0,?_,.no fun h=>by omega⟩;rw [aN,BJ];simp only [yM,zz,t0,hcp,aG]
 ·by_cases t1:t<(d1.l.length:Int)
  ·rcases hb' with ⟨rfl,hN⟩|⟨rfl,K⟩
   ·refine⟨s,k,c,0,0,0,0,0,0,0,?_,.no fun h=>hN h.2.2⟩;rw [aN,BJ];simp only [yM,zz,t0,t1,hK,hcp,aG]
   ·obtain⟨hcl,hnn,M⟩:=K;have hle:=(DX h0 h1 S.g (by omega) M.1).2.2;obtain⟨x,R⟩:=M.thr S hn h0 h1 (by omega:0<=t) t1;have hO:=vI (s:=s) R.hk R.ht R.r;have hN:=xJ (s:=s) R.c R.hk R.ht R.r;have h15:=R.yes;have tc:t<(c.l.length:Int):=by omega
    have hA:=UR S hn R hle;rcases LW d1 t x with ho|ho
    ·rw [ho] at hO
     have h17:L 1700 [enc d0,enc d1,enc s,enc k,t]=some [0]:=by rw [aN,auN];simp only [afP,zz,h15,hO,aC,aG]
     obtain⟨q0,q1,q2,q3,q4,hq,hq4⟩:=akI d1 t x
     have h18:L 1800 [enc d0,enc d1,enc s,enc k,t]=some [q0,q1,q2,q3,q4]:=by
      rw [hq] at hN;rw [aN,auK];rcases hq4 with rfl|rfl
      ·simp only [RZ,zz,h15,hN,aC,aG]
      ·simp only [RZ,zz,h15,hN,aC,aG]
     have hl4:low (eX d1 t x) 4=q4:=by rw [hq]; rfl
     by_cases ha:EM s t x=0
     ·obtain⟨tb,hT,aI3,hTi⟩:=axS (d0:=d0) (d1:=d1) (s:=s) (k:=k) (c:=c) (t:=t) (fun u u0 u1=>by
       obtain⟨y,Ry⟩:=M.thr S hn h0 h1 u0 (by omega)
       exact⟨_,UE S hn Ry hle⟩) (by omega) tc hb
      rw [ha] at hA
      have hgo:(low (eX d1 t x) 4=0\/II (Bz d0 d1 s k) c t)->(c.at t).n≠LC->∃s' k' e1 e2 e3 e4 e5 oc,(L 1850 [enc d0,enc d1,enc s,enc k,t]=some [enc s',enc k',e1,e2,e3,e4,e5,oc]/\L 15000 [enc s,enc k,enc s',enc k',e1,e2,e3,e4,e5,enc (tick c t),(c.at t).n+1]=some [0,enc s,enc k,enc s',enc k',e1,e2,e3,e4,e5,enc (tick c t),(c.at t).n+1,enc (Rf s s' k' e2 e3 e4 (tick c t) ((c.at t).n+1))])/\
       ZF d0 d1 s k c t n s' k' (Rf s s' k' e2 e3 e4 (tick c t) ((c.at t).n+1)) e1 e2 e3 e4 e5 oc 0:=fun hq' hm=>by
       obtain⟨s',k',e1,e2,e3,e4,e5,oc,hL,H⟩:=Fv S hn h0 h1 t;have W:=aFL S hn h0 h1 M H;refine⟨s',k',e1,e2,e3,e4,e5,oc,⟨hL,amM ?_⟩,.go x ⟨hcl,hnn,M⟩ R ho ha hq' hm s' k' e1 e2 e3 e4 e5 oc hL H (by rw [hcl]; exact W)⟩;rw [aW,dQ,hcl];exact W
      have hin:iM .i64 (c.at t).n:=by obtain⟨i,rfl⟩ : ∃i:Nat,t=(i:Int):=⟨t.toNat,by omega⟩;exact amQ hc i
      have hw:(c.at t).n≠LC->IntKind.i64.wrap ((c.at t).n+1)=(c.at t).n+1:=fun hm=>mY (by have:=hin.1; omega) (by have:=hin.2; unfold LC at hm; omega);have hpos:(0:Int)<(c.l.length:Int):=by omega
      have hfew:(c.l.length:Int)<17592186044416:=by have:=hc.room;have h3:xC 0=8:=rfl;rw [h3] at this;omega
      have hat:((tick c t).at t).n=(c.at t).n+1:=by
       obtain⟨i,rfl⟩ : ∃i:Nat,t=(i:Int):=⟨t.toNat,by omega⟩
       have:(tick c (i:Int)).at (i:Int)= .i ((c.at (i:Int)).n+1):=Xn (by
        show (dL (dY c.l (i:Int) _)).l[i]?=_;rw [aW]
        exact zG (by omega))
       rw [this];rfl
      by_cases h4:q4=0
      ·by_cases hm:(c.at t).n=LC
       ·have hm':(c.at t).n=9223372036854775807:=hm;by_cases hz:tb=0
        ·refine⟨s,k,c,0,0,0,0,0,0,0,?_,.wait x ⟨hcl,hnn,M⟩ R ho ha (.inr hm) fun h=>by have:=hTi.2 h; omega⟩;rw [aN,BJ];simp only [yM,zz,t0,t1,hK,h17,h18,tc,hA,h4,hm',hT,hz,hcp,aC,aG]
        ·refine⟨s,k,c,0,0,0,0,0,0,131,?_,.full x ⟨hcl,hnn,M⟩ R ho ha (hTi.1 (by omega)) hm⟩;rw [aN,BJ];simp only [yM,zz,t0,t1,hK,h17,h18,tc,hA,h4,hm',hT,aJd hz,hcp,aC,aG]
       ·obtain⟨s',k',e1,e2,e3,e4,e5,oc,⟨hL,hW⟩,H⟩:=hgo (.inl (by rw [hl4]; exact h4)) hm;refine⟨s',k',_,e1,e2,e3,e4,e5,oc,0,?_,H⟩;have hm': ¬(c.at t).n=9223372036854775807:=hm;rw [aN,BJ];simp only [yM,zz,t0,t1,hK,h17,h18,tc,hA,h4,hm',hL,hpos,hfew,hw hm,hat,hW,aC,aG]
      ·by_cases hz:tb=0
       ·refine⟨s,k,c,0,0,0,0,0,0,0,?_,.wait x ⟨hcl,hnn,M⟩ R ho ha (.inl (by rw [hl4]; exact h4)) fun h=>by have:=hTi.2 h; omega⟩;rw [aN,BJ];simp only [yM,zz,t0,t1,hK,h17,h18,tc,hA,aJd h4,hT,hz,hcp,aC,aG]
       ·have hTP:=hTi.1 (by omega);by_cases hm:(c.at t).n=LC
        ·have hm':(c.at t).n=9223372036854775807:=hm;refine⟨s,k,c,0,0,0,0,0,0,131,?_,.full x ⟨hcl,hnn,M⟩ R ho ha hTP hm⟩;rw [aN,BJ];simp only [yM,zz,t0,t1,hK,h17,h18,tc,hA,aJd h4,hm',hT,aJd hz,hcp,aC,aG]
        ·obtain⟨s',k',e1,e2,e3,e4,e5,oc,⟨hL,hW⟩,H⟩:=hgo (.inr hTP) hm;refine⟨s',k',_,e1,e2,e3,e4,e5,oc,0,?_,H⟩;have hm': ¬(c.at t).n=9223372036854775807:=hm;rw [aN,BJ];simp only [yM,zz,t0,t1,hK,h17,h18,tc,hA,aJd h4,hm',hT,aJd hz,hL,hpos,hfew,hw hm,hat,hW,aC,aG]
     ·refine⟨s,k,c,0,0,0,0,0,0,0,?_,.asl x ⟨hcl,hnn,M⟩ R ho ha⟩;obtain⟨b4,hb4⟩ : ∃b4,q4=b4:=⟨_,rfl⟩;rw [aN,BJ];simp only [yM,zz,t0,t1,hK,h17,h18,tc,hA,aJd ha,hcp,aC,aG]
    ·rw [ho] at hO
     have h17:L 1700 [enc d0,enc d1,enc s,enc k,t]=some [1]:=by rw [aN,auN];simp only [afP,zz,h15,hO,aC,aG]
     refine⟨s,k,c,0,0,0,0,0,4,0,?_,.over x ⟨hcl,hnn,M⟩ R ho⟩;rw [aN,BJ];simp only [yM,zz,t0,t1,hK,h17,hcp,aC,aG]
  ·refine⟨s,k,c,0,0,0,0,0,0,0,?_,.no fun h=>t1 h.2.1⟩;rw [aN,BJ];simp only [yM,zz,t0,t1,hcp,aG]
end
abbrev evD (e1 e2 e3 e4 e5:Int):D:=dL [.i e1,.i e2,.i e3,.i e4,.i e5]
structure PS where
 s:D
 k:D
 l:List D
structure POk (d1:D) (p:PS) (n:Nat):Prop where
 sx:Sx p.s p.k n
 lk:p.k.l.length=d1.l.length
 ll:p.l.length<=n
theorem dr {ρ:Nat->Int} (a b:SE):(SE.rem a b).den ρ=(a.den ρ).tmod (b.den ρ):=rfl
theorem aGq:((3:Int)=2)=False:=by simp
section
variable {d0 d1:D} (h0:Wd (.sl 3) d0) (h1:Wd (.sl 4) d1)
include h0 h1
end
theorem Fp (d1:D):(iT d1).l.length=d1.l.length:=by
 unfold iT;split
 ·rename_i h; rw [h]; rfl
 ·rw [aW,aJZ]
section
variable {d0 d1:D} (h0:Wd (.sl 3) d0) (h1:Wd (.sl 4) d1)
include h0 h1
end
structure Ck (M:Int) (c:D):Prop where
 wd:Wd (.sl 0) c
 rng: ∀u:Nat,u<c.l.length->0<=(c.at (u:Int)).n/\(c.at (u:Int)).n<=M
structure Sh (B:Int) (c c':D):Prop where
 len:c'.l.length=c.l.length
 at': ∀u:Nat,u<c.l.length->(c'.at (u:Int)).n=(c.at (u:Int)).n+B
theorem Xm (c:D) (u x:Int) {v:Nat} (hv:v<c.l.length):((dL (dY c.l u (.i x))).at (v:Int)).n=if (v:Int)=u then x else (c.at (v:Int)).n:=by
 by_cases h:(v:Int)=u
 ·subst h;rw [aJe rfl,Xn (s:=dL (dY c.l (v:Int) (.i x))) (i:=v) (x:=.i x) (by rw [aW]; exact zG hv)];rfl
 ·rw [aJd h]
  have e:(dL (dY c.l u (.i x))).at (v:Int)=c.at (v:Int):=by rw [lN,lN,aW,lZ h]
  rw [e]
theorem axP {c:D} (hc:Wd (.sl 0) c) (hp:0<c.l.length) (z:Int) {v:Int} (hv:iM .i64 v):Wd (.sl 0) (dL (dY c.l z (.i v))):=by
 have:=hc.room;have h3:xC 0=8:=rfl;rw [h3] at this;have hs:=dQ c.l z (.i v);refine zZ (fun y hy=>?_) (fun he=>?_) (by rw [hs]; omega)
 ·rcases zB hy with h|rfl
  ·exact (hc.el1 rfl y h).i
  ·exact⟨v,rfl,hv⟩
 ·rw [he] at hs;simp only [aJt] at hs;omega
theorem afW {M:Int} {c:D} (C:Ck M c) (hp:0<c.l.length) (hM:M<=LC) (z:Int) {v:Int} (v0:0<=v) (v1:v<=M):Ck M (dL (dY c.l z (.i v))):=by
 refine⟨axP C.wd hp z ⟨by omega,by unfold LC at hM; omega⟩,fun u hu=>?_⟩;rw [aW,dQ] at hu;rw [Xm c z v hu];split
 ·exact⟨v0,v1⟩
 ·exact C.rng u hu
theorem Ck.mono {M M':Int} {c:D} (C:Ck M c) (h:M<=M'):Ck M' c:=⟨C.wd,fun u hu=>by have:=C.rng u hu; omega⟩
theorem Ck.at {M:Int} {c:D} (C:Ck M c) {t:Int} (t0:0<=t) (t1:t<(c.l.length:Int)):0<=(c.at t).n/\(c.at t).n<=M:=by obtain⟨i,rfl⟩ : ∃i:Nat,t=(i:Int):=⟨t.toNat,by omega⟩;exact C.rng i (by omega)
theorem Xk {M:Int} {c:D} (C:Ck M c) (hp:0<c.l.length) (hM:M<=LC) {u n:Int} (u0:0<=u) (u1:u<(c.l.length:Int)) (n0:0<=n) (n1:n<=M):Ck M (bump c u n):=by unfold bump;have:=C.at u0 u1;refine afW C hp hM u ?_ ?_<;>(split<;>omega)
theorem amP {M:Int} {n:Int} (hM:M<=LC) (n0:0<=n) (n1:n<=M): ∀(l:List D) (c:D),Ck M c->0<c.l.length->(∀x∈l,0<=x.n/\x.n<(c.l.length:Int))->Ck M (wkB n l c)/\(wkB n l c).l.length=c.l.length
 |[],c,C,_,_=> ⟨C,rfl⟩
 |x::l,c,C,hp,h=>by have hx:=h x List.mem_cons_self;have e:=uO c x.n n;have:=amP hM n0 n1 l (bump c x.n n) (Xk C hp hM hx.1 hx.2 n0 n1) (by omega) (fun y hy=>by rw [e]; exact h y (aKY _ hy));rw [e] at this;exact this
theorem ZX {M:Int} {n o g:Int} (hM:M<=LC) (n0:0<=n) (n1:n<=M): ∀(l:List D) (i:Nat) (c:D),Ck M c->0<c.l.length->i+l.length<=c.l.length->Ck M (wkA o g n l i c)/\(wkA o g n l i c).l.length=c.l.length
 |[],i,c,C,_,_=> ⟨C,rfl⟩
 |x::l,i,c,C,hp,h=>by
  simp only [aJr] at h;unfold wkA;split
  ·have e:=uO c (i:Int) n;have:=ZX (o:=o) (g:=g) hM n0 n1 l (i+1) (bump c (i:Int) n) (Xk C hp hM (by omega) (by omega) n0 n1) (by omega) (by omega);rw [e] at this;exact this
  ·exact ZX hM n0 n1 l (i+1) c C hp (by omega)
theorem aDs {M:Int} {s s' k' c:D} {e2 e3 e4 n:Int} (W:axF s s' k' e2 e3 e4 c.l.length) (C:Ck M c) (hp:0<c.l.length) (hM:M<=LC) (n0:0<=n) (n1:n<=M):Ck M (Rf s s' k' e2 e3 e4 c n)/\(Rf s s' k' e2 e3 e4 c n).l.length=c.l.length:=by
 unfold Rf;split
 ·rename_i h;split
  ·rename_i h';obtain⟨w0,w1⟩:=W.sig h h';exact⟨Xk C hp hM w0 w1 n0 n1,uO _ _ _⟩
  ·exact⟨C,rfl⟩
 ·split
  ·rename_i h;exact amP hM n0 n1 _ c C hp (W.brd h).2.2.1
  ·split
   ·split
    ·exact ZX hM n0 n1 _ 0 c C hp (by have:=W.lk; omega)
    ·exact⟨C,rfl⟩
   ·exact⟨C,rfl⟩
theorem BX (c:D) (t:Int):(tick c t).l.length=c.l.length:=by rw [aW,dQ]
theorem Sh.at {B:Int} {c c':D} (h:Sh B c c') {t:Int} (t0:0<=t) (t1:t<(c.l.length:Int)):(c'.at t).n=(c.at t).n+B:=by obtain⟨i,rfl⟩ : ∃i:Nat,t=(i:Int):=⟨t.toNat,by omega⟩;exact h.at' i (by omega)
theorem aaY {d0 d1 s k:D} {t:Int} {x y:KT} (R:Rs d0 d1 s k t x) (R':Rs d0 d1 s k t y):x=y:=by have h:=R.hk.symm.trans R'.hk;simp only [KT.d,dU,gB,D.p.injEq,D.i.injEq,and_true] at h;obtain⟨h1,h2,h3,h4,h5,h6⟩:=h;cases x; cases y;simp only at h1 h2 h3 h4 h5 h6;subst h1 h2 h3 h4 h5 h6;rfl
structure aJb (d0 d1 s k c c':D) (t:Int) (n:Nat) (B M M':Int) (s' k' cn cn':D) (e1 e2 e3 e4 e5 oc:Int):Prop where
 one:L 3100 [enc d0,enc d1,enc s,enc k,enc c,t]=some [enc s',enc k',enc cn,e1,e2,e3,e4,e5,oc,0]
 two:L 3100 [enc d0,enc d1,enc s,enc k,enc c',t]=some [enc s',enc k',enc cn',e1,e2,e3,e4,e5,oc,0]
 sh:Sh B cn cn'
 ck:Ck (M+1) cn
 ck':Ck (M'+1) cn'
 sx:Sx s' k' (n+1)
section
variable {d0 d1 s k:D} {n:Nat} (S:Sx s k n) (hn:n<17592186043904) (h0:Wd (.sl 3) d0) (h1:Wd (.sl 4) d1)
include S hn h0 h1
end
theorem kH {x y:KT} (h:x.d=y.d):x=y:=by simp only [KT.d,dU,gB,D.p.injEq,D.i.injEq,and_true] at h;obtain⟨h1,h2,h3,h4,h5,h6⟩:=h;cases x; cases y;simp only at h1 h2 h3 h4 h5 h6;subst h1 h2 h3 h4 h5 h6;rfl
structure One (d0 d1 s k:D) (t:Int) (s' k':D) (e1 e2 e3 e4 e5 oc:Int) (x y:KT):Prop where
 hk:k.at t=x.d
 hk':k'=fK k t y
 how:(oc=0/\s'=s/\e1=0/\e2=0/\e3=0/\e4=0/\e5=0/\y= { x with tr:=y.tr }/\L 1700 [enc d0,enc d1,enc s,enc k,t]=some [0])\/
  (oc=4/\s'=s/\e1=0/\e2=0/\e3=0/\e4=0/\e5=0/\y=x/\L 1700 [enc d0,enc d1,enc s,enc k,t]=some [1])\/
  (oc=1/\s'=s/\e1=0/\e2=0/\e3=0/\e4=0/\e5=0/\L 1700 [enc d0,enc d1,enc s,enc k,t]=some [0])\/
  ((oc=2\/oc=3)/\e2≠0/\L 1700 [enc d0,enc d1,enc s,enc k,t]=some [0])
section
variable {d0 d1 s k:D} {n:Nat} (S:Sx s k n) (hn:n<17592186043904) (h0:Wd (.sl 3) d0) (h1:Wd (.sl 4) d1)
include S hn h0 h1
omit hn h0 h1 in
theorem aCc {t:Int} (t0:0<=t) (t1:t<(k.l.length:Int)): ∃x:KT,k.at t=x.d/\fK k t x=k:=by
 obtain⟨i,rfl⟩ : ∃i:Nat,t=(i:Int):=⟨t.toNat,by omega⟩;have hi:i<k.l.length:=by omega
 obtain⟨a,lc,w,o,g,tr,T⟩:=jO S.wk _ (aJm hi);exact⟨⟨a,lc,w,o,g,tr⟩,by rw [aX hi,T.is],aaV (BU S.wk (by omega)).sh t0 t1 (by rw [aX hi,T.is])⟩
end
theorem jE (k:D) {t u:Int} (u0:0<=u) (h:u≠t) (x:KT):(fK k t x).at u=k.at u:=by obtain⟨i,rfl⟩ : ∃i:Nat,u=(i:Int):=⟨u.toNat,by omega⟩;show (dL (dY k.l t x.d)).at (i:Int)=k.at (i:Int);rw [lN,lN,aW,lZ h]
section
variable {d0 d1 s k:D} {n:Nat} (S:Sx s k n) (hn:n<17592186043900) (h0:Wd (.sl 3) d0) (h1:Wd (.sl 4) d1)
include S hn h0 h1
theorem SN (M:MR d0 d1 s k) {t:Int} {x:KT} (t0:0<=t) (t1:t<(d1.l.length:Int)) (h:k.at t=x.d):Rs d0 d1 s k t x:=by obtain⟨y,R⟩:=M.thr S (by omega) h0 h1 t0 t1;rw [kH (h.symm.trans R.hk)];exact R
end
noncomputable abbrev foE (d0 d1 s k:D) (t n rZ vK ea eb:Int) (x:KT):Nat->Int:=bQ L (low [t,n,enc d0,enc d1,enc s,enc k,rZ,vK,ea,eb,enc s,enc k,x.a,enc x.lc,x.w,x.o,x.g,x.tr])
section
variable {d0 d1 s k:D} {t:Int} {n:Nat} {rZ vK ea eb m:Int} {x:KT} (S:Sx s k n) (C:Cd d0 d1) (ht:t<(k.l.length:Int))
include S C ht
theorem alC (R:Rt d0 d1 t x) (hn: ¬20000<m) (ho:fE d1 t x=0) (ha:low (eX d1 t x) 4=0):L 2004 [t,m,enc d0,enc d1,enc s,enc k,rZ,vK,ea,eb,enc s,enc k,x.a,enc x.lc,x.w,x.o,x.g,x.tr]=L 2004 [t,IntKind.i64.wrap (m+1),enc d0,enc d1,enc s,enc k,rZ,vK,ea,eb,enc s,enc k,(gW (Ins d1 t x) x).a,enc (gW (Ins d1 t x) x).lc,(gW (Ins d1 t x) x).w,(gW (Ins d1 t x) x).o,(gW (Ins d1 t x) x).g,(gW (Ins d1 t x) x).tr]:=by
 have hO:=vI (s:=s) (k:=fK k t x) (iZ R.t0 ht x) (by rw [gG]; exact ht) R;have hN:=xJ (s:=s) (k:=fK k t x) C (iZ R.t0 ht x) (by rw [gG]; exact ht) R;have Lc:=FQ R ho ha;rw [ho] at hO;simp only [fK,KT.d,dU,gB] at hO hN
 have hw:(gW (Ins d1 t x) x).w=x.w/\(gW (Ins d1 t x) x).o=x.o/\(gW (Ins d1 t x) x).g=x.g/\(gW (Ins d1 t x) x).tr=x.tr:=by
  unfold gW
  repeat' split
  all_goals exact⟨rfl,rfl,rfl,rfl⟩
 have hl:=Yt (s:=s) (k:=k) C ht R Lc
 have K:dX (foE d0 d1 s k t m rZ vK ea eb x) afI= .jump 2004 [t,IntKind.i64.wrap (m+1),enc d0,enc d1,enc s,enc k,rZ,vK,ea,eb,enc s,enc k,(gW (Ins d1 t x) x).a,enc (gW (Ins d1 t x) x).lc,(gW (Ins d1 t x) x).w,(gW (Ins d1 t x) x).o,(gW (Ins d1 t x) x).g,(gW (Ins d1 t x) x).tr]:=by refine bD [.eq (a0 1650 uU) Q0,Rj,.eq (a0 1750 uU) Q0,Ri,.eq (a0 14000 Qrj) Q0,.eq (rr 14000 Qrj 0) Qa] [.lt (.lit 20000) Qb] (ju 2004 [Qf,vY,Qo,Qm,bC,bK,cZ,dZ,fQ,fP,jL,kT,rr 14000 Qrj 12,rr 14000 Qrj 13,qF,U4,Qfx,Qfr]) (by simp only [zz,hn,hO,hN,ha,hl]<;>omega) (by kernel_rfl) ?_;simp only [zz,hl,hw]
 rw [aN,auE];exact congrArg (fin L) K
theorem alB (R:Rt d0 d1 t x) (hn: ¬20000<m) (ho:fE d1 t x=0) {op obj arg tr trs e1 e2 e3 e4 e5 oc:Int} {s':D} (ha:eX d1 t x= [op,obj,arg,tr,1]) (htr:trs=if rZ=4/\ea=0 then 4611686018427387904 else 0)
 (A:Tried d0 d1 s t op obj arg trs n s' e1 e2 e3 e4 e5 oc):L 2004 [t,m,enc d0,enc d1,enc s,enc k,rZ,vK,ea,eb,enc s,enc k,x.a,enc x.lc,x.w,x.o,x.g,x.tr]=some (if oc≠0/\e1=t/\e2=rZ/\e3=vK/\e4=ea/\e5=eb then [enc s',enc (fK k t (jI (Ins d1 t x) x op e2 e3 e4 oc)),1] else [enc s,enc k,0]):=by
 have hcp:=UM S.st;have hO:=vI (s:=s) (k:=fK k t x) (iZ R.t0 ht x) (by rw [gG]; exact ht) R;have hN:=xJ (s:=s) (k:=fK k t x) C (iZ R.t0 ht x) (by rw [gG]; exact ht) R;rw [ho] at hO;rw [ha] at hN;simp only [fK,KT.d,dU,gB] at hO hN
 have hx:x.w=0->x.a<(Nc d1 t:Int):=fun w0=>by unfold fE at ho;rw [aJe w0] at ho;have:=R.ok.2.1;unfold Nc at ho ⊢;split at ho<;>omega
 have hE:evT e1 e2 e3 e4 e5 oc= [e1,e2,e3,e4,e5]:=by
  unfold evT;split
  ·rename_i h0;obtain⟨_,rfl,rfl,rfl,rfl,rfl⟩:=A.no h0;rfl
  ·rfl
 have hl:=XK (k:=k) C ht R A.eq (fun h=>(A.no h).1) hx;rw [hE] at hl;simp only [aJv,aJo] at hl
 have K:dX (foE d0 d1 s k t m rZ vK ea eb x) afI= .out (if oc≠0/\e1=t/\e2=rZ/\e3=vK/\e4=ea/\e5=eb then [enc s',enc (fK k t (jI (Ins d1 t x) x op e2 e3 e4 oc)),1] else [enc s,enc k,0]):=by
  by_cases q4:rZ=4
  ·by_cases qa:ea=0
   ·have et:trs=4611686018427387904:=by rw [htr,aJe ⟨q4,qa⟩]
    rw [et] at hl;by_cases o0:oc=0
    ·rw [aJd (fun h=>h.1 o0)];refine bD [.eq (a0 1650 uU) Q0,Rj,.eq (a0 1750 uU) Q0,.eq cZ rY,ZA,.eq (a0 14500 mF) Q0,.eq (rr 14500 mF 0) Qa,.eq (rr 14500 mF 21) Qa,.eq (a0 1900 [bC,bK]) Q0] [.lt (.lit 20000) Qb,Ri] (ou [rr 1900 [bC,bK] 0,rr 1900 [bC,bK] 1,Qa]) (by simp only [zz,hn,hO,hN,hl,q4,qa,o0,hcp]<;>omega) (by kernel_rfl) ?_;simp only [zz,hcp]
    ·by_cases qe:e1=t/\e2=rZ/\e3=vK/\e4=ea/\e5=eb
     ·rw [aJe ⟨o0,qe⟩];refine bD [.eq (a0 1650 uU) Q0,Rj,.eq (a0 1750 uU) Q0,.eq cZ rY,ZA,.eq (a0 14500 mF) Q0,.eq (rr 14500 mF 0) Qa,.and (.eq (rr 14500 mF 16) Qf) (.and (.eq (rr 14500 mF 17) cZ) (.and (.eq (rr 14500 mF 18) dZ) (.and (.eq (rr 14500 mF 19) fQ) (.eq (rr 14500 mF 20) fP))))] [.lt (.lit 20000) Qb,Ri,.eq (rr 14500 mF 21) Qa] (ou [rr 14500 mF 22,.op .set kT (cn (mk Qf) (cn (mk (rr 14500 mF 23)) (cn (rr 14500 mF 24) (cn (mk (rr 14500 mF 25)) (cn (mk (rr 14500 mF 26)) (cn (mk (rr 14500 mF 27)) (cn (mk (rr 14500 mF 28)) jM))))))),Q0]) (by simp only [zz,hn,hO,hN,hl,q4,qa,o0,mJ,qe,and_self,hcp]<;>omega) (by kernel_rfl) ?_;simp only [zz,hN,hl,fK,KT.d,dU,gB]
     ·rw [aJd (fun h=>qe h.2)];refine bD [.eq (a0 1650 uU) Q0,Rj,.eq (a0 1750 uU) Q0,.eq cZ rY,ZA,.eq (a0 14500 mF) Q0,.eq (rr 14500 mF 0) Qa,.eq (a0 1900 [bC,bK]) Q0] [.lt (.lit 20000) Qb,Ri,.eq (rr 14500 mF 21) Qa,.and (.eq (rr 14500 mF 16) Qf) (.and (.eq (rr 14500 mF 17) cZ) (.and (.eq (rr 14500 mF 18) dZ) (.and (.eq (rr 14500 mF 19) fQ) (.eq (rr 14500 mF 20) fP))))] (ou [rr 1900 [bC,bK] 0,rr 1900 [bC,bK] 1,Qa]) (by simp only [zz,hn,hO,hN,hl,q4,qa,o0,mJ,qe,hcp]<;>omega) (by kernel_rfl) ?_;simp only [zz,hcp]
   ·have et:trs=0:=by rw [htr,aJd (fun h=>qa h.2)]
    rw [et] at hl;by_cases o0:oc=0
    ·rw [aJd (fun h=>h.1 o0)];refine bD [.eq (a0 1650 uU) Q0,Rj,.eq (a0 1750 uU) Q0,.eq cZ rY,.eq (a0 14500 gV) Q0,.eq (rr 14500 gV 0) Qa,.eq (rr 14500 gV 21) Qa,.eq (a0 1900 [bC,bK]) Q0] [.lt (.lit 20000) Qb,Ri,ZA] (ou [rr 1900 [bC,bK] 0,rr 1900 [bC,bK] 1,Qa]) (by simp only [zz,hn,hO,hN,hl,q4,qa,o0,hcp]<;>omega) (by kernel_rfl) ?_;simp only [zz,hcp]
    ·by_cases qe:e1=t/\e2=rZ/\e3=vK/\e4=ea/\e5=eb
     ·rw [aJe ⟨o0,qe⟩];refine bD [.eq (a0 1650 uU) Q0,Rj,.eq (a0 1750 uU) Q0,.eq cZ rY,.eq (a0 14500 gV) Q0,.eq (rr 14500 gV 0) Qa,.and (.eq (rr 14500 gV 16) Qf) (.and (.eq (rr 14500 gV 17) cZ) (.and (.eq (rr 14500 gV 18) dZ) (.and (.eq (rr 14500 gV 19) fQ) (.eq (rr 14500 gV 20) fP))))] [.lt (.lit 20000) Qb,Ri,ZA,.eq (rr 14500 gV 21) Qa] (ou [rr 14500 gV 22,.op .set kT (cn (mk Qf) (cn (mk (rr 14500 gV 23)) (cn (rr 14500 gV 24) (cn (mk (rr 14500 gV 25)) (cn (mk (rr 14500 gV 26)) (cn (mk (rr 14500 gV 27)) (cn (mk (rr 14500 gV 28)) jM))))))),Q0]) (by simp only [zz,hn,hO,hN,hl,q4,qa,o0,mJ,qe,and_self,hcp]<;>omega) (by kernel_rfl) ?_;simp only [zz,hN,hl,fK,KT.d,dU,gB]
     ·rw [aJd (fun h=>qe h.2)];refine bD [.eq (a0 1650 uU) Q0,Rj,.eq (a0 1750 uU) Q0,.eq cZ rY,.eq (a0 14500 gV) Q0,.eq (rr 14500 gV 0) Qa,.eq (a0 1900 [bC,bK]) Q0] [.lt (.lit 20000) Qb,Ri,ZA,.eq (rr 14500 gV 21) Qa,.and (.eq (rr 14500 gV 16) Qf) (.and (.eq (rr 14500 gV 17) cZ) (.and (.eq (rr 14500 gV 18) dZ) (.and (.eq (rr 14500 gV 19) fQ) (.eq (rr 14500 gV 20) fP))))] (ou [rr 1900 [bC,bK] 0,rr 1900 [bC,bK] 1,Qa]) (by simp only [zz,hn,hO,hN,hl,q4,qa,o0,mJ,qe,hcp]<;>omega) (by kernel_rfl) ?_;simp only [zz,hcp]
  ·have et:trs=0:=by rw [htr,aJd (fun h=>q4 h.1)]
   rw [et] at hl;by_cases o0:oc=0
   ·rw [aJd (fun h=>h.1 o0)];refine bD [.eq (a0 1650 uU) Q0,Rj,.eq (a0 1750 uU) Q0,.eq (a0 14500 gV) Q0,.eq (rr 14500 gV 0) Qa,.eq (rr 14500 gV 21) Qa,.eq (a0 1900 [bC,bK]) Q0] [.lt (.lit 20000) Qb,Ri,.eq cZ rY] (ou [rr 1900 [bC,bK] 0,rr 1900 [bC,bK] 1,Qa]) (by simp only [zz,hn,hO,hN,hl,q4,o0,hcp]<;>omega) (by kernel_rfl) ?_;simp only [zz,hcp]
   ·by_cases qe:e1=t/\e2=rZ/\e3=vK/\e4=ea/\e5=eb
    ·rw [aJe ⟨o0,qe⟩];refine bD [.eq (a0 1650 uU) Q0,Rj,.eq (a0 1750 uU) Q0,.eq (a0 14500 gV) Q0,.eq (rr 14500 gV 0) Qa,.and (.eq (rr 14500 gV 16) Qf) (.and (.eq (rr 14500 gV 17) cZ) (.and (.eq (rr 14500 gV 18) dZ) (.and (.eq (rr 14500 gV 19) fQ) (.eq (rr 14500 gV 20) fP))))] [.lt (.lit 20000) Qb,Ri,.eq cZ rY,.eq (rr 14500 gV 21) Qa] (ou [rr 14500 gV 22,.op .set kT (cn (mk Qf) (cn (mk (rr 14500 gV 23)) (cn (rr 14500 gV 24) (cn (mk (rr 14500 gV 25)) (cn (mk (rr 14500 gV 26)) (cn (mk (rr 14500 gV 27)) (cn (mk (rr 14500 gV 28)) jM))))))),Q0]) (by simp only [zz,hn,hO,hN,hl,q4,o0,mJ,qe,and_self,hcp]<;>omega) (by kernel_rfl) ?_;simp only [zz,hN,hl,fK,KT.d,dU,gB]
    ·rw [aJd (fun h=>qe h.2)];refine bD [.eq (a0 1650 uU) Q0,Rj,.eq (a0 1750 uU) Q0,.eq (a0 14500 gV) Q0,.eq (rr 14500 gV 0) Qa,.eq (a0 1900 [bC,bK]) Q0] [.lt (.lit 20000) Qb,Ri,.eq cZ rY,.eq (rr 14500 gV 21) Qa,.and (.eq (rr 14500 gV 16) Qf) (.and (.eq (rr 14500 gV 17) cZ) (.and (.eq (rr 14500 gV 18) dZ) (.and (.eq (rr 14500 gV 19) fQ) (.eq (rr 14500 gV 20) fP))))] (ou [rr 1900 [bC,bK] 0,rr 1900 [bC,bK] 1,Qa]) (by simp only [zz,hn,hO,hN,hl,q4,o0,mJ,qe,hcp]<;>omega) (by kernel_rfl) ?_;simp only [zz,hcp]
 rw [aN,auE];exact congrArg (fin L) K
theorem alA (R:Rt d0 d1 t x) (hz:x.lc.l.length=0) (hn: ¬20000<m) (ho:fE d1 t x=0) (ha:low (eX d1 t x) 4=0):L 2005 [t,m,enc d0,enc d1,enc s,enc k,rZ,vK,ea,eb,enc s,enc k,x.a,enc x.lc,x.w,x.o,x.g,x.tr]=L 2005 [t,IntKind.i64.wrap (m+1),enc d0,enc d1,enc s,enc k,rZ,vK,ea,eb,enc s,enc k,(gW (Ins d1 t x) x).a,enc (gW (Ins d1 t x) x).lc,(gW (Ins d1 t x) x).w,(gW (Ins d1 t x) x).o,(gW (Ins d1 t x) x).g,(gW (Ins d1 t x) x).tr]:=by
 have hO:=vI (s:=s) (k:=fK k t x) (iZ R.t0 ht x) (by rw [gG]; exact ht) R;have hN:=xJ (s:=s) (k:=fK k t x) C (iZ R.t0 ht x) (by rw [gG]; exact ht) R;have Lc:=FQ R ho ha;rw [ho] at hO;simp only [fK,KT.d,dU,gB] at hO hN
 have hw:(gW (Ins d1 t x) x).w=x.w/\(gW (Ins d1 t x) x).o=x.o/\(gW (Ins d1 t x) x).g=x.g/\(gW (Ins d1 t x) x).tr=x.tr:=by
  unfold gW
  repeat' split
  all_goals exact⟨rfl,rfl,rfl,rfl⟩
 obtain⟨hl,hc⟩:=Yr (s:=s) (k:=k) C ht R Lc hz
 have K:dX (foE d0 d1 s k t m rZ vK ea eb x) afH= .jump 2005 [t,IntKind.i64.wrap (m+1),enc d0,enc d1,enc s,enc k,rZ,vK,ea,eb,enc s,enc k,(gW (Ins d1 t x) x).a,enc (gW (Ins d1 t x) x).lc,(gW (Ins d1 t x) x).w,(gW (Ins d1 t x) x).o,(gW (Ins d1 t x) x).g,(gW (Ins d1 t x) x).tr]:=by refine bD [.eq (a0 1650 uU) Q0,Rj,.eq (a0 1750 uU) Q0,Ri,.eq (a0 14050 Qrj) Q0,.eq (rr 14050 Qrj 0) Qa] [.lt (.lit 20000) Qb] (ju 2005 [Qf,vY,Qo,Qm,bC,bK,cZ,dZ,fQ,fP,jL,kT,rr 14050 Qrj 12,mX,qF,U4,Qfx,Qfr]) (by simp only [zz,hn,hO,hN,ha,hl]<;>omega) (by kernel_rfl) ?_;simp only [zz,hl,hw,hc]
 rw [aN,auD];exact congrArg (fin L) K
theorem akZ (R:Rt d0 d1 t x) (hz:x.lc.l.length=0) (hn: ¬20000<m) (ho:fE d1 t x=0) {op obj arg tr trs e1 e2 e3 e4 e5 oc:Int} {s':D} (ha:eX d1 t x= [op,obj,arg,tr,1]) (htr:trs=if rZ=4/\ea=0 then 4611686018427387904 else 0)
 (A:Tried d0 d1 s t op obj arg trs n s' e1 e2 e3 e4 e5 oc):L 2005 [t,m,enc d0,enc d1,enc s,enc k,rZ,vK,ea,eb,enc s,enc k,x.a,enc x.lc,x.w,x.o,x.g,x.tr]=some (if oc≠0/\e1=t/\e2=rZ/\e3=vK/\e4=ea/\e5=eb then [enc s',enc (fK k t (jI (Ins d1 t x) x op e2 e3 e4 oc)),1] else [enc s,enc k,0]):=by
 have hcp:=UM S.st;have hO:=vI (s:=s) (k:=fK k t x) (iZ R.t0 ht x) (by rw [gG]; exact ht) R;have hN:=xJ (s:=s) (k:=fK k t x) C (iZ R.t0 ht x) (by rw [gG]; exact ht) R;rw [ho] at hO;rw [ha] at hN;simp only [fK,KT.d,dU,gB] at hO hN
 have hx:x.w=0->x.a<(Nc d1 t:Int):=fun w0=>by unfold fE at ho;rw [aJe w0] at ho;have:=R.ok.2.1;unfold Nc at ho ⊢;split at ho<;>omega
 have hE:evT e1 e2 e3 e4 e5 oc= [e1,e2,e3,e4,e5]:=by
  unfold evT;split
  ·rename_i h0;obtain⟨_,rfl,rfl,rfl,rfl,rfl⟩:=A.no h0;rfl
  ·rfl
 obtain⟨hl,hc⟩:=XJ (k:=k) C ht R A.eq (fun h=>(A.no h).1) hx hz;rw [hE] at hl;simp only [aJv,aJo] at hl
 have K:dX (foE d0 d1 s k t m rZ vK ea eb x) afH= .out (if oc≠0/\e1=t/\e2=rZ/\e3=vK/\e4=ea/\e5=eb then [enc s',enc (fK k t (jI (Ins d1 t x) x op e2 e3 e4 oc)),1] else [enc s,enc k,0]):=by
  by_cases q4:rZ=4
  ·by_cases qa:ea=0
   ·have et:trs=4611686018427387904:=by rw [htr,aJe ⟨q4,qa⟩]
    rw [et] at hl;by_cases o0:oc=0
    ·rw [aJd (fun h=>h.1 o0)];refine bD [.eq (a0 1650 uU) Q0,Rj,.eq (a0 1750 uU) Q0,.eq cZ rY,ZA,.eq (a0 14550 mF) Q0,.eq (rr 14550 mF 0) Qa,.eq (rr 14550 mF 21) Qa,.eq (a0 1900 [bC,bK]) Q0] [.lt (.lit 20000) Qb,Ri] (ou [rr 1900 [bC,bK] 0,rr 1900 [bC,bK] 1,Qa]) (by simp only [zz,hn,hO,hN,hl,q4,qa,o0,hcp]<;>omega) (by kernel_rfl) ?_;simp only [zz,hcp]
    ·by_cases qe:e1=t/\e2=rZ/\e3=vK/\e4=ea/\e5=eb
     ·rw [aJe ⟨o0,qe⟩];refine bD [.eq (a0 1650 uU) Q0,Rj,.eq (a0 1750 uU) Q0,.eq cZ rY,ZA,.eq (a0 14550 mF) Q0,.eq (rr 14550 mF 0) Qa,.and (.eq (rr 14550 mF 16) Qf) (.and (.eq (rr 14550 mF 17) cZ) (.and (.eq (rr 14550 mF 18) dZ) (.and (.eq (rr 14550 mF 19) fQ) (.eq (rr 14550 mF 20) fP))))] [.lt (.lit 20000) Qb,Ri,.eq (rr 14550 mF 21) Qa] (ou [rr 14550 mF 22,.op .set kT (cn (mk Qf) (cn (mk (rr 14550 mF 23)) (cn mX (cn (mk (rr 14550 mF 24)) (cn (mk (rr 14550 mF 25)) (cn (mk (rr 14550 mF 26)) (cn (mk (rr 14550 mF 27)) jM))))))),Q0]) (by simp only [zz,hn,hO,hN,hl,q4,qa,o0,mJ,qe,and_self,hcp]<;>omega) (by kernel_rfl) ?_;simp only [zz,hN,hl,fK,KT.d,dU,gB,hc]
     ·rw [aJd (fun h=>qe h.2)];refine bD [.eq (a0 1650 uU) Q0,Rj,.eq (a0 1750 uU) Q0,.eq cZ rY,ZA,.eq (a0 14550 mF) Q0,.eq (rr 14550 mF 0) Qa,.eq (a0 1900 [bC,bK]) Q0] [.lt (.lit 20000) Qb,Ri,.eq (rr 14550 mF 21) Qa,.and (.eq (rr 14550 mF 16) Qf) (.and (.eq (rr 14550 mF 17) cZ) (.and (.eq (rr 14550 mF 18) dZ) (.and (.eq (rr 14550 mF 19) fQ) (.eq (rr 14550 mF 20) fP))))] (ou [rr 1900 [bC,bK] 0,rr 1900 [bC,bK] 1,Qa]) (by simp only [zz,hn,hO,hN,hl,q4,qa,o0,mJ,qe,hcp]<;>omega) (by kernel_rfl) ?_;simp only [zz,hcp]
   ·have et:trs=0:=by rw [htr,aJd (fun h=>qa h.2)]
    rw [et] at hl;by_cases o0:oc=0
    ·rw [aJd (fun h=>h.1 o0)];refine bD [.eq (a0 1650 uU) Q0,Rj,.eq (a0 1750 uU) Q0,.eq cZ rY,.eq (a0 14550 gV) Q0,.eq (rr 14550 gV 0) Qa,.eq (rr 14550 gV 21) Qa,.eq (a0 1900 [bC,bK]) Q0] [.lt (.lit 20000) Qb,Ri,ZA] (ou [rr 1900 [bC,bK] 0,rr 1900 [bC,bK] 1,Qa]) (by simp only [zz,hn,hO,hN,hl,q4,qa,o0,hcp]<;>omega) (by kernel_rfl) ?_;simp only [zz,hcp]
    ·by_cases qe:e1=t/\e2=rZ/\e3=vK/\e4=ea/\e5=eb
     ·rw [aJe ⟨o0,qe⟩];refine bD [.eq (a0 1650 uU) Q0,Rj,.eq (a0 1750 uU) Q0,.eq cZ rY,.eq (a0 14550 gV) Q0,.eq (rr 14550 gV 0) Qa,.and (.eq (rr 14550 gV 16) Qf) (.and (.eq (rr 14550 gV 17) cZ) (.and (.eq (rr 14550 gV 18) dZ) (.and (.eq (rr 14550 gV 19) fQ) (.eq (rr 14550 gV 20) fP))))] [.lt (.lit 20000) Qb,Ri,ZA,.eq (rr 14550 gV 21) Qa] (ou [rr 14550 gV 22,.op .set kT (cn (mk Qf) (cn (mk (rr 14550 gV 23)) (cn mX (cn (mk (rr 14550 gV 24)) (cn (mk (rr 14550 gV 25)) (cn (mk (rr 14550 gV 26)) (cn (mk (rr 14550 gV 27)) jM))))))),Q0]) (by simp only [zz,hn,hO,hN,hl,q4,qa,o0,mJ,qe,and_self,hcp]<;>omega) (by kernel_rfl) ?_;simp only [zz,hN,hl,fK,KT.d,dU,gB,hc]
     ·rw [aJd (fun h=>qe h.2)];refine bD [.eq (a0 1650 uU) Q0,Rj,.eq (a0 1750 uU) Q0,.eq cZ rY,.eq (a0 14550 gV) Q0,.eq (rr 14550 gV 0) Qa,.eq (a0 1900 [bC,bK]) Q0] [.lt (.lit 20000) Qb,Ri,ZA,.eq (rr 14550 gV 21) Qa,.and (.eq (rr 14550 gV 16) Qf) (.and (.eq (rr 14550 gV 17) cZ) (.and (.eq (rr 14550 gV 18) dZ) (.and (.eq (rr 14550 gV 19) fQ) (.eq (rr 14550 gV 20) fP))))] (ou [rr 1900 [bC,bK] 0,rr 1900 [bC,bK] 1,Qa]) (by simp only [zz,hn,hO,hN,hl,q4,qa,o0,mJ,qe,hcp]<;>omega) (by kernel_rfl) ?_;simp only [zz,hcp]
  ·have et:trs=0:=by rw [htr,aJd (fun h=>q4 h.1)]
   rw [et] at hl;by_cases o0:oc=0
   ·rw [aJd (fun h=>h.1 o0)];refine bD [.eq (a0 1650 uU) Q0,Rj,.eq (a0 1750 uU) Q0,.eq (a0 14550 gV) Q0,.eq (rr 14550 gV 0) Qa,.eq (rr 14550 gV 21) Qa,.eq (a0 1900 [bC,bK]) Q0] [.lt (.lit 20000) Qb,Ri,.eq cZ rY] (ou [rr 1900 [bC,bK] 0,rr 1900 [bC,bK] 1,Qa]) (by simp only [zz,hn,hO,hN,hl,q4,o0,hcp]<;>omega) (by kernel_rfl) ?_;simp only [zz,hcp]
   ·by_cases qe:e1=t/\e2=rZ/\e3=vK/\e4=ea/\e5=eb
    ·rw [aJe ⟨o0,qe⟩];refine bD [.eq (a0 1650 uU) Q0,Rj,.eq (a0 1750 uU) Q0,.eq (a0 14550 gV) Q0,.eq (rr 14550 gV 0) Qa,.and (.eq (rr 14550 gV 16) Qf) (.and (.eq (rr 14550 gV 17) cZ) (.and (.eq (rr 14550 gV 18) dZ) (.and (.eq (rr 14550 gV 19) fQ) (.eq (rr 14550 gV 20) fP))))] [.lt (.lit 20000) Qb,Ri,.eq cZ rY,.eq (rr 14550 gV 21) Qa] (ou [rr 14550 gV 22,.op .set kT (cn (mk Qf) (cn (mk (rr 14550 gV 23)) (cn mX (cn (mk (rr 14550 gV 24)) (cn (mk (rr 14550 gV 25)) (cn (mk (rr 14550 gV 26)) (cn (mk (rr 14550 gV 27)) jM))))))),Q0]) (by simp only [zz,hn,hO,hN,hl,q4,o0,mJ,qe,and_self,hcp]<;>omega) (by kernel_rfl) ?_;simp only [zz,hN,hl,fK,KT.d,dU,gB,hc]
    ·rw [aJd (fun h=>qe h.2)];refine bD [.eq (a0 1650 uU) Q0,Rj,.eq (a0 1750 uU) Q0,.eq (a0 14550 gV) Q0,.eq (rr 14550 gV 0) Qa,.eq (a0 1900 [bC,bK]) Q0] [.lt (.lit 20000) Qb,Ri,.eq cZ rY,.eq (rr 14550 gV 21) Qa,.and (.eq (rr 14550 gV 16) Qf) (.and (.eq (rr 14550 gV 17) cZ) (.and (.eq (rr 14550 gV 18) dZ) (.and (.eq (rr 14550 gV 19) fQ) (.eq (rr 14550 gV 20) fP))))] (ou [rr 1900 [bC,bK] 0,rr 1900 [bC,bK] 1,Qa]) (by simp only [zz,hn,hO,hN,hl,q4,o0,mJ,qe,hcp]<;>omega) (by kernel_rfl) ?_;simp only [zz,hcp]
 rw [aN,auD];exact congrArg (fin L) K
end
section
variable {d0 d1 s k:D} {t:Int} {n:Nat} {rZ vK ea eb:Int} (S:Sx s k n) (hn:n<17592186043904) (C:Cd d0 d1) (ht:t<(k.l.length:Int))
include S hn C ht
end
section
variable {d0 d1 s k:D} {t:Int} {n:Nat} {rZ vK ea eb:Int} (S:Sx s k n) (hn:n<17592186043904) (h0:Wd (.sl 3) d0) (h1:Wd (.sl 4) d1)
noncomputable abbrev fcE (d0 d1 s k:D) (t rZ vK ea eb:Int):Nat->Int:=bQ L (low [enc d0,enc d1,enc s,enc k,t,rZ,vK,ea,eb])
include S
include hn h0 h1
end
section
variable {d0 d1:D} (h0:Wd (.sl 3) d0) (h1:Wd (.sl 4) d1)
include h0 h1
end
theorem alX {M mo th op arg tries aDt o c dn g:Int} {r v:D} (h:op≠4):act M mo th op arg tries o c dn g r v=act M mo th op arg aDt o c dn g r v:=by unfold act;simp only [aJd h]
theorem Zw {M mo th arg tries o c dn g:Int} {r v:D}:act M mo th 4 arg tries o c dn g r v=if o<0 then .res th c dn g r v none 1 2 else if tries<arg then .blk else .res o c dn g r v none 0 2:=rfl
theorem anD {x:D} {o c dn g o' c' IX g':Int} {r v r' v':D} (T:Tg x o c dn g r v) (T':Tg x o' c' IX g' r' v'):o=o'/\c=c'/\dn=IX/\g=g'/\r=r'/\v=v':=by have h:=T.is.symm.trans T'.is;simp only [dU,gB,D.p.injEq,D.i.injEq,and_true] at h;exact h
abbrev frT (rZ ea:Int):Int:=if rZ=4/\ea=0 then 4611686018427387904 else 0
section
variable {d0 d1 s s':D} {t op obj arg tr e1 e2 e3 e4 e5 oc:Int} {n:Nat} (h0:Wd (.sl 3) d0) (h1:Wd (.sl 4) d1) (G:Gs s n) (hn:n<17592186043904) (hop:iM .u8 op) (A:Tried d0 d1 s t op obj arg tr n s' e1 e2 e3 e4 e5 oc)
include h0 h1 G hn hop A
theorem ajA (h:op≠4) (tries:Int):Tried d0 d1 s t op obj arg tries n s' e1 e2 e3 e4 e5 oc:=by
 refine⟨?_,A.no,A.oc3,A.gs,A.len,A.n2,A.e3,A.e4⟩;have hf:=G.few (by omega:n<17592186044415)
 have e:L 400 [enc d0,enc d1,enc s,t,op,obj,arg,tries]=L 400 [enc d0,enc d1,enc s,t,op,obj,arg,tr]:=by
  by_cases hA:Acc d0 d1 s t op obj
  ·obtain⟨_,o,c,dn,g,r,v,T,hL⟩:=xG (arg:=arg) (tries:=tries) h0 h1 G.wd hf hop hA;obtain⟨_,o',c',IX,g',r',v',T',hL'⟩:=xG (arg:=arg) (tries:=tr) h0 h1 G.wd hf hop hA;obtain⟨rfl,rfl,rfl,rfl,rfl,rfl⟩:=anD T T';rw [hL,hL',alX h]
  ·rw [I8 h0 h1 G.wd hf hop hA,I8 h0 h1 G.wd hf hop hA]
 rw [e];exact A.eq
theorem Z5 (h:op=4) (hoc:oc≠0) (hr:tr<=4611686018427387904):e2=4/\Tried d0 d1 s t op obj arg (frT e2 e4) n s' e1 e2 e3 e4 e5 oc:=by
 subst h;have hf:=G.few (by omega:n<17592186044415);have hE:=A.eq;by_cases hA:Acc d0 d1 s t 4 obj
 ·obtain⟨_,o,c,dn,g,r,v,T,hL⟩:=xG (arg:=arg) (tries:=tr) h0 h1 G.wd hf hop hA;obtain⟨_,o',c',IX,g',r',v',T',hL'⟩:=xG (arg:=arg) (tries:=frT e2 e4) h0 h1 G.wd hf hop hA;obtain⟨rfl,rfl,rfl,rfl,rfl,rfl⟩:=anD T T';rw [hE,D6,Zw] at hL;rw [D6,Zw] at hL';by_cases ho:o<0
  ·rw [aJe ho] at hL hL';rw [<- hL] at hL';simp only [evA,aJf,List.cons.injEq,and_true] at hL;obtain⟨_,_,rfl,_⟩:=hL;exact⟨rfl,hL',A.no,A.oc3,A.gs,A.len,A.n2,A.e3,A.e4⟩
  ·rw [aJd ho] at hL hL';by_cases hta:tr<arg
   ·rw [aJe hta] at hL;simp only [evA,aJf,List.cons.injEq,and_true] at hL;exact absurd hL.2.2.2.2.2.2 hoc
   ·rw [aJd hta] at hL;have hL2:=hL;simp only [evA,aJf,List.cons.injEq,and_true] at hL;obtain⟨_,_,rfl,_,rfl,_⟩:=hL
    have hq: ¬(frT 4 0)<arg:=by have:frT 4 0=4611686018427387904:=rfl;omega
    rw [aJd hq,<- hL2] at hL';exact⟨rfl,hL',A.no,A.oc3,A.gs,A.len,A.n2,A.e3,A.e4⟩
 ·rw [I8 h0 h1 G.wd hf hop hA] at hE;simp only [aJf,List.cons.injEq,and_true] at hE;exact absurd hE.2.2.2.2.2.2.symm hoc
theorem XL (hoc:oc≠0) (hr:tr<=4611686018427387904):Tried d0 d1 s t op obj arg (frT e2 e4) n s' e1 e2 e3 e4 e5 oc:=by
 by_cases h:op=4
 ·exact (Z5 h0 h1 G hn hop A h hoc hr).2
 ·exact ajA h0 h1 G hn hop A h _
end
inductive sQ (d1:D) (t:Int):Nat->KT->KT->Prop
 |zero (x:KT):sQ d1 t 0 x x
 |succ (j:Nat) (x y:KT) (ho:fE d1 t x=0) (ha:low (eX d1 t x) 4=0) (h:sQ d1 t j (gW (Ins d1 t x) x) y):sQ d1 t (j+1) x y
theorem sQ.snoc {d1:D} {t:Int} {j:Nat} {x y:KT} (h:sQ d1 t j x y) (ho:fE d1 t y=0) (ha:low (eX d1 t y) 4=0):sQ d1 t (j+1) x (gW (Ins d1 t y) y):=by
 induction h with
 |zero x=>exact .succ 0 x _ ho ha (.zero _)
 |succ j x y ho' ha' _ ih=>exact .succ _ x _ ho' ha' (ih ho ha)
section
variable {d0 d1 s k:D} {t:Int} {n:Nat} {rZ vK ea eb:Int} (S:Sx s k n) (C:Cd d0 d1) (ht:t<(k.l.length:Int))
include S C ht
theorem aDX {j:Nat} {x y:KT} (h:sQ d1 t j x y): ∀m:Nat,m+j<=20000->Rt d0 d1 t x->L 2004 [t,(m:Int),enc d0,enc d1,enc s,enc k,rZ,vK,ea,eb,enc s,enc k,x.a,enc x.lc,x.w,x.o,x.g,x.tr]=L 2004 [t,((m+j:Nat):Int),enc d0,enc d1,enc s,enc k,rZ,vK,ea,eb,enc s,enc k,y.a,enc y.lc,y.w,y.o,y.g,y.tr]/\Rt d0 d1 t y:=by
 induction h with
 |zero x=>exact fun m _ R=> ⟨rfl,R⟩
 |succ j x y ho ha _ ih=> intro m hm R;have R':=(Hf C ht R (FQ R ho ha)).1;obtain⟨q1,q2⟩:=ih (m+1) (by omega) R';rw [alC S C ht R (by omega) ho ha,aZ (n:=m) (by omega),q1,show m+1+j=m+(j+1) by omega];exact⟨rfl,q2⟩
theorem aDW {j:Nat} {x y:KT} (h:sQ d1 t j x y): ∀m:Nat,m+j<=20000->Rt d0 d1 t x->x.lc.l.length=0->L 2005 [t,(m:Int),enc d0,enc d1,enc s,enc k,rZ,vK,ea,eb,enc s,enc k,x.a,enc x.lc,x.w,x.o,x.g,x.tr]=L 2005 [t,((m+j:Nat):Int),enc d0,enc d1,enc s,enc k,rZ,vK,ea,eb,enc s,enc k,y.a,enc y.lc,y.w,y.o,y.g,y.tr]/\Rt d0 d1 t y/\y.lc.l.length=0:=by
 induction h with
 |zero x=>exact fun m _ R hz=> ⟨rfl,R,hz⟩
 |succ j x y ho ha _ ih=> intro m hm R hz;obtain⟨R',hl⟩:=Hf C ht R (FQ R ho ha);obtain⟨q1,q2,q3⟩:=ih (m+1) (by omega) R' (by omega);rw [alA S C ht R hz (by omega) ho ha,aZ (n:=m) (by omega),q1,show m+1+j=m+(j+1) by omega];exact⟨rfl,q2,q3⟩
end
section
variable {d0 d1 s k:D} {t:Int} {n:Nat} {rZ vK ea eb:Int} {x:KT} (S:Sx s k n) (R:Rs d0 d1 s k t x)
include S R
theorem aAt (hp:0<x.lc.l.length):L 2000 [enc d0,enc d1,enc s,enc k,t,rZ,vK,ea,eb]=L 2004 [t,0,enc d0,enc d1,enc s,enc k,rZ,vK,ea,eb,enc s,enc k,x.a,enc x.lc,x.w,x.o,x.g,x.tr]:=by
 have h:=R.cp S;have hR:=R.yes;have ha:DF x.lc=3:=aJe hp;rw [ha] at h
 have K:dX (fcE d0 d1 s k t rZ vK ea eb) afJ= .jump 2004 [t,0,enc d0,enc d1,enc s,enc k,rZ,vK,ea,eb,enc s,enc k,x.a,enc x.lc,x.w,x.o,x.g,x.tr]:=by refine bD [.eq (a0 9050 QU) Q0,.eq rW wV,MS] [.eq rW Qa,.eq rW Q0,.eq rW nT,MQ] (ju 2004 Qq9) (by simp only [zz,h,hR]<;>omega) (by kernel_rfl) ?_;simp only [zz,h]
 rw [aN,auF];exact congrArg (fin L) K
theorem aAs (hp:x.lc.l.length=0):L 2000 [enc d0,enc d1,enc s,enc k,t,rZ,vK,ea,eb]=L 2005 [t,0,enc d0,enc d1,enc s,enc k,rZ,vK,ea,eb,enc s,enc k,x.a,enc x.lc,x.w,x.o,x.g,x.tr]:=by
 have h:=R.cp S;have hR:=R.yes;have ha:DF x.lc=4:=aJd (by omega);rw [ha] at h
 have K:dX (fcE d0 d1 s k t rZ vK ea eb) afJ= .jump 2005 [t,0,enc d0,enc d1,enc s,enc k,rZ,vK,ea,eb,enc s,enc k,x.a,enc x.lc,x.w,x.o,x.g,x.tr]:=by refine bD [.eq (a0 9050 QU) Q0,.eq rW rY,MS] [.eq rW Qa,.eq rW Q0,.eq rW nT,.eq rW wV,MQ] (ju 2005 Qq9) (by simp only [zz,h,hR]<;>omega) (by kernel_rfl) ?_;simp only [zz,h]
 rw [aN,auF];exact congrArg (fin L) K
theorem asI {j:Nat} {y:KT} (hj:j<=20000) (hl:sQ d1 t j x y) (ho:fE d1 t y=0) {op obj arg tr e1 e2 e3 e4 e5 oc:Int} {s':D} (ha:eX d1 t y= [op,obj,arg,tr,1]) (A:Tried d0 d1 s t op obj arg (frT rZ ea) n s' e1 e2 e3 e4 e5 oc) :
 L 2000 [enc d0,enc d1,enc s,enc k,t,rZ,vK,ea,eb]=some (if oc≠0/\e1=t/\e2=rZ/\e3=vK/\e4=ea/\e5=eb then [enc s',enc (fK k t (jI (Ins d1 t y) y op e2 e3 e4 oc)),1] else [enc s,enc k,0]):=by
 by_cases hp:0<x.lc.l.length
 ·obtain⟨q1,q2⟩:=aDX (rZ:=rZ) (vK:=vK) (ea:=ea) (eb:=eb) S R.c R.ht hl 0 (by omega) R.r;rw [aJR] at q1;rw [aAt S R hp,q1];exact alB S R.c R.ht q2 (by omega) ho ha rfl A
 ·obtain⟨q1,q2,q3⟩:=aDW (rZ:=rZ) (vK:=vK) (ea:=ea) (eb:=eb) S R.c R.ht hl 0 (by omega) R.r (by omega);rw [aJR] at q1;rw [aAs S R (by omega),q1];exact akZ S R.c R.ht q2 q3 (by omega) ho ha rfl A
end
theorem sQ.det {d1:D} {t:Int} {j:Nat} {x y:KT} (h:sQ d1 t j x y): ∀{i:Nat} {z:KT},sQ d1 t i x z->j<=i->sQ d1 t (i-j) y z:=by
 induction h with
 |zero x=>exact fun h' _=>h'
 |succ j x y ho ha _ ih=>
  intro i z h' hij
  cases h' with
  |zero=>omega
  |succ i _ _ ho' ha' h2=> have:=ih h2 (by omega);rw [show i+1-(j+1)=i-j by omega];exact this
def alZ (d1:D) (t:Int) (y:KT):Prop:= ¬(fE d1 t y=0/\low (eX d1 t y) 4=0)
theorem sQ.le {d1:D} {t:Int} {j i:Nat} {x y z:KT} (h:sQ d1 t j x y) (h':sQ d1 t i x z) (hz:alZ d1 t z):j<=i:=by
 rcases aJx i j with hlt|hge
 ·have q:=h'.det h (by omega);obtain⟨m,hm⟩ : ∃m,j-i=m+1:=⟨j-i-1,by omega⟩;rw [hm] at q
  cases q with
  |succ _ _ _ ho ha _=>exact absurd ⟨ho,ha⟩ hz
 ·exact hge
theorem sQ.stop {d1:D} {t:Int} {j i:Nat} {x y z:KT} (h:sQ d1 t j x y) (h':sQ d1 t i x z) (hy:alZ d1 t y) (hz:alZ d1 t z):j=i/\y=z:=by have e:j=i:=Nat.le_antisymm (h.le h' hz) (h'.le h hy);subst e;have q:=h.det h' (aJi _);rw [aLn] at q;cases q;exact⟨rfl,rfl⟩
theorem abR (I:D) (x:KT):(gW I x).w=x.w/\(gW I x).o=x.o/\(gW I x).g=x.g/\(gW I x).tr=x.tr:=by
 unfold gW
 repeat' split
 all_goals exact⟨rfl,rfl,rfl,rfl⟩
theorem sQ.keeps {d1:D} {t:Int} {j:Nat} {x y:KT} (h:sQ d1 t j x y):y.w=x.w/\y.o=x.o/\y.g=x.g/\y.tr=x.tr:=by
 induction h with
 |zero x=>exact⟨rfl,rfl,rfl,rfl⟩
 |succ j x y ho ha _ ih=> obtain⟨a,b,c,d⟩:=abR (Ins d1 t x) x;obtain⟨a',b',c',d'⟩:=ih;exact⟨a'.trans a,b'.trans b,c'.trans c,d'.trans d⟩
theorem aiV {d1:D} {t:Int} {x:KT} (h:low (eX d1 t x) 4=0):x.w=0:=by
 by_cases w:x.w=0
 ·exact w
 ·unfold eX at h;rw [aJd w] at h;simp [low] at h
theorem sQ.w0 {d1:D} {t:Int} {j:Nat} {x y:KT} (h:sQ d1 t j x y) (hw:x.w≠0):j=0/\y=x:=by
 cases h with
 |zero=>exact⟨rfl,rfl⟩
 |succ j _ _ ho ha _=>exact absurd (aiV ha) hw
structure ClR (J:Nat->Int) (c c':D):Prop where
 len:c.l.length=c'.l.length
 at': ∀u:Nat,u<c.l.length->(c'.at (u:Int)).n=(c.at (u:Int)).n+J u
theorem X5 {J J':Nat->Int} {c c':D} (h:ClR J c c') (z v v':Int) (hJ: ∀u:Nat,(u:Int)≠z->J' u=J u) (hv: ∀u:Nat,(u:Int)=z->v'=v+J' u):ClR J' (dL (dY c.l z (.i v))) (dL (dY c'.l z (.i v'))):=by
 refine⟨by rw [aW,aW,dQ,dQ,h.len],fun u hu=>?_⟩;rw [aW,dQ] at hu;rw [Xm c z v hu,Xm c' z v' (by rw [<- h.len]; exact hu)];by_cases hz:(u:Int)=z
 ·rw [aJe hz,aJe hz,hv u hz]
 ·rw [aJd hz,aJd hz,h.at' u hu,hJ u hz]
theorem QG {J:Nat->Int} {c c':D} (h:ClR J c c') (u n:Int) (hJ: ∀v:Nat,(v:Int)=u->J v=0):ClR J (bump c u n) (bump c' u n):=by
 refine X5 h u _ _ (fun _ _=>rfl) fun v hv=>?_;rw [hJ v hv,aLQ];by_cases hl:v<c.l.length
 ·have:=h.at' v hl;rw [hJ v hv,aLQ,hv] at this;rw [this]
 ·have e1:c.at u= .i 0:=by rw [<- hv,lN,aJ6 (by omega)]; rfl
  have e2:c'.at u= .i 0:=by rw [<- hv,lN,aJ6 (by have:=h.len; omega)]; rfl
  rw [e1,e2]
theorem aeA {J:Nat->Int} {n:Int}: ∀(l:List D) {c c':D},ClR J c c'->(∀x∈l,∀v:Nat,(v:Int)=x.n->J v=0)->ClR J (wkB n l c) (wkB n l c')
 |[],_,_,h,_=>h
 |x::l,_,_,h,hJ=>aeA l (QG h x.n n (hJ x (by simp))) fun y hy=>hJ y (by simp [hy])
theorem aeC {J:Nat->Int} {o g n:Int}: ∀(l l':List D) (i:Nat) {c c':D},ClR J c c'->l.length=l'.length->(∀(q:Nat) (a b:D),l[q]?=some a->l'[q]?=some b->(a.hd 2).n=(b.hd 2).n/\(a.hd 3).n=(b.hd 3).n/\(a.hd 4).n=(b.hd 4).n/\((a.hd 2).n=25->J (i+q)=0))->
 ClR J (wkA o g n l i c) (wkA o g n l' i c')
 |[],[],_,_,_,h,_,_=>h
 |[],b::l',_,_,_,_,hl,_=>by simp at hl
 |a::l,[],_,_,_,_,hl,_=>by simp at hl
 |a::l,b::l',i,c,c',h,hl,hq=>by
  obtain⟨q2,q3,q4,qJ⟩:=hq 0 a b rfl rfl;unfold wkA;rw [q2,q3,q4];refine aeC l l' (i+1) ?_ (by simpa using hl) fun q a' b' ha hb=>?_
  ·by_cases hm:(b.hd 2).n=25/\(b.hd 3).n=o/\(b.hd 4).n=g
   ·rw [aJe hm,aJe hm];refine QG h _ _ fun v hv=>?_;obtain rfl:v=i:=by omega
    exact qJ (by rw [q2]; exact hm.1)
   ·rw [aJd hm,aJd hm];exact h
  ·obtain⟨r2,r3,r4,rJ⟩:=hq (q+1) a' b' (by simpa using ha) (by simpa using hb);exact⟨r2,r3,r4,fun h=>by rw [show i+1+q=i+(q+1) by omega]; exact rJ h⟩
theorem axN {J:Nat->Int} {s s' k k' c c':D} {e2 e3 e4 n:Int} (h:ClR J c c') (h13:e2=13->0<e4->∀v:Nat,(v:Int)=IntKind.i64.wrap (e4-1)->J v=0) (h14:e2=14->∀x∈((s.at e3).hd 4).l,∀v:Nat,(v:Int)=x.n->J v=0)
 (hl:k.l.length=k'.l.length) (hk: ∀q:Nat,q<k.l.length->((k.at (q:Int)).hd 2).n=((k'.at (q:Int)).hd 2).n/\((k.at (q:Int)).hd 3).n=((k'.at (q:Int)).hd 3).n/\((k.at (q:Int)).hd 4).n=((k'.at (q:Int)).hd 4).n/\(((k.at (q:Int)).hd 2).n=25->J q=0)) :
 ClR J (Rf s s' k e2 e3 e4 c n) (Rf s s' k' e2 e3 e4 c' n):=by
 unfold Rf;by_cases c13:e2=13
 ·rw [aJe c13,aJe c13];by_cases hp:0<e4
  ·rw [aJe hp,aJe hp];exact QG h _ _ (h13 c13 hp)
  ·rw [aJd hp,aJd hp];exact h
 ·rw [aJd c13,aJd c13];by_cases c14:e2=14
  ·rw [aJe c14,aJe c14];exact aeA _ h (h14 c14)
  ·rw [aJd c14,aJd c14];by_cases c15:e2=15
   ·rw [aJe c15,aJe c15];split
    ·refine aeC _ _ 0 h hl fun q a b ha hb=>?_;have hq:=(aJC.1 ha).1;have:=hk q hq;rw [lN,lN,ha,hb] at this;rw [aJp];exact this
    ·exact h
   ·rw [aJd c15,aJd c15];exact h
theorem Z8 (d0 x:D) (m:Nat) (h:agG d0 x):Snd x (kG x) m:=by obtain⟨ys,h1,h2⟩:=ajI (x.hd 0).n (x.hd 2).n (enc (x.hd 1)) (enc (x.hd 3)) (x.hd 4).n m (fun e=>(h.2.2.2.1 (.inl e)).1) h.2.2.2.2.1;rw [h2] at h1;exact h1
theorem aqP {d0 d1:D} (h0:Wd (.sl 3) d0) (h1:Wd (.sl 4) d1) (hC:L 450 [enc d0,enc d1]=some [0]) (ok:yA d0 d1):MR d0 d1 (fA d0) (iT d1):=by
 have S:=Gx h0 h1 ok
 have hl:(fA d0).l=d0.l.map kG:=by
  unfold fA;split
  ·rename_i h;rw [aJV h];rfl
  ·rw [aW]
 have hk:(iT d1).l=d1.l.map nV:=by
  unfold iT;split
  ·rename_i h;rw [aJV h];rfl
  ·rw [aW]
 refine⟨?_,Fp d1,fun i hi=>?_⟩
 ·obtain⟨b,hb,_,hi⟩:=nY h0 h1 (S.g.few (by omega)).rows;rw [hb,hi.2 ⟨hC,by rw [hl,aJZ],fun q hq=>?_⟩];have hq':q<d0.l.length:=by rw [hl,aJZ] at hq; exact hq
  have e:(fA d0).l[q]?=some (kG d0.l[q]):=by rw [hl,aJF,aJu hq'];rfl
  rw [aJu hq] at e;rw [Option.some.inj e];exact Z8 d0 _ _ (ok.2.2 _ (aJm _))
 ·have hi':i<d1.l.length:=by rw [Fp] at hi; exact hi
  have e:(iT d1).l[i]?=some (nV d1.l[i]):=by rw [hk,aJF,aJu hi'];rfl
  rw [aJu hi] at e;rw [Option.some.inj e];refine⟨aKC _,Int.natCast_nonneg _,?_,aKC _,by show (0:Int)<=_; omega,.inl ⟨rfl,rfl,rfl⟩⟩;show ((if ((d1.l[i]).hd 1).l.length=0 then (.i 2:D) else dL (List.replicate ((d1.l[i]).hd 1).l.length (.i 0))).l.length:Int)=_;split
  ·rename_i h; rw [h]; rfl
  ·rw [aW,aKr]
theorem MP {l:List D} {t:Int} (t0:0<=t) (ht:t<(l.length:Int)) (x:D):(dL (dY l t x)).at t=x:=by obtain⟨i,rfl⟩ : ∃i:Nat,t=(i:Int):=⟨t.toNat,by omega⟩;rw [lN,aW,zG (by omega)];rfl
theorem F8 {d:D} {t:Int} {u:Nat} (h:(u:Int)≠t) (x:D):(dL (dY d.l t x)).at (u:Int)=d.at (u:Int):=by rw [lN,aW,lZ h,lN]
theorem aDu {d0 d1 s s':D} {t op obj arg tr e1 e2 e3 e4 e5 oc:Int} (T:Zx d0 d1 s t op obj arg tr s' e1 e2 e3 e4 e5 oc) (hoc:oc≠0):e1=t:=by
 cases T with
 |no=>exact absurd rfl hoc
 |mis=>rfl
 |res=>rfl
def RI (d0 s k:D):Prop:= ∀o:Nat,o<s.l.length->((d0.at (o:Int)).hd 0).n=4->∀x∈((s.at (o:Int)).hd 4).l,∀u:Nat,(u:Int)=x.n->((k.at (u:Int)).hd 2).n=24/\((k.at (u:Int)).hd 3).n=(o:Int)
theorem VB {d0 s s' k:D} {t:Int} {x':KT} (I:RI d0 s k) (t0:0<=t) (ht:t<(k.l.length:Int)) (hl:s'.l.length=s.l.length)
 (h: ∀o:Nat,o<s.l.length->((d0.at (o:Int)).hd 0).n=4->∀y∈((s'.at (o:Int)).hd 4).l,(y.n=t/\x'.w=24/\x'.o=(o:Int))\/(y.n≠t/\y∈((s.at (o:Int)).hd 4).l)):RI d0 s' (fK k t x'):=fun o ho hk y hy u hu=>by
 rcases h o (by omega) hk y hy with ⟨q1,q2,q3⟩|⟨q1,q2⟩
 ·rw [hu,q1,iZ t0 ht];exact⟨q2,q3⟩
 ·rw [jE k (by omega) (by rw [hu]; exact q1)];exact I o (by omega) hk y q2 u hu
theorem aAo (x:D) (q:D):((dL (dY x.l 0 q)).hd 4)=x.hd 4:=by unfold D.hd;rw [aW];unfold dY;rw [aJd (by omega),aKS];rfl
theorem azK {s:D} {obj M o c dn g a oc:Int} {r v:D} {m:Option Int} {i:Nat} (hi:i<s.l.length) (h0:0<=obj) (h1:obj<(s.l.length:Int)):((CQ s obj M (.res o c dn g r v m a oc)).at (i:Int)).hd 4=if (i:Int)=obj then r else (s.at (i:Int)).hd 4:=by
 unfold CQ;by_cases h:(i:Int)=obj
 ·rw [aJe h,h]
  cases m with
  |none=>rw [MP h0 h1]; rfl
  |some q=>rw [MP h0 (by rw [dQ]; exact h1)]; rfl
 ·rw [aJd h]
  cases m with
  |none=>rw [F8 h]
  |some q=>
   have e:(dL (dY (dY s.l M (dL (dY (s.at M).l 0 (.i q)))) obj (dL [.i o,.i c,.i (if dn=0 then 0 else 1),.i g,r,v]))).at (i:Int)=(dL (dY s.l M (dL (dY (s.at M).l 0 (.i q))))).at (i:Int):=by rw [lN,aW,lZ h,lN,aW]
   rw [e];by_cases hM:(i:Int)=M
   ·rw [<- hM,MP (by omega) (by omega),aAo]
   ·rw [F8 hM]
theorem amN {t:Int}: ∀{l:List D} {y:D},y∈wo t l->y∈l/\y.n≠t:=by intro l y h;unfold wo at h;have:=aKh.1 h;refine⟨this.1,?_⟩;simpa using this.2
section
variable {d0 d1 s k:D} {n:Nat} (S:Sx s k n) (hn:n<17592186043800) (h0:Wd (.sl 3) d0) (h1:Wd (.sl 4) d1)
include S hn h0 h1
theorem azG {t:Int} {s' k':D} {e1 e2 e3 e4 e5 oc:Int} (I:RI d0 s k) (H:E8 d0 d1 s k t n s' k' e1 e2 e3 e4 e5 oc):RI d0 s' k':=by
 cases H with
 |no h=>exact I
 |over x R ho=>exact I
 |loc x R ho ha=> have hw:=aiV ha;refine VB I R.r.t0 R.ht rfl fun o hob hk y hy=> .inr ⟨fun he=>?_,hy⟩;obtain⟨u,hu⟩ : ∃u:Nat,(u:Int)=t:=⟨t.toNat,by have:=R.r.t0; omega⟩;have:=(I o hob hk y hy u (by rw [hu,he])).1;rw [hu,R.hk] at this;have:x.w=24:=this;omega
 |tri x R ho op obj arg tr hq k1 k2 k3 hti s' e1 e2 e3 e4 e5 oc A T=>
  have t0:=R.r.t0;obtain⟨u,hu⟩ : ∃u:Nat,(u:Int)=t:=⟨t.toNat,by omega⟩
  have hw:x.w≠0->op=x.w/\obj=x.o:=fun hw=>by unfold eX at hq;rw [aJd hw] at hq;simp only [List.cons.injEq] at hq;exact⟨hq.1.symm,hq.2.1.symm⟩
  have hin: ∀o:Nat,o<s.l.length->((d0.at (o:Int)).hd 0).n=4->∀y∈((s.at (o:Int)).hd 4).l,y.n=t->x.w=24/\x.o=(o:Int)/\op=24/\obj=(o:Int):=fun o hob hk y hy he=>by have:=I o hob hk y hy u (by rw [hu,he]);rw [hu,R.hk] at this;have a1:x.w=24:=this.1;have a2:x.o=(o:Int):=this.2;obtain⟨b1,b2⟩:=hw (by omega);exact⟨a1,a2,by omega,by omega⟩
  cases T with
  |no=>
   refine VB I t0 R.ht rfl fun o hob hk y hy=>?_;by_cases he:y.n=t
   ·obtain⟨a1,a2,_⟩:=hin o hob hk y hy he;refine .inl ⟨he,?_,?_⟩
    ·unfold jI; rw [aJe rfl]; split<;>exact a1
    ·unfold jI; rw [aJe rfl]; split<;>exact a2
   ·exact .inr ⟨he,hy⟩
  |mis A'=>
   refine VB I t0 R.ht rfl fun o hob hk y hy=> .inr ⟨fun he=>?_,hy⟩;obtain⟨_,_,a3,_⟩:=hin o hob hk y hy he;obtain⟨_,q1,q2,q3,q4,q5,q6,T',hL⟩:=xG (arg:=arg) (tries:=tr) h0 h1 S.g.wd (S.g.few (by omega)) k1 A';rw [A.eq,D6] at hL;subst a3;have:act (Mx d0 e3) (Mo d0 s e3) t 24 arg tr q1 q2 q3 q4 q5 q6=if place q5 t<0 then (if Mo d0 s e3<0 then .res q1 q2 q3 q4 q5 q6 (some t) 0 2 else .blk) else .blk:=rfl;rw [this] at hL;split at hL
   ·split at hL
    ·simp only [evA,aJf,List.cons.injEq] at hL;omega
    ·simp only [evA,aJf,List.cons.injEq] at hL;omega
   ·simp only [evA,aJf,List.cons.injEq] at hL;omega
  |res A' o c dn g r v o' c' IX g' r' v' m a oc T' hB=>
   have AQ:=A'.o0;have AP:=A'.o1;refine VB I t0 R.ht (Oh _ _ _ _) fun i hi hk y hy=>?_;rw [azK hi AQ AP] at hy;by_cases hio:(i:Int)=e3
   ·rw [aJe hio] at hy;have hrow:((s.at (i:Int)).hd 4)=r:=by rw [hio,T'.is]; rfl
    rw [hrow];have hk4:kindOf e2=4:=by rw [A'.k,<- hio]; exact hk
    have hcs:e2=12\/e2=13\/e2=14\/e2=24:=by rcases OJ k1.1 hk4 (by omega) with h|h|h|h|h|h|h|h|h<;>omega
    have nin:e2≠24->∀y∈r.l,y.n≠t:=fun h24 y hy he=>by obtain⟨_,_,a3,_⟩:=hin i hi hk y (by rw [hrow]; exact hy) he;exact h24 a3
    rcases hcs with rfl|rfl|rfl|rfl
    ·have e:act (Mx d0 e3) (Mo d0 s e3) t 12 arg tr o c dn g r v=if Mo d0 s e3=t then .res o c dn g (dL (wo t r.l++ [.i t])) v (some (-1)) 0 3 else .mis:=rfl;rw [e] at hB;split at hB
     ·simp only [Act.res.injEq] at hB;obtain⟨_,_,_,_,rfl,_,_,_,rfl⟩:=hB;rw [aW] at hy;rcases aJ0.1 hy with h|h
      ·exact .inr ⟨(amN h).2,(amN h).1⟩
      ·simp only [aJq,aJ4,or_false] at h;subst h
       have w0:x.w=0:=by
        by_cases w:x.w=0
        ·exact w
        ·have:=(hw w).1;have:=R.r.ok.2.2.2.2.2;omega
       refine .inl ⟨rfl,?_,?_⟩
       ·unfold jI;rw [aJd (by omega),aJe w0];rfl
       ·unfold jI;rw [aJd (by omega),aJe w0];exact hio.symm
     ·cases hB
    ·have e:act (Mx d0 e3) (Mo d0 s e3) t 13 arg tr o c dn g r v=if (r.l.length:Int)=0 then .res o c dn g r v none 0 2 else .res o c dn g (fJ r (r.l.drop 1)) v none (IntKind.i64.wrap ((r.at 0).n+1)) 2:=rfl;rw [e] at hB
     have hsub:y∈r.l:=by
      split at hB
      ·simp only [Act.res.injEq] at hB;obtain⟨_,_,_,_,rfl,_⟩:=hB;exact hy
      ·simp only [Act.res.injEq] at hB;obtain⟨_,_,_,_,rfl,_⟩:=hB;rw [jC] at hy;exact aJT hy
     exact .inr ⟨nin (by omega) y hsub,hsub⟩
    ·have e:act (Mx d0 e3) (Mo d0 s e3) t 14 arg tr o c dn g r v= .res o c dn g (.i 1) v none (r.l.length:Int) 2:=rfl;rw [e] at hB;simp only [Act.res.injEq] at hB;obtain⟨_,_,_,_,rfl,_⟩:=hB;simp [D.l] at hy
    ·have e:act (Mx d0 e3) (Mo d0 s e3) t 24 arg tr o c dn g r v=if place r t<0 then (if Mo d0 s e3<0 then .res o c dn g r v (some t) 0 2 else .blk) else .blk:=rfl;rw [e] at hB;split at hB
     ·rename_i hp;split at hB
      ·simp only [Act.res.injEq] at hB;obtain⟨_,_,_,_,rfl,_⟩:=hB;exact .inr ⟨Oj hp y hy,hy⟩
      ·cases hB
     ·cases hB
   ·rw [aJd hio] at hy;refine .inr ⟨fun he=>?_,hy⟩;obtain⟨_,_,_,a4⟩:=hin i hi hk y hy he;exact hio a4.symm
end
structure KS where
 s:D
 k:D
 c:D
structure Rep (d1:D) (B P:KS):Prop where
 s:P.s=B.s
 lk:P.k.l.length=d1.l.length
 bk:B.k.l.length=d1.l.length
 lc:P.c.l.length=d1.l.length
 bc:B.c.l.length=d1.l.length
 th: ∀u:Nat,u<d1.l.length->∃(X y:KT) (j:Nat),B.k.at (u:Int)=X.d/\P.k.at (u:Int)=y.d/\sQ d1 (u:Int) j X y/\(P.c.at (u:Int)).n=(B.c.at (u:Int)).n+(j:Int)
structure Zy (d0 d1:D) (n:Nat) (B P:KS) (t:Int) (x:KT) (op obj arg tr:Int) (s':D) (e1 e2 e3 e4 e5 oc:Int):Prop where
 S:Sx P.s P.k n
 hn:n<10000
 K:KR d0 d1 P.s P.k P.c
 R:Rs d0 d1 P.s P.k t x
 rep:Rep d1 B P
 ri:RI d0 P.s P.k
 hc: ∀u:Nat,u<P.c.l.length->(P.c.at (u:Int)).n<=LC
 ho:fE d1 t x=0
 ha:EM P.s t x=0
 hq:eX d1 t x= [op,obj,arg,tr,1]
 ht:II (Bz d0 d1 P.s P.k) P.c t
 hm:(P.c.at t).n≠LC
 k1:iM .u8 op
 A:Tried d0 d1 P.s t op obj arg tr n s' e1 e2 e3 e4 e5 oc
 T:Zx d0 d1 P.s t op obj arg tr s' e1 e2 e3 e4 e5 oc
noncomputable def nxB (d1:D) (B:KS) (cl t:Int) (x:KT) (op:Int) (s':D) (e2 e3 e4 oc:Int):KS:=
 ⟨s',fK B.k t (jI (Ins d1 t x) x op e2 e3 e4 oc),Rf B.s s' (fK B.k t (jI (Ins d1 t x) x op e2 e3 e4 oc)) e2 e3 e4 (dL (dY B.c.l t (.i (cl+1)))) (cl+1)⟩
abbrev Uu (e1 e2 e3 e4 e5 oc:Int):List D:=if oc=2\/oc=3 then [evD e1 e2 e3 e4 e5] else []
theorem zT {d1:D} {t:Int} {x:KT} {a b c e:Int} (h:eX d1 t x= [a,b,c,e,1]):alZ d1 t x:=fun q=>by rw [h] at q;have:low [a,b,c,e,1] 4=(1:Int):=rfl;omega
theorem Ji {d1:D} {t:Int} {x:KT} (h:fE d1 t x=1):alZ d1 t x:=fun q=>by omega
section
variable {d0 d1:D} (h0:Wd (.sl 3) d0) (h1:Wd (.sl 4) d1)
include h0 h1
theorem Xh {s k:D} {n:Nat} {t:Int} {x:KT} (S:Sx s k n) (hn:n<10000) (M:MR d0 d1 s k) (R:Rs d0 d1 s k t x):Bz d0 d1 s k t=alU d1 s t x:=by have hle:=(MR.code h0 h1 (S.g.few (by omega)).rows M).2;unfold Bz;rw [UE S (by omega) R hle];rfl
theorem aeH {n n':Nat} {B P P':KS} {t t' op obj arg tr e1 e2 e3 e4 e5 oc op' azW arg' tr' f1 f2 f3 f4 f5 oc':Int} {x x':KT} {s' s'':D} (a:Zy d0 d1 n B P t x op obj arg tr s' e1 e2 e3 e4 e5 oc) (a':Zy d0 d1 n' B P' t' x' op' azW arg' tr' s'' f1 f2 f3 f4 f5 oc') (hne:t≠t') :
 (P.c.at t).n<(P'.c.at t').n\/(P.c.at t).n=(P'.c.at t').n/\t<t':=by
 have t0:=a'.R.r.t0;have t1:=a'.R.r.t1;obtain⟨u,rfl⟩ : ∃u:Nat,t'=(u:Int):=⟨t'.toNat,by omega⟩;have hu:u<d1.l.length:=by omega
 obtain⟨X,y,j,b1,b2,b3,b4⟩:=a.rep.th u hu;obtain⟨X',y',m,b1',b2',b3',b4'⟩:=a'.rep.th u hu;have e1:=kH (b1.symm.trans b1');subst e1;have e2:=kH (b2'.symm.trans a'.R.hk);subst e2;have hst:=zT a'.hq;have hjm:=b3.le b3' hst;have M:=a.K.2.2;have R:=SN a.S (by have:=a.hn; omega) h0 h1 M t0 t1 b2;have hs:P.s=P'.s:=a.rep.s.trans a'.rep.s.symm
 have hcnt:Bz d0 d1 P.s P.k (u:Int)≠0:=by
  rw [Xh h0 h1 a.S a.hn M R]
  have q:fE d1 (u:Int) y=0/\EM P.s (u:Int) y=0:=by
   rcases aJx j m with hlt|hge
   ·have d:=b3.det b3' hjm;obtain⟨i,hi⟩ : ∃i,m-j=i+1:=⟨m-j-1,by omega⟩;rw [hi] at d
    cases d with
    |succ _ _ _ ho ha _=> refine⟨ho,?_⟩;have w:=aiV ha;unfold EM;rw [aJd (by omega),aJd (by omega)]
   ·have e:m=j:=by omega
    subst e;have d:=b3.det b3' (aJi _);rw [aLn] at d;cases d;rw [hs];exact⟨a'.ho,a'.ha⟩
  unfold alU;rw [aJd (by omega),aJe q.2];omega
 have hT:=a.ht.2 u (by rw [a.rep.lc]; exact hu);have h3: ¬((P.c.at (u:Int)).n<(P.c.at t).n\/(P.c.at (u:Int)).n=(P.c.at t).n/\(u:Int)<t):=fun h=>hcnt (hT h);omega
theorem aBv {n n':Nat} {B P P':KS} {t t' op obj arg tr e1 e2 e3 e4 e5 oc op' azW arg' tr' f1 f2 f3 f4 f5 oc':Int} {x x':KT} {s' s'':D} (a:Zy d0 d1 n B P t x op obj arg tr s' e1 e2 e3 e4 e5 oc) (a':Zy d0 d1 n' B P' t' x' op' azW arg' tr' s'' f1 f2 f3 f4 f5 oc') :
 Uu e1 e2 e3 e4 e5 oc=Uu f1 f2 f3 f4 f5 oc'/\nxB d1 B (P.c.at t).n t x op s' e2 e3 e4 oc=nxB d1 B (P'.c.at t').n t' x' op' s'' f2 f3 f4 oc':=by
 have ht:t=t':=by
  by_cases h:t=t'
  ·exact h
  ·have q:=aeH h0 h1 a a' h;have q':=aeH h0 h1 a' a (Ne.symm h);omega
 subst ht;have t0:=a.R.r.t0;have t1:=a.R.r.t1;obtain⟨u,rfl⟩ : ∃u:Nat,t=(u:Int):=⟨t.toNat,by omega⟩;obtain⟨X,y,j,b1,b2,b3,b4⟩:=a.rep.th u (by omega);obtain⟨X',y',m,b1',b2',b3',b4'⟩:=a'.rep.th u (by omega);obtain rfl:=kH (b1.symm.trans b1');obtain rfl:=kH (b2.symm.trans a.R.hk);obtain rfl:=kH (b2'.symm.trans a'.R.hk);obtain⟨rfl,rfl⟩:=b3.stop b3' (zT a.hq) (zT a'.hq);have hs:P.s=P'.s:=a.rep.s.trans a'.rep.s.symm;have hq:=a.hq.symm.trans a'.hq;simp only [List.cons.injEq,and_true] at hq;obtain⟨rfl,rfl,rfl,rfl⟩:=hq;have hA:=a.A.eq;rw [hs,a'.A.eq] at hA;simp only [aJf,List.cons.injEq,and_true] at hA;obtain⟨q,rfl,rfl,rfl,rfl,rfl,rfl⟩:=hA;obtain rfl:=jB q;rw [b4,b4'];exact⟨rfl,rfl⟩
end
theorem adZ (n:Int): ∀(l:List D) (c:D),(wkB n l c).l.length=c.l.length
 |[],_=>rfl
 |x::l,c=>(adZ n l _).trans (uO _ _ _)
theorem aeB (o g n:Int): ∀(l:List D) (i:Nat) (c:D),(wkA o g n l i c).l.length=c.l.length
 |[],_,_=>rfl
 |x::l,i,c=>by
  unfold wkA;rw [aeB o g n l];split
  ·exact uO _ _ _
  ·rfl
theorem LH (s s' k:D) (e2 e3 e4:Int) (c:D) (n:Int):(Rf s s' k e2 e3 e4 c n).l.length=c.l.length:=by
 unfold Rf
 repeat' split
 all_goals first |rfl|exact uO _ _ _|exact adZ _ _ _|exact aeB _ _ _ _ _ _
section
variable {d0 d1:D} (h0:Wd (.sl 3) d0) (h1:Wd (.sl 4) d1)
include h0 h1
theorem azI {n:Nat} {B P:KS} {t op obj arg tr e1 e2 e3 e4 e5 oc:Int} {x:KT} {s':D} (a:Zy d0 d1 n B P t x op obj arg tr s' e1 e2 e3 e4 e5 oc) :
 Rep d1 (nxB d1 B (P.c.at t).n t x op s' e2 e3 e4 oc) ⟨s',fK P.k t (jI (Ins d1 t x) x op e2 e3 e4 oc),Rf P.s s' (fK P.k t (jI (Ins d1 t x) x op e2 e3 e4 oc)) e2 e3 e4 (tick P.c t) ((P.c.at t).n+1)⟩:=by
 have t0:=a.R.r.t0;have t1:=a.R.r.t1;have hn:=a.hn;have M:=a.K.2.2;have hle:=(MR.code h0 h1 (a.S.g.few (by omega)).rows M).2;obtain⟨u0,hu0⟩ : ∃u:Nat,(u:Int)=t:=⟨t.toNat,by omega⟩;have r:=a.rep
 have hJ: ∀v:Nat,(v:Int)≠t->v<d1.l.length->∀(X y:KT) (j:Nat),B.k.at (v:Int)=X.d->P.k.at (v:Int)=y.d->sQ d1 (v:Int) j X y->(P.c.at (v:Int)).n=(B.c.at (v:Int)).n+(j:Int)->y.w≠0->(P.c.at (v:Int)).n-(B.c.at (v:Int)).n=0:=fun v hv hvl X y j b1 b2 b3 b4 hw=>by have:=(b3.w0 (by rw [<- b3.keeps.1]; exact hw)).1;subst this;omega
 obtain⟨J,hJd⟩ : ∃J:Nat->Int,J=fun (u:Nat)=>if (u:Int)=t then 0 else (P.c.at (u:Int)).n-(B.c.at (u:Int)).n:=⟨_,rfl⟩;have J0: ∀v:Nat,(v:Int)=t->J v=0:=fun v hv=>by rw [hJd]; exact aJe hv
 have J1: ∀v:Nat,(v:Int)≠t->J v=(P.c.at (v:Int)).n-(B.c.at (v:Int)).n:=fun v hv=>by rw [hJd]; exact aJd hv
 have hrow: ∀o:Nat,o<P.s.l.length->((d0.at (o:Int)).hd 0).n=4->∀y∈((P.s.at (o:Int)).hd 4).l,∀v:Nat,(v:Int)=y.n->J v=0:=fun o ho hk y hy v hv=>by
  by_cases hvt:(v:Int)=t
  ·exact J0 v hvt
  ·have hin:=(aaZ a.S (by omega) h0 h1 M (by omega:(0:Int)<=(o:Int)) (by omega)).1 y hy;have hvl:v<d1.l.length:=by omega
   obtain⟨X,z,j,b1,b2,b3,b4⟩:=r.th v hvl;have hw:=(a.ri o ho hk y hy v hv).1;rw [b2] at hw;have hw':z.w=24:=hw;rw [J1 v hvt];exact hJ v hvt hvl X z j b1 b2 b3 b4 (by omega)
 have base:ClR J (dL (dY B.c.l t (.i ((P.c.at t).n+1)))) (tick P.c t):=
  X5 (J:=fun (u:Nat)=>(P.c.at (u:Int)).n-(B.c.at (u:Int)).n) ⟨by rw [r.bc,r.lc],fun u _=>by omega⟩ t _ _ (fun u hu=>J1 u hu) fun u hu=>by rw [J0 u hu]; omega
 have cl:ClR J (nxB d1 B (P.c.at t).n t x op s' e2 e3 e4 oc).c (Rf P.s s' (fK P.k t (jI (Ins d1 t x) x op e2 e3 e4 oc)) e2 e3 e4 (tick P.c t) ((P.c.at t).n+1)):=by
  unfold nxB;rw [r.s];refine axN base (fun h13 hp v hv=>?_) (fun h14 y hy v hv=>?_) (by rw [gG,gG,r.bk,r.lk]) fun q hq=>?_
  ·have T:=a.T;have A:=a.A
   cases T with
   |no=>omega
   |mis=>omega
   |res A' o c dn g r' v' o2 c2 dn2 g2 r2 v2 m aa oc2 T' hB=>
    subst h13;have e:act (Mx d0 obj) (Mo d0 P.s obj) t 13 arg tr o c dn g r' v'=if (r'.l.length:Int)=0 then .res o c dn g r' v' none 0 2 else .res o c dn g (fJ r' (r'.l.drop 1)) v' none (IntKind.i64.wrap ((r'.at 0).n+1)) 2:=rfl;rw [e] at hB;have a0:=A'.o0;have a1:=A'.o1;obtain⟨i,hi⟩ : ∃i:Nat,(i:Int)=obj:=⟨obj.toNat,by omega⟩;have hr4:((P.s.at (i:Int)).hd 4)=r':=by rw [hi,T'.is]; rfl
    have hk4:((d0.at (i:Int)).hd 0).n=4:=by rw [hi,<- A'.k]; rfl
    have hin:=(aaZ a.S (by omega) h0 h1 M a0 a1).1;rw [<- hi,hr4] at hin;have h16:=(DX h0 h1 a.S.g (by omega) M.1).2.1.2.1;split at hB
    ·simp only [Act.res.injEq] at hB;omega
    ·simp only [Act.res.injEq] at hB;have hm:r'.at 0∈r'.l:=VU (aKC 0) (by omega);obtain⟨q0,q1⟩:=hin _ hm;have h2:=hB.2.2.2.2.2.2.2.1;rw [mY (by omega) (by omega)] at h2;rw [<- h2,mY (by omega) (by omega)] at hv;exact hrow i (by omega) hk4 (r'.at 0) (by rw [hr4]; exact hm) v (by omega)
  ·have T:=a.T
   cases T with
   |no=>omega
   |mis=>omega
   |res A' o c dn g r' v' o2 c2 dn2 g2 r2 v2 m aa oc2 T' hB=>
    subst h14;have a0:=A'.o0;have a1:=A'.o1;obtain⟨i,hi⟩ : ∃i:Nat,(i:Int)=obj:=⟨obj.toNat,by omega⟩;have hk4:((d0.at (i:Int)).hd 0).n=4:=by rw [hi,<- A'.k]; rfl
    rw [<- r.s,<- hi] at hy;exact hrow i (by omega) hk4 y hy v hv
  ·rw [gG,r.bk] at hq;by_cases hqt:(q:Int)=t
   ·rw [hqt,iZ t0 (by rw [r.bk]; omega),iZ t0 (by rw [r.lk]; omega)];exact⟨rfl,rfl,rfl,fun _=>J0 q hqt⟩
   ·rw [jE _ (by omega) hqt,jE _ (by omega) hqt];obtain⟨X,z,j,b1,b2,b3,b4⟩:=r.th q hq;rw [b1,b2];obtain⟨k1,k2,k3,_⟩:=b3.keeps;refine⟨k1.symm,k2.symm,k3.symm,fun hw=>?_⟩;have hw':X.w=25:=hw;rw [J1 q hqt];exact hJ q hqt hq X z j b1 b2 b3 b4 (by omega)
 refine⟨rfl,(gG _ _ _).trans r.lk,(gG _ _ _).trans r.bk,?_,?_,fun u hu=>?_⟩
 ·show (Rf _ _ _ _ _ _ _ _).l.length=_;rw [LH,BX,r.lc]
 ·show (Rf _ _ _ _ _ _ _ _).l.length=_;rw [LH,aW,dQ,r.bc]
 ·have hcl:=cl.at' u (by unfold nxB; show u<(Rf _ _ _ _ _ _ _ _).l.length; rw [LH,aW,dQ,r.bc]; exact hu);by_cases hut:(u:Int)=t
  ·refine⟨jI (Ins d1 t x) x op e2 e3 e4 oc,jI (Ins d1 t x) x op e2 e3 e4 oc,0,?_,?_,.zero _,?_⟩
   ·show (fK B.k t _).at (u:Int)=_;rw [hut,iZ t0 (by rw [r.bk]; omega)]
   ·show (fK P.k t _).at (u:Int)=_;rw [hut,iZ t0 (by rw [r.lk]; omega)]
   ·rw [J0 u hut] at hcl;exact hcl
  ·obtain⟨X,z,j,b1,b2,b3,b4⟩:=r.th u hu;refine⟨X,z,j,?_,?_,b3,?_⟩
   ·show (fK B.k t _).at (u:Int)=_;rw [jE _ (by omega) hut,b1]
   ·show (fK P.k t _).at (u:Int)=_;rw [jE _ (by omega) hut,b2]
   ·rw [J1 u hut] at hcl;rw [hcl];omega
inductive BF (d0 d1:D):KS->List D->KS->Prop
 |mk {n:Nat} {B P:KS} {t:Int} {x:KT} {op obj arg tr:Int} {s':D} {e1 e2 e3 e4 e5 oc:Int} (a:Zy d0 d1 n B P t x op obj arg tr s' e1 e2 e3 e4 e5 oc):BF d0 d1 B (Uu e1 e2 e3 e4 e5 oc) (nxB d1 B (P.c.at t).n t x op s' e2 e3 e4 oc)
theorem BF.uni {B B1 B2:KS} {es fs:List D} (a:BF d0 d1 B es B1) (b:BF d0 d1 B fs B2):es=fs/\B1=B2:=by
 cases a with
 |mk a=>
  cases b with
  |mk b=>exact aBv h0 h1 a b
end
inductive Path (d0 d1:D):KS->List (List D)->KS->Prop
 |nil (B:KS):Path d0 d1 B [] B
 |cons {B B1 B2:KS} {e:List D} {es:List (List D)} (a:BF d0 d1 B e B1) (p:Path d0 d1 B1 es B2):Path d0 d1 B (e::es) B2
theorem Path.snoc {d0 d1:D} {B B1 B2:KS} {e:List D} {es:List (List D)} (p:Path d0 d1 B es B1) (a:BF d0 d1 B1 e B2):Path d0 d1 B (es++ [e]) B2:=by
 induction p with
 |nil B=>exact .cons a (.nil _)
 |cons b _ ih=>exact .cons b (ih a)
theorem Path.det {d0 d1:D} (h0:Wd (.sl 3) d0) (h1:Wd (.sl 4) d1) {B B1:KS} {es:List (List D)} (p:Path d0 d1 B es B1): ∀{fs:List (List D)} {B2:KS},Path d0 d1 B fs B2->es.length<=fs.length->∃gs,fs=es++gs/\Path d0 d1 B1 gs B2:=by
 induction p with
 |nil B=>exact fun q _=> ⟨_,rfl,q⟩
 |cons a _ ih=>
  intro fs B2 q hl
  cases q with
  |nil=>simp at hl
  |cons b q=> obtain⟨rfl,rfl⟩:=a.uni h0 h1 b;obtain⟨gs,rfl,q'⟩:=ih q (by simpa using hl);exact⟨gs,rfl,q'⟩
theorem agF (d1:D) (t:Int) (x:KT) (r:Int):fE d1 t { x with tr:=r }=fE d1 t x:=rfl
theorem azY (d1:D) (t:Int) (x:KT) (r:Int):low (eX d1 t { x with tr:=r }) 4=low (eX d1 t x) 4:=by
 show low (if x.w=0 then if x.a=(Nc d1 t:Int) then [0,0,0,0,0] else if ((Ins d1 t x).hd 0).n=1 then [((Ins d1 t x).hd 1).n,((Ins d1 t x).hd 2).n,QL ((Ins d1 t x).hd 6) x.lc,r,1] else if ((Ins d1 t x).hd 0).n=2 then [26,((Ins d1 t x).hd 2).n,0,0,1] else [0,0,0,0,0] else [x.w,x.o,x.g,0,1]) 4=low (eX d1 t x) 4;unfold eX
 repeat' split
 all_goals rfl
theorem aqN {d1:D} {t:Int} {x:KT} {r op obj arg tr:Int} (h:eX d1 t { x with tr:=r }= [op,obj,arg,tr,1]): ∃tr',eX d1 t x= [op,obj,arg,tr',1]:=by
 have e:eX d1 t { x with tr:=r }=(if x.w=0 then if x.a=(Nc d1 t:Int) then [0,0,0,0,0] else if ((Ins d1 t x).hd 0).n=1 then [((Ins d1 t x).hd 1).n,((Ins d1 t x).hd 2).n,QL ((Ins d1 t x).hd 6) x.lc,r,1] else if ((Ins d1 t x).hd 0).n=2 then [26,((Ins d1 t x).hd 2).n,0,0,1] else [0,0,0,0,0] else [x.w,x.o,x.g,0,1]):=rfl;rw [e] at h;unfold eX
 repeat' split at h
 all_goals (simp only [List.cons.injEq] at h; obtain⟨rfl,rfl,rfl,rfl,h⟩:=h)
 all_goals first
  |(exfalso; omega)
  |skip
 ·rename_i h1 h2 h3;exact⟨x.tr,by rw [aJe h1,aJd h2,aJe h3]⟩
 ·rename_i h1 h2 h3 h4;exact⟨0,by rw [aJe h1,aJd h2,aJd h3,aJe h4]⟩
 ·rename_i h1;exact⟨0,by rw [aJd h1]⟩
theorem aAd (I:D) (x:KT) (r:Int):gW I { x with tr:=r }= { gW I x with tr:=r }:=by
 unfold gW
 repeat' split
 all_goals rfl
theorem axW (I:D) (x:KT) (r op e2 e3 e4 oc:Int) (h:oc≠0):jI I { x with tr:=r } op e2 e3 e4 oc=jI I x op e2 e3 e4 oc:=by unfold jI;rw [aJd h,aJd h]
theorem axX (I:D) (x:KT) (op e2 e3 e4:Int): ∃r,jI I x op e2 e3 e4 0= { x with tr:=r }:=by
 unfold jI;rw [aJe rfl];split
 ·exact⟨_,rfl⟩
 ·exact⟨x.tr,rfl⟩
inductive Run (d0 d1 s k:D):List D->D->D->Prop
 |nil:Run d0 d1 s k [] s k
 |snoc {l:List D} {s1 k1 s2 k2:D} {e1 e2 e3 e4 e5:Int} (r:Run d0 d1 s k l s1 k1) (h:L 2000 [enc d0,enc d1,enc s1,enc k1,e1,e2,e3,e4,e5]=some [enc s2,enc k2,1]):Run d0 d1 s k (l++ [evD e1 e2 e3 e4 e5]) s2 k2
def QW (d0 d1:D) (P:KS):Prop:= ∃(t:Int) (x:KT),Rs d0 d1 P.s P.k t x/\II (Bz d0 d1 P.s P.k) P.c t/\(P.c.at t).n=LC
structure Pl (d0 d1:D) (B0:KS) (i:Nat) (es:List (List D)) (B P:KS):Prop where
 path:Path d0 d1 B0 es B
 rep:Rep d1 B P
 S:Sx P.s P.k i
 K:KR d0 d1 P.s P.k P.c
 ri:RI d0 P.s P.k
 C:Ck LC P.c
 ll:es.flatten.length<=i
 el:es.length<=i
 fr: ∃F:D,Run d0 d1 B0.s B0.k es.flatten P.s F/\Sx P.s F i/\MR d0 d1 P.s F/\∀u:Nat,u<d1.l.length->∃(z y:KT) (j:Nat) (r:Int),F.at (u:Int)=z.d/\P.k.at (u:Int)=KT.d { y with tr:=r }/\sQ d1 (u:Int) j z y/\j<=i
theorem Pl.mono {d0 d1:D} {B0 B P:KS} {i i':Nat} {es:List (List D)} (h:Pl d0 d1 B0 i es B P) (hi:i<=i'):Pl d0 d1 B0 i' es B P:=by refine⟨h.path,h.rep,h.S.mono hi,h.K,h.ri,h.C,aJO h.ll hi,aJO h.el hi,?_⟩;obtain⟨F,f1,f2,f3,f4⟩:=h.fr;refine⟨F,f1,f2.mono hi,f3,fun u hu=>?_⟩;obtain⟨z,y,j,r,a,b,c,d⟩:=f4 u hu;exact⟨z,y,j,r,a,b,c,by omega⟩
section
variable {d0 d1:D} (h0:Wd (.sl 3) d0) (h1:Wd (.sl 4) d1)
include h0 h1
theorem azN {B0 B P:KS} {i:Nat} {es:List (List D)} (hi:i<5000) (h:Pl d0 d1 B0 i es B P) {t:Int} (t0:0<=t) (t1:t<(d1.l.length:Int)): ∃(s' k' c':D) (e1 e2 e3 e4 e5 oc er:Int),L 3100 [enc d0,enc d1,enc P.s,enc P.k,enc P.c,t]=some [enc s',enc k',enc c',e1,e2,e3,e4,e5,oc,er]/\
 ((er=0/\∃(es':List (List D)) (B':KS),Pl d0 d1 B0 (i+1) es' B' ⟨s',k',c'⟩/\es'.flatten=es.flatten++Uu e1 e2 e3 e4 e5 oc)\/(er=131/\QW d0 d1 P)):=by
 obtain⟨s',k',c',e1,e2,e3,e4,e5,oc,er,hL,H⟩:=Yw h.S (by omega) h0 h1 h.C.wd t;refine⟨s',k',c',e1,e2,e3,e4,e5,oc,er,hL,?_⟩;have M:=h.K.2.2;have hlk:=h.rep.lk;have hlc:=h.rep.lc;have nil: ∀es:List (List D),es.flatten=es.flatten++([]:List D):=fun es=>(aJ1 _).symm;have ev0:Uu 0 0 0 0 0 0= []:=rfl;have ev4:Uu 0 0 0 0 0 4= []:=rfl;have ev1:Uu 0 0 0 0 0 1= []:=rfl
 cases H with
 |no hno=>exact absurd ⟨t0,t1,h.K⟩ hno
 |over x K R ho=>exact .inl ⟨rfl,es,B,h.mono (aJ2 i),by rw [ev4]; exact nil es⟩
 |asl x K R ho ha=>exact .inl ⟨rfl,es,B,h.mono (aJ2 i),by rw [ev0]; exact nil es⟩
 |wait x K R ho ha hq ht=>exact .inl ⟨rfl,es,B,h.mono (aJ2 i),by rw [ev0]; exact nil es⟩
 |full x K R ho ha ht hm=>exact .inr ⟨rfl,t,x,R,ht,hm⟩
 |go x K R ho ha hq hm s' k' e1 e2 e3 e4 e5 oc hL' H W=>
  refine .inl ⟨rfl,?_⟩;obtain⟨S',hls,aI7⟩:=NQ h.S (by omega) h0 h1 H;have M':=XZ h.S (by omega) h0 h1 M H;have ri':=azG h.S (by omega) h0 h1 h.ri H;have hp:0<P.c.l.length:=by omega
  have hcr:=h.C.at t0 (by omega);have Ct:Ck LC (tick P.c t):=afW h.C hp (by unfold LC; omega) t (by omega) (by have:=hcr.2; have:=hm; omega);have hW:axF P.s s' k' e2 e3 e4 (tick P.c t).l.length:=by rw [BX]; exact W
  have C':Ck LC (Rf P.s s' k' e2 e3 e4 (tick P.c t) ((P.c.at t).n+1)):=(aDs hW Ct (by rw [BX]; exact hp) (by unfold LC; omega) (by omega) (by have:=hcr.2; have:=hm; omega)).1;have K':KR d0 d1 s' k' (Rf P.s s' k' e2 e3 e4 (tick P.c t) ((P.c.at t).n+1)):=⟨by rw [LH,BX,hlc],fun u hu=>(C'.rng u hu).1,M'⟩;obtain⟨u0,hu0⟩ : ∃u:Nat,(u:Int)=t:=⟨t.toNat,by omega⟩;obtain⟨F,f1,f2,f3,f4⟩:=h.fr;have hFl:F.l.length=d1.l.length:=f3.2.1
  cases H with
  |no hno=>have:=R.yes; rw [hno] at this; simp at this
  |over y Ry hoy=>rw [aaY R Ry] at ho; omega
  |loc y Ry hoy hay=>
   obtain rfl:=aaY R Ry;have ec:Rf P.s P.s (fK P.k t (gW (Ins d1 t x) x)) 0 0 0 (tick P.c t) ((P.c.at t).n+1)=tick P.c t:=rfl;rw [ec] at C' K' ⊢;refine⟨es,B,⟨h.path,⟨h.rep.s,(gG _ _ _).trans hlk,h.rep.bk,(BX _ _).trans hlc,h.rep.bc,fun u hu=>?_⟩,S',K',ri',C',by have:=h.ll; omega,by have:=h.el; omega,F,f1,f2.mono (aJ2 i),f3,fun u hu=>?_⟩,by rw [ev1]; exact nil es⟩
   ·obtain⟨X,y,j,b1,b2,b3,b4⟩:=h.rep.th u hu;by_cases hut:(u:Int)=t
    ·rw [hut] at b1 b2 b3 b4;obtain rfl:=kH (b2.symm.trans R.hk);refine⟨X,_,j+1,by rw [hut]; exact b1,?_,by rw [hut]; exact b3.snoc ho hay,?_⟩
     ·show (fK P.k t _).at (u:Int)=_;rw [hut,iZ t0 R.ht]
     ·show ((tick P.c t).at (u:Int)).n=_;rw [hut,MP t0 (by omega)];show (P.c.at t).n+1=_;rw [b4];omega
    ·refine⟨X,y,j,b1,?_,b3,?_⟩
     ·show (fK P.k t _).at (u:Int)=_;rw [jE _ (by omega) hut,b2]
     ·show ((tick P.c t).at (u:Int)).n=_;rw [F8 hut];exact b4
   ·obtain⟨z,y,j,r,a1,a2,a3,a4⟩:=f4 u hu;by_cases hut:(u:Int)=t
    ·rw [hut] at a1 a2 a3;have e:=kH (a2.symm.trans R.hk);subst e;refine⟨z,gW (Ins d1 t y) y,j+1,r,by rw [hut]; exact a1,?_,by rw [hut]; exact a3.snoc (by rw [<- agF d1 t y r]; exact ho) (by rw [<- azY d1 t y r]; exact hay),by omega⟩;show (fK P.k t _).at (u:Int)=_;rw [hut,iZ t0 R.ht,<- aAd]
    ·refine⟨z,y,j,r,a1,?_,a3,by omega⟩;show (fK P.k t _).at (u:Int)=_;rw [jE _ (by omega) hut,a2]
  |tri y Ry hoy op obj arg tr hq' k1 k2 k3 hti s' e1 e2 e3 e4 e5 oc A T=>
   obtain rfl:=aaY R Ry
   have hT:II (Bz d0 d1 P.s P.k) P.c t:=by
    rcases hq with hq|hq
    ·rw [hq'] at hq;have:low [op,obj,arg,tr,1] 4=(1:Int):=rfl;omega
    ·exact hq
   have act:Zy d0 d1 i B P t x op obj arg tr s' e1 e2 e3 e4 e5 oc:=⟨h.S,by omega,h.K,R,h.rep,h.ri,fun u hu=>(h.C.rng u hu).2,ho,ha,hq',hT,hm,k1,A,T⟩;have hR:=azI h0 h1 act;have fl:(es++ [Uu e1 e2 e3 e4 e5 oc]).flatten=es.flatten++Uu e1 e2 e3 e4 e5 oc:=by simp
   refine⟨es++ [Uu e1 e2 e3 e4 e5 oc],_,⟨h.path.snoc (.mk act),hR,S',K',ri',C',?_,by rw [aJy]; have:=h.el; simpa using this,?_⟩,fl⟩
   ·rw [fl,aJy];have:(Uu e1 e2 e3 e4 e5 oc).length<=1:=by unfold Uu; split<;>simp
    have:=h.ll;omega
   ·rw [fl];rcases A.oc3 with hz|h23
    ·subst hz;obtain⟨rfl,rfl,rfl,rfl,rfl,rfl⟩:=A.no rfl;rw [ev0,aJ1];refine⟨F,f1,f2.mono (aJ2 i),f3,fun u hu=>?_⟩;obtain⟨z,y,j,r,a1,a2,a3,a4⟩:=f4 u hu;by_cases hut:(u:Int)=t
     ·rw [hut] at a2;have e:=kH (a2.symm.trans R.hk);subst e;obtain⟨r',hr'⟩:=axX (Ins d1 t { y with tr:=r }) { y with tr:=r } op 0 0 0;refine⟨z,y,j,r',a1,?_,a3,by omega⟩;show (fK P.k t _).at (u:Int)=_;rw [hut,iZ t0 R.ht,hr']
     ·refine⟨z,y,j,r,a1,?_,a3,by omega⟩;show (fK P.k t _).at (u:Int)=_;rw [jE _ (by omega) hut,a2]
    ·have hoc:oc≠0:=by omega
     have he:=aDu T hoc;have hev:Uu e1 e2 e3 e4 e5 oc= [evD e1 e2 e3 e4 e5]:=by unfold Uu; rw [aJe h23]
     rw [hev];obtain⟨z,y,j,r,a1,a2,a3,a4⟩:=f4 u0 (by omega);rw [hu0] at a1 a2 a3;have e:=kH (a2.symm.trans R.hk);subst e;obtain⟨tr',hn'⟩:=aqN hq';have RF:=SN f2 (by omega) h0 h1 f3 t0 t1 a1
     have htr:tr<=4611686018427387904:=by
      have q:=R.r.ok.2.2.2.2.1;have q':r<=4611686018427387904:=q;unfold eX at hq'
      repeat' split at hq'
      all_goals (simp only [List.cons.injEq] at hq'; obtain⟨_,_,_,hq',_⟩:=hq'; omega)
     have A':=XL h0 h1 f2.g (by omega) k1 A hoc htr;have hf:=asI (rZ:=e2) (vK:=e3) (ea:=e4) (eb:=e5) f2 RF (by omega) a3 (by rw [<- agF d1 t y r]; exact ho) hn' A';rw [aJe ⟨hoc,he,rfl,rfl,rfl,rfl⟩] at hf;have hte:jI (Ins d1 t { y with tr:=r }) { y with tr:=r } op e2 e3 e4 oc=jI (Ins d1 t y) y op e2 e3 e4 oc:=axW _ _ _ _ _ _ _ _ hoc;rw [<- hte] at hf;have hle:=(MR.code h0 h1 (h.S.g.few (by omega)).rows M).2;have hx:=aiU R.r ho;have SF:=Z7 f2 R.c R.r (by omega) hx A;have RT:=amY R.c R.r hx hle A.e3 A.e4 T;have MF:=abL f2 (by omega) f3 RT (by omega) M'.1;refine⟨_,.snoc f1 (he▸hf),SF,MF,fun u hu=>?_⟩
     ·by_cases hut:(u:Int)=t
      ·refine⟨_,jI (Ins d1 t { y with tr:=r }) { y with tr:=r } op e2 e3 e4 oc,0,(jI (Ins d1 t { y with tr:=r }) { y with tr:=r } op e2 e3 e4 oc).tr,?_,?_,.zero _,by omega⟩
       ·rw [hut,iZ t0 (by omega)]
       ·show (fK P.k t _).at (u:Int)=_;rw [hut,iZ t0 R.ht]
      ·obtain⟨z',y',j',r',b1,b2,b3,b4⟩:=f4 u hu;refine⟨z',y',j',r',?_,?_,b3,by omega⟩
       ·rw [jE _ (by omega) hut,b1]
       ·show (fK P.k t _).at (u:Int)=_;rw [jE _ (by omega) hut,b2]
end
section
variable {d0 d1:D} (h0:Wd (.sl 3) d0) (h1:Wd (.sl 4) d1)
include h0 h1
theorem akP {s k c:D} (hc:Wd (.sl 0) c) (hB:L 1450 [enc d0,enc d1]=some [enc s,enc k,0]) (S:Sx s k 0):(KR d0 d1 s k c->L 2800 [enc d0,enc d1,enc c]=some [enc s,enc k,enc c,0])/\(¬KR d0 d1 s k c->L 2800 [enc d0,enc d1,enc c]=some [enc (.i 1),enc (.i 1),enc (.i 1),2]):=by
 obtain⟨ys,hK,b,rfl,hb⟩:=TU (k:=k) h0 h1 (S.g.few (by omega)).rows hc.len;have h12: ∀z:Int,z=1\/z=2->True:=fun _ _=>trivial;rcases hb with ⟨rfl,hN⟩|⟨rfl,hY⟩
 ·refine⟨fun h=>absurd h hN,fun _=>?_⟩;rw [aN,ahT];rcases bF hc with rfl|rfl|⟨r1,r2⟩
  ·simp only [Gw,zz,hB,len1,len2,nI,iP,hK,aG]
  ·simp only [Gw,zz,hB,len1,len2,nI,iP,hK,aG]
  ·simp only [Gw,zz,hB,r1,r2,hK,aG]
 ·refine⟨fun _=>?_,fun h=>absurd hY h⟩;rw [aN,ahT];rcases bF hc with rfl|rfl|⟨r1,r2⟩
  ·simp only [Gw,zz,hB,len1,len2,nI,iP,hK,aG,aC]
  ·simp only [Gw,zz,hB,len1,len2,nI,iP,hK,aG,aC]
  ·simp only [Gw,zz,hB,r1,r2,hK,aG,aC]
theorem TV {c:D} {z:Int} (hz:z≠0) (hB:L 1450 [enc d0,enc d1]=some [enc (.i 1),enc (.i 1),z]):L 2800 [enc d0,enc d1,enc c]=some [enc (.i 1),enc (.i 1),enc (.i 1),z]:=by rw [aN,ahT];simp only [Gw,zz,hB,aJd hz,aG]
end
theorem Un {a b:D} (h:a.l=b.l) (hd:a.l.length<=140737488351232): ∀(j i:Nat),i+j=a.l.length->L 2451 [enc a,enc b,(a.l.length:Int),(i:Int)]=some [1]
 |0,i,hi=>by
  have c1: ¬(i:Int)<(a.l.length:Int):=by omega
  rw [aN,Zd];simp only [RX,zz,c1,aG]
 |j+1,i,hi=>by
  have c1:(i:Int)<(a.l.length:Int):=by omega
  have c2: ¬((i:Int)<0):=by omega
  have c3:(i:Int)<(b.l.length:Int):=by rw [<- h]; exact c1
  have w:=aZ (n:=i) (by omega);have ih:=Un h hd j (i+1) (by omega);have e:a.at (i:Int)=b.at (i:Int):=by unfold D.at; rw [h]
  rw [aN,Zd];simp only [RX,zz,c1,c2,c3,e,w,mJ,and_self,aK,ih]
theorem aFb {a b:D} (h:a.l=b.l) (hd:a.l.length<=140737488351232):L 2450 [enc a,enc b]=some [1]:=by
 have g:=Un h hd a.l.length 0 (by omega);have e:(a.l.length:Int)=(b.l.length:Int):=by rw [h]
 rw [aJR] at g;rw [aN,atY];simp only [afC,zz,e,aK];rw [e] at g;exact g
end Go.As.Try
end

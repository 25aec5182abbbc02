import Derived.Test.YtakeldbjhhiinaaGreatDoorAsZS3
set_option linter.unusedSectionVars false
set_option linter.unusedVariables false
set_option linter.unusedSimpArgs false
section
namespace Go.As.Try
open Go hiding Stat Spec shape
open Go.As
set_option maxRecDepth 100000
abbrev bt:SE:=.op .bit (mk (bH 5)) (.lit 0)
abbrev kW:SE:=wr (.add kK (.lit 1))
abbrev kL:SE:=.sub (ln (bH 7)) kW
abbrev kD:SE:=.add kK kL
abbrev kC:SE:=.op .cat (.op .cat (.op .take (bH 7) kK) (.op .drop (.op .take (bH 7) (.add kW kL)) kW)) (.op .drop (bH 7) kD)
abbrev kF:SE:=.op .fill kC (cn (mk kD) (.dat (.i 0)))
section
variable {d0 d1 s r v:D} {th op obj arg tries o c dn g:Int}
abbrev YG:List SB:=[.eq (a0 9000 [.aO 5,.aO 2]) (.lit 1),.eq (a0 350 [.aO 0,.aO 1,.aO 2]) (.lit 1),.eq (a0 600 [.aO 4]) (.lit 1),.eq (a0 550 [.aO 2]) (.lit 1),.eq (a0 900 [bH 7,.aO 3]) (.lit 1),.eq (a0 850 [bH 7,.aO 3]) (.lit 1),.lt (.aO 3) (ln (.aO 1)),.lt (.aO 5) (ln (.aO 0)),.lt (.aO 5) (ln (bH 2)),.eq (rr 600 [.aO 4] 0) (nm (ce 0 (el (.aO 0) (.aO 5)))),.lt (ln (bH 7)) (.lit 17592186044415),.lt (ln (bH 8)) (.lit 17592186044415)]
abbrev NG:List SB:=[.lt (.aO 5) (.lit 0),.eq (rr 350 [.aO 0,.aO 1,.aO 2] 0) (.lit 0),.lt (.aO 3) (.lit 0),.lt (ln (bH 7)) (ln (bH 7)),.lt (ln (bH 8)) (.add (.lit 1) (.sub (ln (bH 8)) (.lit 1))),.lt (ln (bH 7)) (.add (.lit 1) (.sub (ln (bH 7)) (.lit 1)))]
theorem fG (H:TH d0 d1 s th op obj arg tries o c dn g r v):zY (dI d0 d1 s th op obj arg tries) YG/\zW (dI d0 d1 s th op obj arg tries) NG:=by have hb:=H.hb;have h1:=H.Hl; have h2:=H.Hg; have h3:=H.Aw; have h4:=H.Au; have h5:=H.hlen; have h6:=H.hr; have h7:=H.hv; have hp:=jC r th;simp only [zz,H.hcp,H.jM,H.hR,H.hk,has_is r th hb,dM r th hb]<;>omega
abbrev YA3:List SB:=[.eq (bH 0) (.lit 3)]
abbrev NA3:List SB:=[.eq (bH 0) (.lit 0),.eq (bH 0) (.lit 1),.eq (bH 0) (.lit 2),.eq (bH 0) (.lit 4),.eq (bH 0) (.lit 5),.eq (bH 0) (.lit 6),.lt (.sub (ln (bH 7)) (.lit 1)) (.lit 0),.lt (.sub (ln (bH 8)) (.lit 1)) (.lit 0)]
theorem fA3 (H:TH d0 d1 s th op obj arg tries o c dn g r v) (hr:0<r.l.length) (hv:0<v.l.length):zY (dI d0 d1 s th op obj arg tries) YA3/\zW (dI d0 d1 s th op obj arg tries) NA3:=by have hb:=H.hb;have h1:=H.Hl; have h2:=H.Hg; have h3:=H.Aw; have h4:=H.Au; have h5:=H.hlen; have h6:=H.hr; have h7:=H.hv; have hp:=jC r th;simp only [zz,H.hcp,H.jM,H.hR,H.hk,has_is r th hb,dM r th hb,alt3 hr hv]<;>omega
abbrev YA4:List SB:=[.eq (bH 0) (.lit 4)]
abbrev NA4:List SB:=[.eq (bH 0) (.lit 0),.eq (bH 0) (.lit 1),.eq (bH 0) (.lit 2),.eq (bH 0) (.lit 3),.eq (bH 0) (.lit 5),.eq (bH 0) (.lit 6),.lt (.sub (ln (bH 7)) (.lit 1)) (.lit 0)]
theorem fA4 (H:TH d0 d1 s th op obj arg tries o c dn g r v) (hr:0<r.l.length) (hv:v.l= []):zY (dI d0 d1 s th op obj arg tries) YA4/\zW (dI d0 d1 s th op obj arg tries) NA4:=by have hb:=H.hb;have h1:=H.Hl; have h2:=H.Hg; have h3:=H.Aw; have h4:=H.Au; have h5:=H.hlen; have h6:=H.hr; have h7:=H.hv; have hp:=jC r th;simp only [zz,H.hcp,H.jM,H.hR,H.hk,has_is r th hb,dM r th hb,aIq hr hv]<;>omega
abbrev YA5:List SB:=[.eq (bH 0) (.lit 5),.lt kK (.lit 0)]
abbrev NA5:List SB:=[.eq (bH 0) (.lit 0),.eq (bH 0) (.lit 1),.eq (bH 0) (.lit 2),.eq (bH 0) (.lit 3),.eq (bH 0) (.lit 4),.eq (bH 0) (.lit 6),.lt (.sub (ln (bH 8)) (.lit 1)) (.lit 0)]
theorem fA5 (H:TH d0 d1 s th op obj arg tries o c dn g r v) (hr:r.l= []) (hv:0<v.l.length):zY (dI d0 d1 s th op obj arg tries) YA5/\zW (dI d0 d1 s th op obj arg tries) NA5:=by have hb:=H.hb;have h1:=H.Hl; have h2:=H.Hg; have h3:=H.Aw; have h4:=H.Au; have h5:=H.hlen; have h6:=H.hr; have h7:=H.hv; have hp:=jC r th;simp only [zz,H.hcp,H.jM,H.hR,H.hk,has_is r th hb,dM r th hb,aIp hr hv,DU hr]<;>omega
abbrev YA6:List SB:=[.eq (bH 0) (.lit 6),.lt kK (.lit 0)]
abbrev NA6:List SB:=[.eq (bH 0) (.lit 0),.eq (bH 0) (.lit 1),.eq (bH 0) (.lit 2),.eq (bH 0) (.lit 3),.eq (bH 0) (.lit 4),.eq (bH 0) (.lit 5)]
theorem fA6 (H:TH d0 d1 s th op obj arg tries o c dn g r v) (hr:r.l= []) (hv:v.l= []):zY (dI d0 d1 s th op obj arg tries) YA6/\zW (dI d0 d1 s th op obj arg tries) NA6:=by have hb:=H.hb;have h1:=H.Hl; have h2:=H.Hg; have h3:=H.Aw; have h4:=H.Au; have h5:=H.hlen; have h6:=H.hr; have h7:=H.hv; have hp:=jC r th;simp only [zz,H.hcp,H.jM,H.hR,H.hk,has_is r th hb,dM r th hb,aIo hr hv,DU hr]<;>omega
abbrev YM:List SB:=[.lt mtx (ln (bH 2))]
abbrev NM:List SB:=[.lt mtx (.lit 0),.eq mtx (.aO 5)]
theorem fM (H:TH d0 d1 s th op obj arg tries o c dn g r v) (ho:op=12\/op=24):zY (dI d0 d1 s th op obj arg tries) YM/\zW (dI d0 d1 s th op obj arg tries) NM:=by have hb:=H.hb;have h1:=H.Hl; have h2:=H.Hg; have h3:=H.Aw; have h4:=H.Au; have h5:=H.hlen; have h6:=H.hr; have h7:=H.hv; have hp:=jC r th; have hm:=H.hM ho;simp only [zz,H.hcp,H.jM,H.hR,H.hk,has_is r th hb,dM r th hb]<;>omega
abbrev YK0:List SB:=[.lt kK (.lit 0)]
abbrev NK0:List SB:=[]
theorem fK0 (H:TH d0 d1 s th op obj arg tries o c dn g r v) (hk:place r th<0):zY (dI d0 d1 s th op obj arg tries) YK0/\zW (dI d0 d1 s th op obj arg tries) NK0:=by have hb:=H.hb;have h1:=H.Hl; have h2:=H.Hg; have h3:=H.Aw; have h4:=H.Au; have h5:=H.hlen; have h6:=H.hr; have h7:=H.hv; have hp:=jC r th;simp only [zz,H.hcp,H.jM,H.hR,H.hk,has_is r th hb,dM r th hb]<;>omega
abbrev YK1:List SB:=[.lt kD (ln (bH 7)),.eq (.add kD (.sub (ln (bH 7)) kD)) (ln kC)]
abbrev NK1:List SB:=[.lt kK (.lit 0),.lt kW kK,.lt (ln (bH 7)) kW,.eq kK kW,.lt (ln (bH 7)) kK,.lt kW (.lit 0),.lt kL (.lit 0),.lt (ln (bH 7)) (.add kW kL),.lt (ln (bH 7)) kD,.lt kD (.lit 0),.lt (ln kC) (ln (bH 7)),.lt (.sub (ln (bH 7)) kD) (.lit 0),.lt (ln kF) kD]
theorem fK1 (H:TH d0 d1 s th op obj arg tries o c dn g r v) (hk: ¬place r th<0):zY (dI d0 d1 s th op obj arg tries) YK1/\zW (dI d0 d1 s th op obj arg tries) NK1:=by have hb:=H.hb;have h1:=H.Hl; have h2:=H.Hg; have h3:=H.Aw; have h4:=H.Au; have h5:=H.hlen; have h6:=H.hr; have h7:=H.hv; have hp:=jC r th; have hw:IntKind.i64.wrap (place r th+1)=place r th+1:=lW (by omega) (by omega);simp only [zz,H.hcp,H.jM,H.hR,H.hk,has_is r th hb,dM r th hb,gI,aW,aJa,aJc,aJt,aJ4,hw]<;>omega
abbrev dA (d0 s r v:D) (th op obj arg tries o c dn g:Int):List Int:=[enc r,th,obj,Mx d0 obj,enc (dL (dZ s.l (Mx d0 obj) (dL (dZ (s.at (Mx d0 obj)).l 0 (.i (-1)))))),op,arg,tries,o,c,dn,g,enc v]
abbrev aIv:List SB:=[.eq (a0 12000 yE) (.lit 1),.eq (rr 12000 yE 0) (.lit 0)]
abbrev aIB:List SB:=[]
theorem aIl (H:TH d0 d1 s th op obj arg tries o c dn g r v) (hd:L 12000 (dA d0 s r v th op obj arg tries o c dn g)=some (0::(dA d0 s r v th op obj arg tries o c dn g))):zY (dI d0 d1 s th op obj arg tries) aIv/\zW (dI d0 d1 s th op obj arg tries) aIB:=by have hb:=H.hb;have h1:=H.Hl; have h2:=H.Hg; have h3:=H.Aw; have h4:=H.Au; have h5:=H.hlen; have h6:=H.hr; have h7:=H.hv; have hp:=jC r th;simp only [zz,H.hcp,H.jM,H.hR,H.hk,has_is r th hb,dM r th hb,hd]<;>omega
abbrev aIw:List SB:=[.eq (a0 12000 yE) (.lit 1),.eq (rr 12000 yE 0) (.lit 1)]
abbrev aIC:List SB:=[.eq (rr 12000 yE 0) (.lit 0),.lt (rr 12000 yE 14) (.lit 0),.lt (ln (rr 12000 yE 15)) (.add (rr 12000 yE 14) (.lit 1)),.lt (.add (rr 12000 yE 14) (.lit 1)) (.lit 0),.lt (ln (.op .cat (.op .cat (.op .take (rr 12000 yE 15) (rr 12000 yE 14)) (.op .snoc (.dat (.i 0)) (mk (.aO 3)))) (.op .drop (rr 12000 yE 15) (.add (rr 12000 yE 14) (.lit 1))))) (.add (rr 12000 yE 14) (.lit 1))]
theorem aIm (H:TH d0 d1 s th op obj arg tries o c dn g r v) {n:Nat} {r1:D} (hn:n<r.l.length) (hl:r1.l.length=r.l.length) (hd:L 12000 (dA d0 s r v th op obj arg tries o c dn g)=some (1::((dA d0 s r v th op obj arg tries o c dn g)++ [(n:Int),enc r1,(r.l.length:Int)]))):zY (dI d0 d1 s th op obj arg tries) aIw/\zW (dI d0 d1 s th op obj arg tries) aIC:=by have hb:=H.hb;have h1:=H.Hl; have h2:=H.Hg; have h3:=H.Aw; have h4:=H.Au; have h5:=H.hlen; have h6:=H.hr; have h7:=H.hv; have hp:=jC r th;simp only [zz,H.hcp,H.jM,H.hR,H.hk,has_is r th hb,dM r th hb,hd,gI,aW,wY,aI8,aI1,aJa,aJc,aJt,aI5,aI7]<;>omega
abbrev aIt:List SB:=[.eq (a0 12100 yE) (.lit 1),.eq (rr 12100 yE 0) (.lit 0)]
abbrev aIz:List SB:=[]
theorem aIj (H:TH d0 d1 s th op obj arg tries o c dn g r v) (hd:L 12100 (dA d0 s r v th op obj arg tries o c dn g)=some (0::(dA d0 s r v th op obj arg tries o c dn g))):zY (dI d0 d1 s th op obj arg tries) aIt/\zW (dI d0 d1 s th op obj arg tries) aIz:=by have hb:=H.hb;have h1:=H.Hl; have h2:=H.Hg; have h3:=H.Aw; have h4:=H.Au; have h5:=H.hlen; have h6:=H.hr; have h7:=H.hv; have hp:=jC r th;simp only [zz,H.hcp,H.jM,H.hR,H.hk,has_is r th hb,dM r th hb,hd]<;>omega
abbrev aIu:List SB:=[.eq (a0 12100 yE) (.lit 1),.eq (rr 12100 yE 0) (.lit 1)]
abbrev aIA:List SB:=[.eq (rr 12100 yE 0) (.lit 0),.lt (rr 12100 yE 14) (.lit 0),.lt (ln (rr 12100 yE 15)) (.add (rr 12100 yE 14) (.lit 1)),.lt (.add (rr 12100 yE 14) (.lit 1)) (.lit 0),.lt (ln (.op .cat (.op .cat (.op .take (rr 12100 yE 15) (rr 12100 yE 14)) (.op .snoc (.dat (.i 0)) (mk (.aO 3)))) (.op .drop (rr 12100 yE 15) (.add (rr 12100 yE 14) (.lit 1))))) (.add (rr 12100 yE 14) (.lit 1))]
theorem aIk (H:TH d0 d1 s th op obj arg tries o c dn g r v) {n:Nat} {r1:D} (hn:n<r.l.length) (hl:r1.l.length=r.l.length) (hd:L 12100 (dA d0 s r v th op obj arg tries o c dn g)=some (1::((dA d0 s r v th op obj arg tries o c dn g)++ [(n:Int),enc r1,(r.l.length:Int)]))):zY (dI d0 d1 s th op obj arg tries) aIu/\zW (dI d0 d1 s th op obj arg tries) aIA:=by have hb:=H.hb;have h1:=H.Hl; have h2:=H.Hg; have h3:=H.Aw; have h4:=H.Au; have h5:=H.hlen; have h6:=H.hr; have h7:=H.hv; have hp:=jC r th;simp only [zz,H.hcp,H.jM,H.hR,H.hk,has_is r th hb,dM r th hb,hd,gI,aW,wY,aI8,aI1,aJa,aJc,aJt,aI5,aI7]<;>omega
abbrev aIs:List SB:=[.eq (a0 12200 yE) (.lit 1),.eq (rr 12200 yE 0) (.lit 0)]
abbrev aIy:List SB:=[]
theorem aIi (H:TH d0 d1 s th op obj arg tries o c dn g r v) (hd:L 12200 (dA d0 s r v th op obj arg tries o c dn g)=some (0::(dA d0 s r v th op obj arg tries o c dn g))):zY (dI d0 d1 s th op obj arg tries) aIs/\zW (dI d0 d1 s th op obj arg tries) aIy:=by have hb:=H.hb;have h1:=H.Hl; have h2:=H.Hg; have h3:=H.Aw; have h4:=H.Au; have h5:=H.hlen; have h6:=H.hr; have h7:=H.hv; have hp:=jC r th;simp only [zz,H.hcp,H.jM,H.hR,H.hk,has_is r th hb,dM r th hb,hd]<;>omega
abbrev aIr:List SB:=[.eq (a0 12300 yE) (.lit 1),.eq (rr 12300 yE 0) (.lit 0)]
abbrev aIx:List SB:=[]
theorem aIh (H:TH d0 d1 s th op obj arg tries o c dn g r v) (hd:L 12300 (dA d0 s r v th op obj arg tries o c dn g)=some (0::(dA d0 s r v th op obj arg tries o c dn g))):zY (dI d0 d1 s th op obj arg tries) aIr/\zW (dI d0 d1 s th op obj arg tries) aIx:=by have hb:=H.hb;have h1:=H.Hl; have h2:=H.Hg; have h3:=H.Aw; have h4:=H.Au; have h5:=H.hlen; have h6:=H.hr; have h7:=H.hv; have hp:=jC r th;simp only [zz,H.hcp,H.jM,H.hR,H.hk,has_is r th hb,dM r th hb,hd]<;>omega
end
theorem PE (l m:List D):fC (dL l) m=fC (.i 2) m:=by
 cases m with
 |cons a m=>rfl
 |nil=>cases l<;>rfl
theorem adG (d:D) (h:0<d.l.length):fC (fC d (d.l.take (1+((d.l.length:Int)-1)).toNat)) ((fC d (d.l.take (1+((d.l.length:Int)-1)).toNat)).l.drop (1:Int).toNat)=fC d (d.l.drop 1):=by rw [FW (fun e=>by rw [e]; rfl),gI,aJI (by omega)];rfl
theorem aE8 (l:List D) (k:Nat) (hk:k<l.length) (R B:List D):((l.take k++(l.take l.length).drop (k+1)++B).take (l.length-1)++R).take (l.length-1)=l.take k++l.drop (k+1)\/B.length=0:=by
 by_cases hB:B.length=0
 ·exact .inr hB
 ·left;have e:(l.take k++(l.take l.length).drop (k+1)).length=l.length-1:=by simp only [aJa,aJc,aJt]; omega
  rw [aKl (by rw [aJc,aJa,e]; omega),aKy,aLq,aKl (by omega),aJI (by omega),aKx]
section
variable {d0 d1 s r v:D} {th op obj arg tries o c dn g:Int}
abbrev zt0:T Lf:=(sp (.eq (bH 3) (.aO 3)) xU (sp (.eq (rr 900 [bH 7,.aO 3] 0) (.lit 0)) (sp (.lt (bH 3) (.lit 0)) (mZ (bH 2) (mk (.aO 3)) (mk (bH 4)) bt (mk (bH 6)) (bH 7) (bH 8) (.lit 0) 2) EC) xU))
theorem sm0 (H:TH d0 d1 s th 1 obj arg tries o c dn g r v):dY (dI d0 d1 s th 1 obj arg tries) zt0=Gl d0 s th 1 obj arg tries o c dn g r v:=by
 have hb:=H.hb;simp only [zz,H.hcp,H.jM,H.hR,H.hk,has_is r th hb,dM r th hb,aC,BI,fJ,dH,dG,bW,bV,dL,act,Int.reduceEq,Gl]<;>(repeat' split)<;>first |rfl|(exfalso; omega)
abbrev zt1:T Lf:=(sp (.eq (bH 3) (.aO 3)) (mZ (bH 2) (.dat (.i (-1))) (mk (bH 4)) bt (mk (bH 6)) (bH 7) (bH 8) (.lit 0) 2) xU)
theorem sm1 (H:TH d0 d1 s th 2 obj arg tries o c dn g r v):dY (dI d0 d1 s th 2 obj arg tries) zt1=Gl d0 s th 2 obj arg tries o c dn g r v:=by
 have hb:=H.hb;simp only [zz,H.hcp,H.jM,H.hR,H.hk,has_is r th hb,dM r th hb,aC,BI,fJ,dH,dG,bW,bV,dL,act,Int.reduceEq,Gl]<;>(repeat' split)<;>first |rfl|(exfalso; omega)
theorem sm2 (H:TH d0 d1 s th 8 obj arg tries o c dn g r v):dY (dI d0 d1 s th 8 obj arg tries) zt1=Gl d0 s th 8 obj arg tries o c dn g r v:=by
 have hb:=H.hb;simp only [zz,H.hcp,H.jM,H.hR,H.hk,has_is r th hb,dM r th hb,aC,BI,fJ,dH,dG,bW,bV,dL,act,Int.reduceEq,Gl]<;>(repeat' split)<;>first |rfl|(exfalso; omega)
abbrev zt2:T Lf:=(sp (.lt (bH 3) (.lit 0)) (mZ (bH 2) (mk (.aO 3)) (mk (bH 4)) bt (mk (bH 6)) (bH 7) (bH 8) (.lit 1) 2) (mZ (bH 2) (mk (bH 3)) (mk (bH 4)) bt (mk (bH 6)) (bH 7) (bH 8) (.lit 0) 2))
theorem sm3 (H:TH d0 d1 s th 3 obj arg tries o c dn g r v):dY (dI d0 d1 s th 3 obj arg tries) zt2=Gl d0 s th 3 obj arg tries o c dn g r v:=by
 have hb:=H.hb;simp only [zz,H.hcp,H.jM,H.hR,H.hk,has_is r th hb,dM r th hb,aC,BI,fJ,dH,dG,bW,bV,dL,act,Int.reduceEq,Gl]<;>(repeat' split)<;>first |rfl|(exfalso; omega)
abbrev zt3:T Lf:=(sp (.lt (bH 3) (.lit 0)) (mZ (bH 2) (mk (.aO 3)) (mk (bH 4)) bt (mk (bH 6)) (bH 7) (bH 8) (.lit 1) 2) (sp (.lt (.aO 7) (.aO 6)) EC (mZ (bH 2) (mk (bH 3)) (mk (bH 4)) bt (mk (bH 6)) (bH 7) (bH 8) (.lit 0) 2)))
theorem sm4 (H:TH d0 d1 s th 4 obj arg tries o c dn g r v):dY (dI d0 d1 s th 4 obj arg tries) zt3=Gl d0 s th 4 obj arg tries o c dn g r v:=by
 have hb:=H.hb;simp only [zz,H.hcp,H.jM,H.hR,H.hk,has_is r th hb,dM r th hb,aC,BI,fJ,dH,dG,bW,bV,dL,act,Int.reduceEq,Gl]<;>(repeat' split)<;>first |rfl|(exfalso; omega)
abbrev zt4:T Lf:=(sp (.eq (bH 3) (.aO 3)) xU (sp (.eq (rr 900 [bH 7,.aO 3] 0) (.lit 0)) (sp (.lt (bH 3) (.lit 0)) (mZ (bH 2) (mk (bH 3)) (mk (bH 4)) bt (mk (bH 6)) (.op .snoc (bH 7) (mk (.aO 3))) (bH 8) (.lit 0) 2) EC) xU))
theorem sm5 (H:TH d0 d1 s th 5 obj arg tries o c dn g r v) (hr:0<r.l.length):dY (dI d0 d1 s th 5 obj arg tries) zt4=Gl d0 s th 5 obj arg tries o c dn g r v:=by
 have hb:=H.hb;simp only [zz,H.hcp,H.jM,H.hR,H.hk,has_is r th hb,dM r th hb,wY,aI1,aC,BI,fJ,dH,dG,bW,bV,dL,act,Int.reduceEq,Gl]<;>(repeat' split)<;>first |rfl|(exfalso; omega)
abbrev zt5:T Lf:=xU
theorem sm6 (H:TH d0 d1 s th 6 obj arg tries o c dn g r v) (hk:place r th<0):dY (dI d0 d1 s th 6 obj arg tries) zt5=Gl d0 s th 6 obj arg tries o c dn g r v:=by
 have hb:=H.hb;simp only [zz,H.hcp,H.jM,H.hR,H.hk,has_is r th hb,dM r th hb,hk,aC,BI,fJ,dH,dG,bW,bV,dL,act,Int.reduceEq,Gl]<;>(repeat' split)<;>first |rfl|(exfalso; omega)
abbrev zt6:T Lf:=(mZ (bH 2) (mk (bH 3)) (mk (bH 4)) bt (mk (bH 6)) (.op .take kF kD) (bH 8) (.lit 0) 2)
theorem sm7 (H:TH d0 d1 s th 6 obj arg tries o c dn g r v) (hr:0<r.l.length) (hk: ¬place r th<0):dY (dI d0 d1 s th 6 obj arg tries) zt6=Gl d0 s th 6 obj arg tries o c dn g r v:=by
 have hb:=H.hb;rcases tZ r th with ⟨hp,_⟩|⟨k,hkl,hp,_⟩
 ·exact absurd hk (by rw [hp]; omega)
 have hw:IntKind.i64.wrap ((k:Int)+1)=(k:Int)+1:=lW (by omega) (by omega);have e1:((k:Int)+1+((r.l.length:Int)-((k:Int)+1))).toNat=r.l.length:=by omega
 have e2:((k:Int)+((r.l.length:Int)-((k:Int)+1))).toNat=r.l.length-1:=by omega
 have e3:((k:Int)+1).toNat=k+1:=by omega
 have h0: ¬((k:Int)<0):=by omega
 have hd:=fun R=>(aE8 r.l k hkl R (r.l.drop (r.l.length-1))).resolve_right (by rw [aJt]; omega);simp only [zz,H.hcp,H.jM,H.hR,H.hk,has_is r th hb,dM r th hb,hp,hw,e1,e2,e3,h0,gI,aW,aJm,hd,PE,aC,BI,fJ,dH,dG,bW,bV,dL,act,Int.reduceEq,Gl]<;>(repeat' split)<;>first |rfl|(exfalso; omega)
abbrev zt7:T Lf:=(sp (.eq (bH 3) (.aO 3)) xU (sp (.eq (rr 900 [bH 7,.aO 3] 0) (.lit 0)) (sp (.eq (ln (bH 7)) (.lit 0)) (sp (.lt (bH 3) (.lit 0)) (mZ (bH 2) (mk (.aO 3)) (mk (bH 4)) bt (mk (bH 6)) (bH 7) (bH 8) (.lit 0) 2) EC) EC) xU))
theorem sm8 (H:TH d0 d1 s th 7 obj arg tries o c dn g r v) (hr:0<r.l.length):dY (dI d0 d1 s th 7 obj arg tries) zt7=Gl d0 s th 7 obj arg tries o c dn g r v:=by
 have hb:=H.hb;simp only [zz,H.hcp,H.jM,H.hR,H.hk,has_is r th hb,dM r th hb,aC,BI,fJ,dH,dG,bW,bV,dL,act,Int.reduceEq,Gl]<;>(repeat' split)<;>first |rfl|(exfalso; omega)
abbrev zt8:T Lf:=(sp (.lt (.lit 0) (bH 4)) (mZ (bH 2) (mk (bH 3)) (mk (wr (.sub (bH 4) (.lit 1)))) bt (mk (bH 6)) (bH 7) (bH 8) (.lit 0) 2) EC)
theorem sm9 (H:TH d0 d1 s th 9 obj arg tries o c dn g r v):dY (dI d0 d1 s th 9 obj arg tries) zt8=Gl d0 s th 9 obj arg tries o c dn g r v:=by
 have hb:=H.hb;simp only [zz,H.hcp,H.jM,H.hR,H.hk,has_is r th hb,dM r th hb,aC,BI,fJ,dH,dG,bW,bV,dL,act,Int.reduceEq,Gl]<;>(repeat' split)<;>first |rfl|(exfalso; omega)
abbrev zt9:T Lf:=(sp (.lt (.lit 0) (bH 4)) (mZ (bH 2) (mk (bH 3)) (mk (wr (.sub (bH 4) (.lit 1)))) bt (mk (bH 6)) (bH 7) (bH 8) (.lit 1) 2) (mZ (bH 2) (mk (bH 3)) (mk (bH 4)) bt (mk (bH 6)) (bH 7) (bH 8) (.lit 0) 2))
theorem aHQ (H:TH d0 d1 s th 11 obj arg tries o c dn g r v):dY (dI d0 d1 s th 11 obj arg tries) zt9=Gl d0 s th 11 obj arg tries o c dn g r v:=by
 have hb:=H.hb;simp only [zz,H.hcp,H.jM,H.hR,H.hk,has_is r th hb,dM r th hb,aC,BI,fJ,dH,dG,bW,bV,dL,act,Int.reduceEq,Gl]<;>(repeat' split)<;>first |rfl|(exfalso; omega)
abbrev aFo:T Lf:=(sp (.lt (bH 4) mtx) (mZ (bH 2) (mk (bH 3)) (mk (wr (.add (bH 4) (.lit 1)))) bt (mk (bH 6)) (bH 7) (bH 8) (.lit 0) 2) xU)
theorem aHP (H:TH d0 d1 s th 10 obj arg tries o c dn g r v):dY (dI d0 d1 s th 10 obj arg tries) aFo=Gl d0 s th 10 obj arg tries o c dn g r v:=by
 have hb:=H.hb;simp only [zz,H.hcp,H.jM,H.hR,H.hk,has_is r th hb,dM r th hb,aC,BI,fJ,dH,dG,bW,bV,dL,act,Int.reduceEq,Gl]<;>(repeat' split)<;>first |rfl|(exfalso; omega)
abbrev aFm:T Lf:=(sp (.lt (.aO 6) (wr (.sub (.lit 0) (bH 4)))) xU (sp (.lt (wr (.sub (.lit 1099511627776) (bH 4))) (.aO 6)) xU (mZ (bH 2) (mk (bH 3)) (mk (wr (.add (bH 4) (.aO 6)))) bt (mk (bH 6)) (bH 7) (bH 8) (wr (.add (bH 4) (.aO 6))) 2)))
theorem aHO (H:TH d0 d1 s th 17 obj arg tries o c dn g r v):dY (dI d0 d1 s th 17 obj arg tries) aFm=Gl d0 s th 17 obj arg tries o c dn g r v:=by
 have hb:=H.hb;simp only [zz,H.hcp,H.jM,H.hR,H.hk,has_is r th hb,dM r th hb,aC,BI,fJ,dH,dG,bW,bV,dL,act,Int.reduceEq,Gl]<;>(repeat' split)<;>first |rfl|(exfalso; omega)
abbrev aFl:T Lf:=(sp (.lt (.lit 0) (bH 4)) (mZ (bH 2) (mk (bH 3)) (mk (wr (.sub (bH 4) (.lit 1)))) bt (mk (bH 6)) (bH 7) (bH 8) (wr (.sub (bH 4) (.lit 1))) 2) xU)
theorem aHN (H:TH d0 d1 s th 18 obj arg tries o c dn g r v):dY (dI d0 d1 s th 18 obj arg tries) aFl=Gl d0 s th 18 obj arg tries o c dn g r v:=by
 have hb:=H.hb;simp only [zz,H.hcp,H.jM,H.hR,H.hk,has_is r th hb,dM r th hb,aC,BI,fJ,dH,dG,bW,bV,dL,act,Int.reduceEq,Gl]<;>(repeat' split)<;>first |rfl|(exfalso; omega)
abbrev aFk:T Lf:=(sp (.eq (bH 4) (.lit 0)) (mZ (bH 2) (mk (bH 3)) (mk (bH 4)) bt (mk (bH 6)) (bH 7) (bH 8) (.lit 0) 2) EC)
theorem aHM (H:TH d0 d1 s th 19 obj arg tries o c dn g r v):dY (dI d0 d1 s th 19 obj arg tries) aFk=Gl d0 s th 19 obj arg tries o c dn g r v:=by
 have hb:=H.hb;simp only [zz,H.hcp,H.jM,H.hR,H.hk,has_is r th hb,dM r th hb,aC,BI,fJ,dH,dG,bW,bV,dL,act,Int.reduceEq,Gl]<;>(repeat' split)<;>first |rfl|(exfalso; omega)
abbrev aFj:T Lf:=(mZ (bH 2) (mk (bH 3)) (mk (bH 4)) bt (mk (bH 6)) (bH 7) (bH 8) (bH 4) 2)
theorem aHL (H:TH d0 d1 s th 22 obj arg tries o c dn g r v):dY (dI d0 d1 s th 22 obj arg tries) aFj=Gl d0 s th 22 obj arg tries o c dn g r v:=by
 have hb:=H.hb;simp only [zz,H.hcp,H.jM,H.hR,H.hk,has_is r th hb,dM r th hb,aC,BI,fJ,dH,dG,bW,bV,dL,act,Int.reduceEq,Gl]<;>(repeat' split)<;>first |rfl|(exfalso; omega)
abbrev aFi:T Lf:=(mZ (bH 2) (mk (bH 3)) (mk (.aO 6)) bt (mk (bH 6)) (bH 7) (bH 8) (.aO 6) 2)
theorem aHK (H:TH d0 d1 s th 23 obj arg tries o c dn g r v):dY (dI d0 d1 s th 23 obj arg tries) aFi=Gl d0 s th 23 obj arg tries o c dn g r v:=by
 have hb:=H.hb;simp only [zz,H.hcp,H.jM,H.hR,H.hk,has_is r th hb,dM r th hb,aC,BI,fJ,dH,dG,bW,bV,dL,act,Int.reduceEq,Gl]<;>(repeat' split)<;>first |rfl|(exfalso; omega)
abbrev aC2:T Lf:=(sp (.lt (ln (bH 8)) mtx) (mZ (bH 2) (mk (bH 3)) (mk (bH 4)) bt (mk (bH 6)) (bH 7) (.op .snoc (bH 8) (mk (.aO 6))) (.aO 6) 2) EC)
theorem aFO (H:TH d0 d1 s th 20 obj arg tries o c dn g r v) (hv:0<v.l.length):dY (dI d0 d1 s th 20 obj arg tries) aC2=Gl d0 s th 20 obj arg tries o c dn g r v:=by
 have hb:=H.hb;simp only [zz,H.hcp,H.jM,H.hR,H.hk,has_is r th hb,dM r th hb,wY,aI1,aC,BI,fJ,dH,dG,bW,bV,dL,act,Int.reduceEq,Gl]<;>(repeat' split)<;>first |rfl|(exfalso; omega)
abbrev aC1:T Lf:=(sp (.eq (ln (bH 8)) (.lit 0)) EC (mZ (bH 2) (mk (bH 3)) (mk (bH 4)) bt (mk (bH 6)) (bH 7) (.op .drop (.op .take (bH 8) (.add (.lit 1) (.sub (ln (bH 8)) (.lit 1)))) (.lit 1)) (nm (el (bH 8) (.lit 0))) 2))
theorem aFN (H:TH d0 d1 s th 21 obj arg tries o c dn g r v) (hv:0<v.l.length):dY (dI d0 d1 s th 21 obj arg tries) aC1=Gl d0 s th 21 obj arg tries o c dn g r v:=by
 have hb:=H.hb;simp only [zz,H.hcp,H.jM,H.hR,H.hk,has_is r th hb,dM r th hb,adG v hv,aC,BI,fJ,dH,dG,bW,bV,dL,act,Int.reduceEq,Gl]<;>(repeat' split)<;>first |rfl|(exfalso; omega)
abbrev aC0:T Lf:=(sp (.eq (nm (ce 0 (el (bH 2) mtx))) (.aO 3)) (mZ (aiK (.dat (.i (-1)))) (mk (bH 3)) (mk (bH 4)) bt (mk (bH 6)) (.op .snoc (bH 7) (mk (.aO 3))) (bH 8) (.lit 0) 3) xU)
theorem aFM (H:TH d0 d1 s th 12 obj arg tries o c dn g r v) (hr:0<r.l.length) (hw:wo th r.l=r.l):dY (dI d0 d1 s th 12 obj arg tries) aC0=Gl d0 s th 12 obj arg tries o c dn g r v:=by
 have hb:=H.hb;simp only [zz,H.hcp,H.jM,H.hR,H.hk,has_is r th hb,dM r th hb,hw,aW,wY,aI1,aC,BI,fJ,dH,dG,bW,bV,dL,act,Int.reduceEq,Gl]<;>(repeat' split)<;>first |rfl|(exfalso; omega)
abbrev aFh:T Lf:=(sp (.eq (nm (ce 0 (el (bH 2) mtx))) (.aO 3)) (mZ (aiK (.dat (.i (-1)))) (mk (bH 3)) (mk (bH 4)) bt (mk (bH 6)) (.op .take (.op .cat (.op .cat (.op .take (rr 12000 yE 15) (rr 12000 yE 14)) (.op .snoc (.dat (.i 0)) (mk (.aO 3)))) (.op .drop (rr 12000 yE 15) (.add (rr 12000 yE 14) (.lit 1)))) (.add (rr 12000 yE 14) (.lit 1))) (bH 8) (.lit 0) 3) xU)
theorem aHJ (H:TH d0 d1 s th 12 obj arg tries o c dn g r v) (hr:0<r.l.length) (hv:0<v.l.length) {n:Nat} {r1:D} (hn:n<r.l.length) (hl:r1.l.length=r.l.length) (hw:r1.l.take n=wo th r.l) (hd:L 12000 (dA d0 s r v th 12 obj arg tries o c dn g)=some (1::((dA d0 s r v th 12 obj arg tries o c dn g)++ [(n:Int),enc r1,(r.l.length:Int)]))):dY (dI d0 d1 s th 12 obj arg tries) aFh=Gl d0 s th 12 obj arg tries o c dn g r v:=by
 have hb:=H.hb;have e3:((n:Int)+1).toNat=n+1:=by omega
 have hA: ∀B,(wo th r.l++ [D.i th]++B).take (n+1)=wo th r.l++ [.i th]:=fun B=>by
  have:(wo th r.l++ [D.i th]).length=n+1:=by rw [<- hw]; simp only [aJa,aJc,aI5,aI7]; omega
  rw [aKl (by omega),aJI (by omega)]
 have hB:wo th r.l++ [D.i th]≠[]:=by simp
 simp only [zz,H.hcp,H.jM,H.hR,H.hk,has_is r th hb,dM r th hb,hd,aI8,e3,l_p,gI,aW,wY,aI1,aJm,hw,hA,PE,Ig hB,aC,BI,fJ,dH,dG,bW,bV,dL,act,Int.reduceEq,Gl]<;>(repeat' split)<;>first |rfl|(exfalso; omega)
abbrev aCZ:T Lf:=(sp (.eq (ln (bH 7)) (.lit 0)) (mZ (bH 2) (mk (bH 3)) (mk (bH 4)) bt (mk (bH 6)) (bH 7) (bH 8) (.lit 0) 2) (mZ (bH 2) (mk (bH 3)) (mk (bH 4)) bt (mk (bH 6)) (.op .drop (.op .take (bH 7) (.add (.lit 1) (.sub (ln (bH 7)) (.lit 1)))) (.lit 1)) (bH 8) (wr (.add (nm (el (bH 7) (.lit 0))) (.lit 1))) 2))
theorem aFL (H:TH d0 d1 s th 13 obj arg tries o c dn g r v) (hr:0<r.l.length):dY (dI d0 d1 s th 13 obj arg tries) aCZ=Gl d0 s th 13 obj arg tries o c dn g r v:=by
 have hb:=H.hb;simp only [zz,H.hcp,H.jM,H.hR,H.hk,has_is r th hb,dM r th hb,adG r hr,wY,aI1,aC,BI,fJ,dH,dG,bW,bV,dL,act,Int.reduceEq,Gl]<;>(repeat' split)<;>first |rfl|(exfalso; omega)
abbrev aCY:T Lf:=(mZ (bH 2) (mk (bH 3)) (mk (bH 4)) bt (mk (bH 6)) (.dat (.i 1)) (bH 8) (ln (bH 7)) 2)
theorem aFK (H:TH d0 d1 s th 14 obj arg tries o c dn g r v) (hr:0<r.l.length):dY (dI d0 d1 s th 14 obj arg tries) aCY=Gl d0 s th 14 obj arg tries o c dn g r v:=by
 have hb:=H.hb;simp only [zz,H.hcp,H.jM,H.hR,H.hk,has_is r th hb,dM r th hb,wY,aI1,aC,BI,fJ,dH,dG,bW,bV,dL,act,Int.reduceEq,Gl]<;>(repeat' split)<;>first |rfl|(exfalso; omega)
abbrev alG:T Lf:=(sp (.eq (rr 900 [bH 7,.aO 3] 0) (.lit 0)) (sp (.lt (nm (ce 0 (el (bH 2) mtx))) (.lit 0)) (mZ (aiK (mk (.aO 3))) (mk (bH 3)) (mk (bH 4)) bt (mk (bH 6)) (bH 7) (bH 8) (.lit 0) 2) EC) EC)
theorem axZ (H:TH d0 d1 s th 24 obj arg tries o c dn g r v):dY (dI d0 d1 s th 24 obj arg tries) alG=Gl d0 s th 24 obj arg tries o c dn g r v:=by
 have hb:=H.hb;simp only [zz,H.hcp,H.jM,H.hR,H.hk,has_is r th hb,dM r th hb,aW,wY,aI1,aC,BI,fJ,dH,dG,bW,bV,dL,act,Int.reduceEq,Gl]<;>(repeat' split)<;>first |rfl|(exfalso; omega)
abbrev aFg:T Lf:=(sp (.lt (bH 6) (.lit 4611686018427387904)) (sp (.eq (wr (.add (bH 4) (.lit 1))) mtx) (mZ (bH 2) (mk (bH 3)) (.dat (.i 0)) bt (mk (wr (.add (bH 6) (.lit 1)))) (bH 7) (bH 8) (bH 6) 3) (mZ (bH 2) (mk (bH 3)) (mk (wr (.add (bH 4) (.lit 1)))) bt (mk (bH 6)) (bH 7) (bH 8) (bH 6) 3)) xU)
theorem aHI (H:TH d0 d1 s th 15 obj arg tries o c dn g r v):dY (dI d0 d1 s th 15 obj arg tries) aFg=Gl d0 s th 15 obj arg tries o c dn g r v:=by
 have hb:=H.hb;simp only [zz,H.hcp,H.jM,H.hR,H.hk,has_is r th hb,dM r th hb,aC,BI,fJ,dH,dG,bW,bV,dL,act,Int.reduceEq,Gl]<;>(repeat' split)<;>first |rfl|(exfalso; omega)
abbrev aFf:T Lf:=(sp (.lt (.aO 6) (bH 6)) (mZ (bH 2) (mk (bH 3)) (mk (bH 4)) bt (mk (bH 6)) (bH 7) (bH 8) (.aO 6) 2) EC)
theorem aHH (H:TH d0 d1 s th 25 obj arg tries o c dn g r v):dY (dI d0 d1 s th 25 obj arg tries) aFf=Gl d0 s th 25 obj arg tries o c dn g r v:=by
 have hb:=H.hb;simp only [zz,H.hcp,H.jM,H.hR,H.hk,has_is r th hb,dM r th hb,aC,BI,fJ,dH,dG,bW,bV,dL,act,Int.reduceEq,Gl]<;>(repeat' split)<;>first |rfl|(exfalso; omega)
abbrev aFe:T Lf:=(sp (.eq (bH 5) (.lit 0)) (sp (.eq (bH 3) (.aO 3)) xU (sp (.lt (bH 3) (.lit 0)) (mZ (bH 2) (mk (.aO 3)) (mk (bH 4)) bt (mk (bH 6)) (bH 7) (bH 8) (.lit 1) 2) EC)) (mZ (bH 2) (mk (bH 3)) (mk (bH 4)) bt (mk (bH 6)) (bH 7) (bH 8) (.lit 0) 2))
theorem aHG (H:TH d0 d1 s th 16 obj arg tries o c dn g r v):dY (dI d0 d1 s th 16 obj arg tries) aFe=Gl d0 s th 16 obj arg tries o c dn g r v:=by
 have hb:=H.hb;simp only [zz,H.hcp,H.jM,H.hR,H.hk,has_is r th hb,dM r th hb,aC,BI,fJ,dH,dG,bW,bV,dL,act,Int.reduceEq,Gl]<;>(repeat' split)<;>first |rfl|(exfalso; omega)
abbrev aFd:T Lf:=(sp (.eq (bH 3) (.aO 3)) (mZ (bH 2) (.dat (.i (-1))) (mk (bH 4)) (.dat (.i 1)) (mk (bH 6)) (bH 7) (bH 8) (.lit 0) 2) xU)
theorem aHF (H:TH d0 d1 s th 26 obj arg tries o c dn g r v):dY (dI d0 d1 s th 26 obj arg tries) aFd=Gl d0 s th 26 obj arg tries o c dn g r v:=by
 have hb:=H.hb;simp only [zz,H.hcp,H.jM,H.hR,H.hk,has_is r th hb,dM r th hb,aC,BI,fJ,dH,dG,bW,bV,dL,act,Int.reduceEq,Gl]<;>(repeat' split)<;>first |rfl|(exfalso; omega)
abbrev aCX:T Lf:=(sp (.lt (.lit 0) mtx) (mZ (bH 2) (mk (bH 3)) (mk (bH 4)) bt (mk (bH 6)) (bH 7) (.op .snoc (.dat (.i 0)) (mk (.aO 6))) (.aO 6) 2) EC)
theorem aFJ (H:TH d0 d1 s th 20 obj arg tries o c dn g r v) (hv:v.l= []):dY (dI d0 d1 s th 20 obj arg tries) aCX=Gl d0 s th 20 obj arg tries o c dn g r v:=by
 have hb:=H.hb;have hz2:((0:Nat):Int)=0:=rfl;simp only [zz,H.hcp,H.jM,H.hR,H.hk,has_is r th hb,dM r th hb,hv,aI7,aI1,hz2,wY,aC,BI,fJ,dH,dG,bW,bV,dL,act,Int.reduceEq,Gl]<;>(repeat' split)<;>first |rfl|(exfalso; omega)
abbrev aCW:T Lf:=EC
theorem aFI (H:TH d0 d1 s th 21 obj arg tries o c dn g r v) (hv:v.l= []):dY (dI d0 d1 s th 21 obj arg tries) aCW=Gl d0 s th 21 obj arg tries o c dn g r v:=by
 have hb:=H.hb;have hz2:((0:Nat):Int)=0:=rfl;simp only [zz,H.hcp,H.jM,H.hR,H.hk,has_is r th hb,dM r th hb,hv,aI7,aI1,hz2,aC,BI,fJ,dH,dG,bW,bV,dL,act,Int.reduceEq,Gl]<;>(repeat' split)<;>first |rfl|(exfalso; omega)
abbrev aFc:T Lf:=(sp (.eq (nm (ce 0 (el (bH 2) mtx))) (.aO 3)) (mZ (aiK (.dat (.i (-1)))) (mk (bH 3)) (mk (bH 4)) bt (mk (bH 6)) (.op .take (.op .cat (.op .cat (.op .take (rr 12100 yE 15) (rr 12100 yE 14)) (.op .snoc (.dat (.i 0)) (mk (.aO 3)))) (.op .drop (rr 12100 yE 15) (.add (rr 12100 yE 14) (.lit 1)))) (.add (rr 12100 yE 14) (.lit 1))) (bH 8) (.lit 0) 3) xU)
theorem aHE (H:TH d0 d1 s th 12 obj arg tries o c dn g r v) (hr:0<r.l.length) (hv:v.l= []) {n:Nat} {r1:D} (hn:n<r.l.length) (hl:r1.l.length=r.l.length) (hw:r1.l.take n=wo th r.l) (hd:L 12100 (dA d0 s r v th 12 obj arg tries o c dn g)=some (1::((dA d0 s r v th 12 obj arg tries o c dn g)++ [(n:Int),enc r1,(r.l.length:Int)]))):dY (dI d0 d1 s th 12 obj arg tries) aFc=Gl d0 s th 12 obj arg tries o c dn g r v:=by
 have hb:=H.hb;have hz2:((0:Nat):Int)=0:=rfl;have e3:((n:Int)+1).toNat=n+1:=by omega
 have hA: ∀B,(wo th r.l++ [D.i th]++B).take (n+1)=wo th r.l++ [.i th]:=fun B=>by
  have:(wo th r.l++ [D.i th]).length=n+1:=by rw [<- hw]; simp only [aJa,aJc,aI5,aI7]; omega
  rw [aKl (by omega),aJI (by omega)]
 have hB:wo th r.l++ [D.i th]≠[]:=by simp
 simp only [zz,H.hcp,H.jM,H.hR,H.hk,has_is r th hb,dM r th hb,hv,aI7,aI1,hz2,hd,aI8,e3,l_p,gI,aW,wY,aJm,hw,hA,PE,Ig hB,aC,BI,fJ,dH,dG,bW,bV,dL,act,Int.reduceEq,Gl]<;>(repeat' split)<;>first |rfl|(exfalso; omega)
abbrev aCV:T Lf:=(sp (.eq (bH 3) (.aO 3)) xU (sp (.eq (rr 900 [bH 7,.aO 3] 0) (.lit 0)) (sp (.lt (bH 3) (.lit 0)) (mZ (bH 2) (mk (bH 3)) (mk (bH 4)) bt (mk (bH 6)) (.op .snoc (.dat (.i 0)) (mk (.aO 3))) (bH 8) (.lit 0) 2) EC) xU))
theorem aFH (H:TH d0 d1 s th 5 obj arg tries o c dn g r v) (hr:r.l= []):dY (dI d0 d1 s th 5 obj arg tries) aCV=Gl d0 s th 5 obj arg tries o c dn g r v:=by
 have hb:=H.hb;have hz:((0:Nat):Int)=0:=rfl;simp only [zz,H.hcp,H.jM,H.hR,H.hk,has_is r th hb,dM r th hb,hr,aI7,aI1,hz,wY,aC,BI,fJ,dH,dG,bW,bV,dL,act,Int.reduceEq,Gl]<;>(repeat' split)<;>first |rfl|(exfalso; omega)
theorem aFG (H:TH d0 d1 s th 7 obj arg tries o c dn g r v) (hr:r.l= []):dY (dI d0 d1 s th 7 obj arg tries) zt0=Gl d0 s th 7 obj arg tries o c dn g r v:=by
 have hb:=H.hb;have hz:((0:Nat):Int)=0:=rfl;simp only [zz,H.hcp,H.jM,H.hR,H.hk,has_is r th hb,dM r th hb,hr,aI7,aI1,hz,aC,BI,fJ,dH,dG,bW,bV,dL,act,Int.reduceEq,Gl]<;>(repeat' split)<;>first |rfl|(exfalso; omega)
abbrev aCU:T Lf:=(sp (.eq (nm (ce 0 (el (bH 2) mtx))) (.aO 3)) (mZ (aiK (.dat (.i (-1)))) (mk (bH 3)) (mk (bH 4)) bt (mk (bH 6)) (.op .snoc (.dat (.i 0)) (mk (.aO 3))) (bH 8) (.lit 0) 3) xU)
theorem aFF (H:TH d0 d1 s th 12 obj arg tries o c dn g r v) (hr:r.l= []):dY (dI d0 d1 s th 12 obj arg tries) aCU=Gl d0 s th 12 obj arg tries o c dn g r v:=by
 have hb:=H.hb;have hz:((0:Nat):Int)=0:=rfl;simp only [zz,H.hcp,H.jM,H.hR,H.hk,has_is r th hb,dM r th hb,hr,aI7,aI1,hz,aC3 hr,aW,wY,aC,BI,fJ,dH,dG,bW,bV,dL,act,Int.reduceEq,Gl]<;>(repeat' split)<;>first |rfl|(exfalso; omega)
abbrev aCT:T Lf:=(mZ (bH 2) (mk (bH 3)) (mk (bH 4)) bt (mk (bH 6)) (bH 7) (bH 8) (.lit 0) 2)
theorem aFE (H:TH d0 d1 s th 13 obj arg tries o c dn g r v) (hr:r.l= []):dY (dI d0 d1 s th 13 obj arg tries) aCT=Gl d0 s th 13 obj arg tries o c dn g r v:=by
 have hb:=H.hb;have hz:((0:Nat):Int)=0:=rfl;simp only [zz,H.hcp,H.jM,H.hR,H.hk,has_is r th hb,dM r th hb,hr,aI7,aI1,hz,wY,aC,BI,fJ,dH,dG,bW,bV,dL,act,Int.reduceEq,Gl]<;>(repeat' split)<;>first |rfl|(exfalso; omega)
abbrev aCS:T Lf:=(mZ (bH 2) (mk (bH 3)) (mk (bH 4)) bt (mk (bH 6)) (.dat (.i 1)) (bH 8) (.lit 0) 2)
theorem aFD (H:TH d0 d1 s th 14 obj arg tries o c dn g r v) (hr:r.l= []):dY (dI d0 d1 s th 14 obj arg tries) aCS=Gl d0 s th 14 obj arg tries o c dn g r v:=by
 have hb:=H.hb;have hz:((0:Nat):Int)=0:=rfl;simp only [zz,H.hcp,H.jM,H.hR,H.hk,has_is r th hb,dM r th hb,hr,aI7,aI1,hz,wY,aC,BI,fJ,dH,dG,bW,bV,dL,act,Int.reduceEq,Gl]<;>(repeat' split)<;>first |rfl|(exfalso; omega)
end
def ops:List Int:=[1,2,8,3,4,5,6,7,9,11,10,17,18,19,22,23,20,21,12,13,14,24,15,25,16,26]
abbrev Yo (k:Int):List SB:=[.eq (.aO 4) (.lit k)]
abbrev No (k:Int):List SB:=(ops.filter fun j=>!(j == k)).map fun j=> .eq (.aO 4) (.lit j)
abbrev p3:T Lf:=prune (YG++YA3) (NG++NA3) lG
abbrev p4:T Lf:=prune (YG++YA4) (NG++NA4) lG
abbrev p5:T Lf:=prune (YG++YA5) (NG++NA5) lG
abbrev p6:T Lf:=prune (YG++YA6) (NG++NA6) lG
section
variable {d0 d1 s r v:D} {th op obj arg tries o c dn g:Int}
theorem alJ {ρ:Nat->Int}: ∀{l:List SB},(∀c∈l,¬c.den ρ=true)->zW ρ l
 |[],_=>trivial
 |c::l,h=> ⟨h c (by simp),alJ fun x hx=>h x (aKA _ hx)⟩
theorem fO (k:Int):zY (dI d0 d1 s th k obj arg tries) (Yo k)/\zW (dI d0 d1 s th k obj arg tries) (No k):=by refine⟨by simp only [zz],alJ fun c hc=>?_⟩;obtain⟨j,hj,rfl⟩:=aJh.1 hc;have:=(aJU.1 hj).2;simp only [zz];intro h;subst h;simp at this
theorem sp3 (H:TH d0 d1 s th op obj arg tries o c dn g r v) (hr:0<r.l.length) (hv:0<v.l.length):dY (dI d0 d1 s th op obj arg tries) p3=dY (dI d0 d1 s th op obj arg tries) lG:=dK (z2 (fG H) (fA3 H hr hv)) lG
theorem sp4 (H:TH d0 d1 s th op obj arg tries o c dn g r v) (hr:0<r.l.length) (hv:v.l= []):dY (dI d0 d1 s th op obj arg tries) p4=dY (dI d0 d1 s th op obj arg tries) lG:=dK (z2 (fG H) (fA4 H hr hv)) lG
theorem sp5 (H:TH d0 d1 s th op obj arg tries o c dn g r v) (hr:r.l= []) (hv:0<v.l.length):dY (dI d0 d1 s th op obj arg tries) p5=dY (dI d0 d1 s th op obj arg tries) lG:=dK (z2 (fG H) (fA5 H hr hv)) lG
theorem sp6 (H:TH d0 d1 s th op obj arg tries o c dn g r v) (hr:r.l= []) (hv:v.l= []):dY (dI d0 d1 s th op obj arg tries) p6=dY (dI d0 d1 s th op obj arg tries) lG:=dK (z2 (fG H) (fA6 H hr hv)) lG
theorem kZ {k:Int} {t u:T Lf} {Q:RS} (e:prune (Yo k) (No k) t=u) (h:dY (dI d0 d1 s th k obj arg tries) u=Q):dY (dI d0 d1 s th k obj arg tries) t=Q:=by rw [<- dK (fO k) t,e,h]
theorem lC (H:TH d0 d1 s th op obj arg tries o c dn g r v) {u:T Lf} {Q:RS} (e3:prune (Yo op) (No op) p3=u) (e4:prune (Yo op) (No op) p4=u) (e5:prune (Yo op) (No op) p5=u) (e6:prune (Yo op) (No op) p6=u) (h:dY (dI d0 d1 s th op obj arg tries) u=Q):dY (dI d0 d1 s th op obj arg tries) lG=Q:=by
 rcases lQ r.l with hr|hr<;>rcases lQ v.l with hv|hv
 ·exact (sp6 H hr hv).symm.trans (kZ e6 h)
 ·exact (sp5 H hr hv).symm.trans (kZ e5 h)
 ·exact (sp4 H hr hv).symm.trans (kZ e4 h)
 ·exact (sp3 H hr hv).symm.trans (kZ e3 h)
theorem o1 (H:TH d0 d1 s th 1 obj arg tries o c dn g r v):dY (dI d0 d1 s th 1 obj arg tries) lG=Gl d0 s th 1 obj arg tries o c dn g r v:=lC H (u:=zt0) (by kernel_rfl) (by kernel_rfl) (by kernel_rfl) (by kernel_rfl) (sm0 H)
theorem o2 (H:TH d0 d1 s th 2 obj arg tries o c dn g r v):dY (dI d0 d1 s th 2 obj arg tries) lG=Gl d0 s th 2 obj arg tries o c dn g r v:=lC H (u:=zt1) (by kernel_rfl) (by kernel_rfl) (by kernel_rfl) (by kernel_rfl) (sm1 H)
theorem o8 (H:TH d0 d1 s th 8 obj arg tries o c dn g r v):dY (dI d0 d1 s th 8 obj arg tries) lG=Gl d0 s th 8 obj arg tries o c dn g r v:=lC H (u:=zt1) (by kernel_rfl) (by kernel_rfl) (by kernel_rfl) (by kernel_rfl) (sm2 H)
theorem o3 (H:TH d0 d1 s th 3 obj arg tries o c dn g r v):dY (dI d0 d1 s th 3 obj arg tries) lG=Gl d0 s th 3 obj arg tries o c dn g r v:=lC H (u:=zt2) (by kernel_rfl) (by kernel_rfl) (by kernel_rfl) (by kernel_rfl) (sm3 H)
theorem o4 (H:TH d0 d1 s th 4 obj arg tries o c dn g r v):dY (dI d0 d1 s th 4 obj arg tries) lG=Gl d0 s th 4 obj arg tries o c dn g r v:=lC H (u:=zt3) (by kernel_rfl) (by kernel_rfl) (by kernel_rfl) (by kernel_rfl) (sm4 H)
theorem o5 (H:TH d0 d1 s th 5 obj arg tries o c dn g r v):dY (dI d0 d1 s th 5 obj arg tries) lG=Gl d0 s th 5 obj arg tries o c dn g r v:=by
 rcases lQ r.l with hr|hr<;>rcases lQ v.l with hv|hv
 ·exact (sp6 H hr hv).symm.trans (kZ (u:=aCV) (by kernel_rfl) (aFH H hr))
 ·exact (sp5 H hr hv).symm.trans (kZ (u:=aCV) (by kernel_rfl) (aFH H hr))
 ·exact (sp4 H hr hv).symm.trans (kZ (u:=zt4) (by kernel_rfl) (sm5 H hr))
 ·exact (sp3 H hr hv).symm.trans (kZ (u:=zt4) (by kernel_rfl) (sm5 H hr))
theorem o6 (H:TH d0 d1 s th 6 obj arg tries o c dn g r v):dY (dI d0 d1 s th 6 obj arg tries) lG=Gl d0 s th 6 obj arg tries o c dn g r v:=by
 rcases lQ r.l with hr|hr<;>rcases lQ v.l with hv|hv
 ·exact (sp6 H hr hv).symm.trans (kZ (u:=zt5) (by kernel_rfl) (sm6 H (by rw [DU hr]; omega)))
 ·exact (sp5 H hr hv).symm.trans (kZ (u:=zt5) (by kernel_rfl) (sm6 H (by rw [DU hr]; omega)))
 ·by_cases hk:place r th<0
  ·exact (sp4 H hr hv).symm.trans ((dK (fK0 H hk) _).symm.trans (kZ (u:=zt5) (by kernel_rfl) (sm6 H hk)))
  ·exact (sp4 H hr hv).symm.trans ((dK (fK1 H hk) _).symm.trans (kZ (u:=zt6) (by kernel_rfl) (sm7 H hr hk)))
 ·by_cases hk:place r th<0
  ·exact (sp3 H hr hv).symm.trans ((dK (fK0 H hk) _).symm.trans (kZ (u:=zt5) (by kernel_rfl) (sm6 H hk)))
  ·exact (sp3 H hr hv).symm.trans ((dK (fK1 H hk) _).symm.trans (kZ (u:=zt6) (by kernel_rfl) (sm7 H hr hk)))
theorem o7 (H:TH d0 d1 s th 7 obj arg tries o c dn g r v):dY (dI d0 d1 s th 7 obj arg tries) lG=Gl d0 s th 7 obj arg tries o c dn g r v:=by
 rcases lQ r.l with hr|hr<;>rcases lQ v.l with hv|hv
 ·exact (sp6 H hr hv).symm.trans (kZ (u:=zt0) (by kernel_rfl) (aFG H hr))
 ·exact (sp5 H hr hv).symm.trans (kZ (u:=zt0) (by kernel_rfl) (aFG H hr))
 ·exact (sp4 H hr hv).symm.trans (kZ (u:=zt7) (by kernel_rfl) (sm8 H hr))
 ·exact (sp3 H hr hv).symm.trans (kZ (u:=zt7) (by kernel_rfl) (sm8 H hr))
theorem o9 (H:TH d0 d1 s th 9 obj arg tries o c dn g r v):dY (dI d0 d1 s th 9 obj arg tries) lG=Gl d0 s th 9 obj arg tries o c dn g r v:=lC H (u:=zt8) (by kernel_rfl) (by kernel_rfl) (by kernel_rfl) (by kernel_rfl) (sm9 H)
theorem o11 (H:TH d0 d1 s th 11 obj arg tries o c dn g r v):dY (dI d0 d1 s th 11 obj arg tries) lG=Gl d0 s th 11 obj arg tries o c dn g r v:=lC H (u:=zt9) (by kernel_rfl) (by kernel_rfl) (by kernel_rfl) (by kernel_rfl) (aHQ H)
theorem o10 (H:TH d0 d1 s th 10 obj arg tries o c dn g r v):dY (dI d0 d1 s th 10 obj arg tries) lG=Gl d0 s th 10 obj arg tries o c dn g r v:=lC H (u:=aFo) (by kernel_rfl) (by kernel_rfl) (by kernel_rfl) (by kernel_rfl) (aHP H)
theorem o17 (H:TH d0 d1 s th 17 obj arg tries o c dn g r v):dY (dI d0 d1 s th 17 obj arg tries) lG=Gl d0 s th 17 obj arg tries o c dn g r v:=lC H (u:=aFm) (by kernel_rfl) (by kernel_rfl) (by kernel_rfl) (by kernel_rfl) (aHO H)
theorem o18 (H:TH d0 d1 s th 18 obj arg tries o c dn g r v):dY (dI d0 d1 s th 18 obj arg tries) lG=Gl d0 s th 18 obj arg tries o c dn g r v:=lC H (u:=aFl) (by kernel_rfl) (by kernel_rfl) (by kernel_rfl) (by kernel_rfl) (aHN H)
theorem o19 (H:TH d0 d1 s th 19 obj arg tries o c dn g r v):dY (dI d0 d1 s th 19 obj arg tries) lG=Gl d0 s th 19 obj arg tries o c dn g r v:=lC H (u:=aFk) (by kernel_rfl) (by kernel_rfl) (by kernel_rfl) (by kernel_rfl) (aHM H)
theorem o22 (H:TH d0 d1 s th 22 obj arg tries o c dn g r v):dY (dI d0 d1 s th 22 obj arg tries) lG=Gl d0 s th 22 obj arg tries o c dn g r v:=lC H (u:=aFj) (by kernel_rfl) (by kernel_rfl) (by kernel_rfl) (by kernel_rfl) (aHL H)
theorem o23 (H:TH d0 d1 s th 23 obj arg tries o c dn g r v):dY (dI d0 d1 s th 23 obj arg tries) lG=Gl d0 s th 23 obj arg tries o c dn g r v:=lC H (u:=aFi) (by kernel_rfl) (by kernel_rfl) (by kernel_rfl) (by kernel_rfl) (aHK H)
theorem o20 (H:TH d0 d1 s th 20 obj arg tries o c dn g r v):dY (dI d0 d1 s th 20 obj arg tries) lG=Gl d0 s th 20 obj arg tries o c dn g r v:=by
 rcases lQ r.l with hr|hr<;>rcases lQ v.l with hv|hv
 ·exact (sp6 H hr hv).symm.trans (kZ (u:=aCX) (by kernel_rfl) (aFJ H hv))
 ·exact (sp5 H hr hv).symm.trans (kZ (u:=aC2) (by kernel_rfl) (aFO H hv))
 ·exact (sp4 H hr hv).symm.trans (kZ (u:=aCX) (by kernel_rfl) (aFJ H hv))
 ·exact (sp3 H hr hv).symm.trans (kZ (u:=aC2) (by kernel_rfl) (aFO H hv))
theorem o21 (H:TH d0 d1 s th 21 obj arg tries o c dn g r v):dY (dI d0 d1 s th 21 obj arg tries) lG=Gl d0 s th 21 obj arg tries o c dn g r v:=by
 rcases lQ r.l with hr|hr<;>rcases lQ v.l with hv|hv
 ·exact (sp6 H hr hv).symm.trans (kZ (u:=aCW) (by kernel_rfl) (aFI H hv))
 ·exact (sp5 H hr hv).symm.trans (kZ (u:=aC1) (by kernel_rfl) (aFN H hv))
 ·exact (sp4 H hr hv).symm.trans (kZ (u:=aCW) (by kernel_rfl) (aFI H hv))
 ·exact (sp3 H hr hv).symm.trans (kZ (u:=aC1) (by kernel_rfl) (aFN H hv))
theorem o12 (H:TH d0 d1 s th 12 obj arg tries o c dn g r v):dY (dI d0 d1 s th 12 obj arg tries) lG=Gl d0 s th 12 obj arg tries o c dn g r v:=by
 rcases lQ r.l with hr|hr<;>rcases lQ v.l with hv|hv
 ·have hd:=aAQ r th obj (Mx d0 obj) (enc (dL (dZ s.l (Mx d0 obj) (dL (dZ (s.at (Mx d0 obj)).l 0 (.i (-1))))))) 12 arg tries o c dn g (enc v);exact (sp6 H hr hv).symm.trans ((dK (fM H (by omega)) _).symm.trans ((dK (aIh H hd) _).symm.trans (kZ (u:=aCU) (by kernel_rfl) (aFF H hr))))
 ·have hd:=aAR r th obj (Mx d0 obj) (enc (dL (dZ s.l (Mx d0 obj) (dL (dZ (s.at (Mx d0 obj)).l 0 (.i (-1))))))) 12 arg tries o c dn g (enc v);exact (sp5 H hr hv).symm.trans ((dK (fM H (by omega)) _).symm.trans ((dK (aIi H hd) _).symm.trans (kZ (u:=aCU) (by kernel_rfl) (aFF H hr))))
 ·rcases aAS r th (by have:=H.hr; omega) H.hn with ⟨hw,hd⟩|hd
  ·have hd:=hd obj (Mx d0 obj) (enc (dL (dZ s.l (Mx d0 obj) (dL (dZ (s.at (Mx d0 obj)).l 0 (.i (-1))))))) 12 arg tries o c dn g (enc v);exact (sp4 H hr hv).symm.trans ((dK (fM H (by omega)) _).symm.trans ((dK (aIj H hd) _).symm.trans (kZ (u:=aC0) (by kernel_rfl) (aFM H hr hw))))
  ·obtain⟨n,r1,hn,hl,hw,hd⟩:=hd obj (Mx d0 obj) (enc (dL (dZ s.l (Mx d0 obj) (dL (dZ (s.at (Mx d0 obj)).l 0 (.i (-1))))))) 12 arg tries o c dn g (enc v);exact (sp4 H hr hv).symm.trans ((dK (fM H (by omega)) _).symm.trans ((dK (aIk H hn hl hd) _).symm.trans (kZ (u:=aFc) (by kernel_rfl) (aHE H hr hv hn hl hw hd))))
 ·rcases aAT r th (by have:=H.hr; omega) H.hn with ⟨hw,hd⟩|hd
  ·have hd:=hd obj (Mx d0 obj) (enc (dL (dZ s.l (Mx d0 obj) (dL (dZ (s.at (Mx d0 obj)).l 0 (.i (-1))))))) 12 arg tries o c dn g (enc v);exact (sp3 H hr hv).symm.trans ((dK (fM H (by omega)) _).symm.trans ((dK (aIl H hd) _).symm.trans (kZ (u:=aC0) (by kernel_rfl) (aFM H hr hw))))
  ·obtain⟨n,r1,hn,hl,hw,hd⟩:=hd obj (Mx d0 obj) (enc (dL (dZ s.l (Mx d0 obj) (dL (dZ (s.at (Mx d0 obj)).l 0 (.i (-1))))))) 12 arg tries o c dn g (enc v);exact (sp3 H hr hv).symm.trans ((dK (fM H (by omega)) _).symm.trans ((dK (aIm H hn hl hd) _).symm.trans (kZ (u:=aFh) (by kernel_rfl) (aHJ H hr hv hn hl hw hd))))
theorem o13 (H:TH d0 d1 s th 13 obj arg tries o c dn g r v):dY (dI d0 d1 s th 13 obj arg tries) lG=Gl d0 s th 13 obj arg tries o c dn g r v:=by
 rcases lQ r.l with hr|hr<;>rcases lQ v.l with hv|hv
 ·exact (sp6 H hr hv).symm.trans (kZ (u:=aCT) (by kernel_rfl) (aFE H hr))
 ·exact (sp5 H hr hv).symm.trans (kZ (u:=aCT) (by kernel_rfl) (aFE H hr))
 ·exact (sp4 H hr hv).symm.trans (kZ (u:=aCZ) (by kernel_rfl) (aFL H hr))
 ·exact (sp3 H hr hv).symm.trans (kZ (u:=aCZ) (by kernel_rfl) (aFL H hr))
theorem o14 (H:TH d0 d1 s th 14 obj arg tries o c dn g r v):dY (dI d0 d1 s th 14 obj arg tries) lG=Gl d0 s th 14 obj arg tries o c dn g r v:=by
 rcases lQ r.l with hr|hr<;>rcases lQ v.l with hv|hv
 ·exact (sp6 H hr hv).symm.trans (kZ (u:=aCS) (by kernel_rfl) (aFD H hr))
 ·exact (sp5 H hr hv).symm.trans (kZ (u:=aCS) (by kernel_rfl) (aFD H hr))
 ·exact (sp4 H hr hv).symm.trans (kZ (u:=aCY) (by kernel_rfl) (aFK H hr))
 ·exact (sp3 H hr hv).symm.trans (kZ (u:=aCY) (by kernel_rfl) (aFK H hr))
theorem o24 (H:TH d0 d1 s th 24 obj arg tries o c dn g r v):dY (dI d0 d1 s th 24 obj arg tries) lG=Gl d0 s th 24 obj arg tries o c dn g r v:=by
 rcases lQ r.l with hr|hr<;>rcases lQ v.l with hv|hv
 ·exact (sp6 H hr hv).symm.trans ((dK (fM H (by omega)) _).symm.trans (kZ (u:=alG) (by kernel_rfl) (axZ H)))
 ·exact (sp5 H hr hv).symm.trans ((dK (fM H (by omega)) _).symm.trans (kZ (u:=alG) (by kernel_rfl) (axZ H)))
 ·exact (sp4 H hr hv).symm.trans ((dK (fM H (by omega)) _).symm.trans (kZ (u:=alG) (by kernel_rfl) (axZ H)))
 ·exact (sp3 H hr hv).symm.trans ((dK (fM H (by omega)) _).symm.trans (kZ (u:=alG) (by kernel_rfl) (axZ H)))
theorem o15 (H:TH d0 d1 s th 15 obj arg tries o c dn g r v):dY (dI d0 d1 s th 15 obj arg tries) lG=Gl d0 s th 15 obj arg tries o c dn g r v:=lC H (u:=aFg) (by kernel_rfl) (by kernel_rfl) (by kernel_rfl) (by kernel_rfl) (aHI H)
theorem o25 (H:TH d0 d1 s th 25 obj arg tries o c dn g r v):dY (dI d0 d1 s th 25 obj arg tries) lG=Gl d0 s th 25 obj arg tries o c dn g r v:=lC H (u:=aFf) (by kernel_rfl) (by kernel_rfl) (by kernel_rfl) (by kernel_rfl) (aHH H)
theorem o16 (H:TH d0 d1 s th 16 obj arg tries o c dn g r v):dY (dI d0 d1 s th 16 obj arg tries) lG=Gl d0 s th 16 obj arg tries o c dn g r v:=lC H (u:=aFe) (by kernel_rfl) (by kernel_rfl) (by kernel_rfl) (by kernel_rfl) (aHG H)
theorem o26 (H:TH d0 d1 s th 26 obj arg tries o c dn g r v):dY (dI d0 d1 s th 26 obj arg tries) lG=Gl d0 s th 26 obj arg tries o c dn g r v:=lC H (u:=aFd) (by kernel_rfl) (by kernel_rfl) (by kernel_rfl) (by kernel_rfl) (aHF H)
theorem awX (H:TH d0 d1 s th op obj arg tries o c dn g r v) (hop:op∈ops):L 400 [enc d0,enc d1,enc s,th,op,obj,arg,tries]=some (outA s th op obj (Mx d0 obj) (act (Mx d0 obj) (Mo d0 s obj) th op arg tries o c dn g r v)):=by
 rw [aP,aE3]
 suffices h:dY (dI d0 d1 s th op obj arg tries) lG=Gl d0 s th op obj arg tries o c dn g r v by rw [h]; rfl
 unfold ops at hop;simp only [aI3,aJG,or_false] at hop;rcases hop with rfl|rfl|rfl|rfl|rfl|rfl|rfl|rfl|rfl|rfl|rfl|rfl|rfl|rfl|rfl|rfl|rfl|rfl|rfl|rfl|rfl|rfl|rfl|rfl|rfl|rfl
 ·exact o1 H
 ·exact o2 H
 ·exact o8 H
 ·exact o3 H
 ·exact o4 H
 ·exact o5 H
 ·exact o6 H
 ·exact o7 H
 ·exact o9 H
 ·exact o11 H
 ·exact o10 H
 ·exact o17 H
 ·exact o18 H
 ·exact o19 H
 ·exact o22 H
 ·exact o23 H
 ·exact o20 H
 ·exact o21 H
 ·exact o12 H
 ·exact o13 H
 ·exact o14 H
 ·exact o24 H
 ·exact o15 H
 ·exact o25 H
 ·exact o16 H
 ·exact o26 H
end
abbrev apL:T Lf:=ou [.op .set (bH 2) (thg (mk (bH 3)) (mk (bH 4)) bt (mk (bH 6)) (bH 7) (bH 8)),.lit 0,.lit 0,.lit 0,.lit 0,.lit 0,.lit 0]
abbrev Ya (a:Int):List SB:=[.eq (a0 9000 [.aO 5,.aO 2]) (.lit 1),.eq (bH 0) (.lit a),.eq (a0 350 [.aO 0,.aO 1,.aO 2]) (.lit 1)]
abbrev Na (a:Int):List SB:=([0,1,2,3,4,5].filter fun j=>!(j == a)).map fun j=> .eq (bH 0) (.lit j)
abbrev r3:SB:=.eq (rr 350 [.aO 0,.aO 1,.aO 2] 0) (.lit 0)
abbrev t3:SB:=.lt (.aO 3) (.lit 0)
abbrev u3:SB:=.lt (.aO 3) (ln (.aO 1))
section
variable {d0 d1 s r v:D} {th op obj arg tries o c dn g b kop a:Int} (hR:L 350 [enc d0,enc d1,enc s]=some [b])
include hR
theorem fa {l:List Int} (hc:L 9000 [obj,enc s]=some (a::l)):zY (dI d0 d1 s th op obj arg tries) (Ya a)/\zW (dI d0 d1 s th op obj arg tries) (Na a):=by refine⟨by simp only [zz,hc,hR],alJ fun c hc'=>?_⟩;obtain⟨j,hj,rfl⟩:=aJh.1 hc';have:=(aJU.1 hj).2;simp only [zz,hc];intro h;subst h;simp at this
theorem xZ (k:dY (dI d0 d1 s th op obj arg tries) lG= .out [enc s,0,0,0,0,0,0]):L 400 [enc d0,enc d1,enc s,th,op,obj,arg,tries]=some [enc s,0,0,0,0,0,0]:=by rw [aP,aE3];exact congrArg (fin L) k
section
variable (ha:a=3\/a=4\/a=5\/a=6) (hcp:L 9000 [obj,enc s]=some [a,obj,enc s,o,c,dn,g,enc r,enc v]) (Aw:0<=obj) (Au:obj<(s.l.length:Int)) (hd:dn=0\/dn=1) (hs:s=dL (dZ s.l obj (dL [.i o,.i c,.i dn,.i g,r,v])))
include ha hcp Aw Au hd hs
omit ha hR Aw Au in
theorem Lu:dY (dI d0 d1 s th op obj arg tries) apL= .out [enc s,0,0,0,0,0,0]:=by
 have e:(if dn=0 then (0:Int) else 1)=dn:=by rcases hd with rfl|rfl<;>rfl
 simp only [dL] at hs;simp only [zz,hcp,e,<- hs]
theorem aHU (h:b=0):L 400 [enc d0,enc d1,enc s,th,op,obj,arg,tries]=some [enc s,0,0,0,0,0,0]:=
 xZ hR (bC (Ya a++ [r3]) (Na a++ []) apL (z2 (fa hR hcp) (by simp only [zz,hcp,hR]<;>omega)) (by rcases ha with rfl|rfl|rfl|rfl<;>kernel_rfl) (Lu hcp hd hs))
theorem aHT (hb:b≠0) (h:th<0):L 400 [enc d0,enc d1,enc s,th,op,obj,arg,tries]=some [enc s,0,0,0,0,0,0]:=
 xZ hR (bC (Ya a++ [t3]) (Na a++ [r3]) apL (z2 (fa hR hcp) (by simp only [zz,hcp,hR]<;>omega)) (by rcases ha with rfl|rfl|rfl|rfl<;>kernel_rfl) (Lu hcp hd hs))
theorem aHS (hb:b≠0) (h0:0<=th) (h: ¬th<(d1.l.length:Int)):L 400 [enc d0,enc d1,enc s,th,op,obj,arg,tries]=some [enc s,0,0,0,0,0,0]:=
 xZ hR (bC (Ya a++ []) (Na a++ [r3,t3,u3]) apL (z2 (fa hR hcp) (by simp only [zz,hcp,hR]<;>omega)) (by rcases ha with rfl|rfl|rfl|rfl<;>kernel_rfl) (Lu hcp hd hs))
theorem aHV (hb:b≠0) (h0:0<=th) (h:th<(d1.l.length:Int)) (hk:L 600 [op]=some [kop]) (hlen:s.l.length=d0.l.length) (hne: ¬kop=((d0.at obj).hd 0).n):L 400 [enc d0,enc d1,enc s,th,op,obj,arg,tries]=some [enc s,0,0,0,0,0,0]:=
 xZ hR (bC (Ya a++ [u3,.lt (.aO 5) (ln (bH 2)),.eq (a0 600 [.aO 4]) (.lit 1),.lt (.aO 5) (ln (.aO 0))]) (Na a++ [r3,t3,.lt (.aO 5) (.lit 0),.eq (rr 600 [.aO 4] 0) (nm (ce 0 (el (.aO 0) (.aO 5))))]) apL (z2 (fa hR hcp) (by simp only [zz,hcp,hR,hk]<;>omega)) (by rcases ha with rfl|rfl|rfl|rfl<;>kernel_rfl) (Lu hcp hd hs))
end
theorem aFZ (hcp:L 9000 [obj,enc s]=some [0,obj,enc s]) (h:obj<0):L 400 [enc d0,enc d1,enc s,th,op,obj,arg,tries]=some [enc s,0,0,0,0,0,0]:=
 xZ hR (bC (Ya 0++ [.lt (.aO 5) (.lit 0)]) (Na 0++ []) (sp r3 (ou [bH 2,.lit 0,.lit 0,.lit 0,.lit 0,.lit 0,.lit 0]) (sp t3 (ou [bH 2,.lit 0,.lit 0,.lit 0,.lit 0,.lit 0,.lit 0]) (sp u3 (ou [bH 2,.lit 0,.lit 0,.lit 0,.lit 0,.lit 0,.lit 0]) (ou [bH 2,.lit 0,.lit 0,.lit 0,.lit 0,.lit 0,.lit 0])))) (z2 (fa hR hcp) (by simp only [zz,hcp]<;>omega)) (by kernel_rfl) (by simp only [zz,hcp,hR,ite_self]))
theorem aFY (hcp:L 9000 [obj,enc s]=some [0,obj,enc s]) (h0:0<=obj) (h: ¬obj<(s.l.length:Int)):L 400 [enc d0,enc d1,enc s,th,op,obj,arg,tries]=some [enc s,0,0,0,0,0,0]:=
 xZ hR (bC (Ya 0++ []) (Na 0++ [.lt (.aO 5) (.lit 0),.lt (.aO 5) (ln (bH 2))]) (sp r3 (ou [bH 2,.lit 0,.lit 0,.lit 0,.lit 0,.lit 0,.lit 0]) (sp t3 (ou [bH 2,.lit 0,.lit 0,.lit 0,.lit 0,.lit 0,.lit 0]) (sp u3 (ou [bH 2,.lit 0,.lit 0,.lit 0,.lit 0,.lit 0,.lit 0]) (ou [bH 2,.lit 0,.lit 0,.lit 0,.lit 0,.lit 0,.lit 0])))) (z2 (fa hR hcp) (by simp only [zz,hcp]<;>omega)) (by kernel_rfl) (by simp only [zz,hcp,hR,ite_self]))
theorem aFX (hcp:L 9000 [obj,enc s]=some [1,obj]) (h:obj<0) (hs:s= .i 1):L 400 [enc d0,enc d1,enc s,th,op,obj,arg,tries]=some [enc s,0,0,0,0,0,0]:=
 xZ hR (bC (Ya 1++ [.lt (.aO 5) (.lit 0)]) (Na 1++ []) (sp r3 (ou [.dat (.i 1),.lit 0,.lit 0,.lit 0,.lit 0,.lit 0,.lit 0]) (sp t3 (ou [.dat (.i 1),.lit 0,.lit 0,.lit 0,.lit 0,.lit 0,.lit 0]) (sp u3 (ou [.dat (.i 1),.lit 0,.lit 0,.lit 0,.lit 0,.lit 0,.lit 0]) (ou [.dat (.i 1),.lit 0,.lit 0,.lit 0,.lit 0,.lit 0,.lit 0])))) (z2 (fa hR hcp) (by simp only [zz,hcp]<;>omega)) (by kernel_rfl) (by simp only [zz,hcp,hR,hs,ite_self]))
theorem aFW (hcp:L 9000 [obj,enc s]=some [1,obj]) (h0:0<=obj) (h: ¬obj<(s.l.length:Int)) (hs:s= .i 1):L 400 [enc d0,enc d1,enc s,th,op,obj,arg,tries]=some [enc s,0,0,0,0,0,0]:=
 xZ hR (bC (Ya 1++ []) (Na 1++ [.lt (.aO 5) (.lit 0)]) (sp r3 (ou [.dat (.i 1),.lit 0,.lit 0,.lit 0,.lit 0,.lit 0,.lit 0]) (sp t3 (ou [.dat (.i 1),.lit 0,.lit 0,.lit 0,.lit 0,.lit 0,.lit 0]) (sp u3 (ou [.dat (.i 1),.lit 0,.lit 0,.lit 0,.lit 0,.lit 0,.lit 0]) (ou [.dat (.i 1),.lit 0,.lit 0,.lit 0,.lit 0,.lit 0,.lit 0])))) (z2 (fa hR hcp) (by simp only [zz,hcp]<;>omega)) (by kernel_rfl) (by simp only [zz,hcp,hR,hs,ite_self]))
theorem aFV (hcp:L 9000 [obj,enc s]=some [2,obj]) (h:obj<0) (hs:s= .i 2):L 400 [enc d0,enc d1,enc s,th,op,obj,arg,tries]=some [enc s,0,0,0,0,0,0]:=
 xZ hR (bC (Ya 2++ [.lt (.aO 5) (.lit 0)]) (Na 2++ []) (sp r3 (ou [.dat (.i 2),.lit 0,.lit 0,.lit 0,.lit 0,.lit 0,.lit 0]) (sp t3 (ou [.dat (.i 2),.lit 0,.lit 0,.lit 0,.lit 0,.lit 0,.lit 0]) (sp u3 (ou [.dat (.i 2),.lit 0,.lit 0,.lit 0,.lit 0,.lit 0,.lit 0]) (ou [.dat (.i 2),.lit 0,.lit 0,.lit 0,.lit 0,.lit 0,.lit 0])))) (z2 (fa hR hcp) (by simp only [zz,hcp]<;>omega)) (by kernel_rfl) (by simp only [zz,hcp,hR,hs,ite_self]))
theorem aFU (hcp:L 9000 [obj,enc s]=some [2,obj]) (h0:0<=obj) (h: ¬obj<(s.l.length:Int)) (hs:s= .i 2):L 400 [enc d0,enc d1,enc s,th,op,obj,arg,tries]=some [enc s,0,0,0,0,0,0]:=
 xZ hR (bC (Ya 2++ []) (Na 2++ [.lt (.aO 5) (.lit 0)]) (sp r3 (ou [.dat (.i 2),.lit 0,.lit 0,.lit 0,.lit 0,.lit 0,.lit 0]) (sp t3 (ou [.dat (.i 2),.lit 0,.lit 0,.lit 0,.lit 0,.lit 0,.lit 0]) (sp u3 (ou [.dat (.i 2),.lit 0,.lit 0,.lit 0,.lit 0,.lit 0,.lit 0]) (ou [.dat (.i 2),.lit 0,.lit 0,.lit 0,.lit 0,.lit 0,.lit 0])))) (z2 (fa hR hcp) (by simp only [zz,hcp]<;>omega)) (by kernel_rfl) (by simp only [zz,hcp,hR,hs,ite_self]))
end
def kindOf (o:Int):Int:=if o<27 then (if o=0 then 0 else if o=1 then 1 else if o=2 then 1 else if o=3 then 1 else if o=4 then 1 else if o=5 then 2 else if o=6 then 2 else if o=7 then 2 else if o=8 then 2 else if o=9 then 3 else if o=10 then 3 else if o=11 then 3 else if o=12 then 4 else if o=13 then 4 else if o=14 then 4 else if o=15 then 5 else if o=16 then 6 else if o=17 then 7 else if o=18 then 7 else if o=19 then 7 else if o=20 then 8 else if o=21 then 8 else if o=22 then 9 else if o=23 then 9 else if o=24 then 4 else if o=25 then 5 else 6) else 0
theorem X6 (o:Int) (h:iW .u8 o):L 600 [o]=some [kindOf o]:=by
 have h1:=h.1;have w:=aFr h;have c1: ¬(o<0):=by omega
 rw [aP,aHd];simp only [aDd,zz,w,c1];by_cases h27:o<27
 ·simp only [aIR h27];have:o=0\/o=1\/o=2\/o=3\/o=4\/o=5\/o=6\/o=7\/o=8\/o=9\/o=10\/o=11\/o=12\/o=13\/o=14\/o=15\/o=16\/o=17\/o=18\/o=19\/o=20\/o=21\/o=22\/o=23\/o=24\/o=25\/o=26:=by omega
  rcases this with rfl|rfl|rfl|rfl|rfl|rfl|rfl|rfl|rfl|rfl|rfl|rfl|rfl|rfl|rfl|rfl|rfl|rfl|rfl|rfl|rfl|rfl|rfl|rfl|rfl|rfl|rfl
  all_goals rfl
 ·simp only [aIQ h27];unfold kindOf;rw [aIQ h27];rfl
theorem aqB {o:Int} (h0:0<=o) (h:kindOf o≠0):o∈ops:=by
 have h27:o<27:=by refine Decidable.byContradiction fun hn=>h ?_;unfold kindOf;rw [aIQ hn]
 have:o=0\/o=1\/o=2\/o=3\/o=4\/o=5\/o=6\/o=7\/o=8\/o=9\/o=10\/o=11\/o=12\/o=13\/o=14\/o=15\/o=16\/o=17\/o=18\/o=19\/o=20\/o=21\/o=22\/o=23\/o=24\/o=25\/o=26:=by omega
 rcases this with rfl|rfl|rfl|rfl|rfl|rfl|rfl|rfl|rfl|rfl|rfl|rfl|rfl|rfl|rfl|rfl|rfl|rfl|rfl|rfl|rfl|rfl|rfl|rfl|rfl|rfl|rfl
 all_goals first |exact absurd rfl h|decide
structure Acc (d0 d1 s:D) (th op obj:Int):Prop where
 r:L 350 [enc d0,enc d1,enc s]=some [1]
 t0:0<=th
 t1:th<(d1.l.length:Int)
 o0:0<=obj
 o1:obj<(s.l.length:Int)
 k:kindOf op=((d0.at obj).hd 0).n
structure Tg (x:D) (o c dn g:Int) (r v:D):Prop where
 is:x=dL [.i o,.i c,.i dn,.i g,r,v]
 ho:iW .i64 o
 hc:iW .i64 c
 hd:dn=0\/dn=1
 hg:iW .i64 g
 hr:Wd (.sl 0) r
 hv:Wd (.sl 0) v
theorem ML {x:D} (h:D5 x): ∃o c dn g r v,Tg x o c dn g r v:=by obtain⟨o,c,d,g,r,v,h1,h2,h3,h4,h5,h6,h7⟩:=h;exact⟨o,c,d,g,r,v,h1,h2,h3,h4,h5,h6,h7⟩
theorem awT {r:D} (h:Wd (.sl 0) r): ∀x∈r.l,x= .i x.n:=by intro x hx;obtain⟨n,rfl,_⟩:=(h.el1 rfl x hx).i;rfl
def few (s:D):Prop:= ∀x∈s.l,(x.hd 4).l.length<17592186044415/\(x.hd 5).l.length<17592186044415
theorem few.rows {s:D} (h:few s):Fp s:=fun x hx=>by have:=(h x hx).1; omega
section
variable {d0 d1 s:D} {th op obj arg tries:Int} (h0:Wd (.sl 3) d0) (h1:Wd (.sl 4) d1) (hs:Wd (.sl 7) s) (hf:few s) (hop:iW .u8 op)
include h0 h1 hf in
theorem NJ (h:L 350 [enc d0,enc d1,enc s]=some [1]):xR d0 d1/\s.l.length=d0.l.length:=by obtain⟨b,hb,_,hi⟩:=nX h0 h1 hf.rows;rw [h] at hb;simp only [aIS,List.cons.injEq,and_true] at hb;obtain⟨hC,hle,_⟩:=hi.1 hb.symm;obtain⟨ys,hC',c,rfl,_,hok⟩:=Em h0 h1;rw [hC] at hC';simp only [aIS,List.cons.injEq,and_true] at hC';exact⟨(hok hC'.symm).1,hle⟩
include h0 h1 hf in
theorem ahY (A:Acc d0 d1 s th op obj):afF d0 (d0.at obj)/\s.l.length=d0.l.length:=by
 obtain⟨hok,hle⟩:=NJ h0 h1 hf A.r;refine⟨?_,hle⟩;have a1:=A.o0; have a2:=A.o1;obtain⟨i,rfl⟩ : ∃i:Nat,obj=(i:Int):=⟨obj.toNat,by omega⟩;have hi:i<d0.l.length:=by omega
 rw [aX hi];exact hok.2.2 _ (aIZ hi)
include h0 h1 hs hf hop
theorem P9 (A:Acc d0 d1 s th op obj) (h:op=12\/op=24):0<=Mx d0 obj/\Mx d0 obj<(s.l.length:Int)/\Mx d0 obj≠obj:=by
 obtain⟨ho,hle⟩:=ahY h0 h1 hf A
 have h4:((d0.at obj).hd 0).n=4:=by rw [<- A.k];rcases h with rfl|rfl<;>rfl
 obtain⟨m1,m2,m3⟩:=ho.2.2.2.2.2 h4;refine⟨m1,by rw [hle]; exact m2,fun he=>?_⟩;have he:((d0.at obj).hd 2).n=obj:=he;rw [he,h4] at m3;omega
theorem zO (A:Acc d0 d1 s th op obj):op∈ops/\∃o c dn g r v,Tg (s.at obj) o c dn g r v/\
 L 400 [enc d0,enc d1,enc s,th,op,obj,arg,tries]=some (outA s th op obj (Mx d0 obj) (act (Mx d0 obj) (Mo d0 s obj) th op arg tries o c dn g r v)):=by
 obtain⟨ho,hle⟩:=ahY h0 h1 hf A;have hin:op∈ops:=aqB hop.1 (by rw [A.k]; have:=ho.1; omega);have a1:=A.o0; have a2:=A.o1;obtain⟨i,rfl⟩ : ∃i:Nat,obj=(i:Int):=⟨obj.toNat,by omega⟩;have hi:i<s.l.length:=by omega
 have ht:=BO hs (by omega);obtain⟨o,c,dn,g,r,v,T⟩:=ML (hs.thing _ (aIZ hi));have hfx:=hf _ (aIZ hi);rw [T.is] at hfx;have hkk:L 600 [op]=some [((d0.at (i:Int)).hd 0).n]:=by rw [X6 op hop,A.k]
 refine⟨hin,o,c,dn,g,r,v,by rw [aX hi]; exact T,?_⟩;refine awX ⟨aCL s ht i hi o c dn g r v T.is,avK s hs,A.r,A.t0,A.t1,A.o0,A.o1,hle,hkk,?_,?_,(awT T.hr),fun h=>P9 h0 h1 hs hf hop A h⟩ hin
 ·have:(r.l.length:Int)<17592186044415:=aKz.2 hfx.1;exact this
 ·have:(v.l.length:Int)<17592186044415:=aKz.2 hfx.2;exact this
theorem MK (A: ¬Acc d0 d1 s th op obj):L 400 [enc d0,enc d1,enc s,th,op,obj,arg,tries]=some [enc s,0,0,0,0,0,0]:=by
 obtain⟨b,hb,hb2,_⟩:=nX h0 h1 hf.rows;by_cases ho:0<=obj/\obj<(s.l.length:Int)
 ·obtain⟨i,rfl⟩ : ∃i:Nat,obj=(i:Int):=⟨obj.toNat,by omega⟩;have hi:i<s.l.length:=by omega
  have ht:=BO hs (by omega);obtain⟨o,c,dn,g,r,v,T⟩:=ML (hs.thing _ (aIZ hi));have hcp:=aCL s ht i hi o c dn g r v T.is
  have hss:s=dL (dZ s.l (i:Int) (dL [.i o,.i c,.i dn,.i g,r,v])):=by have:=set_self ht.sh hi;rw [T.is] at this;exact this.symm
  have hkk:=X6 op hop
  have key: ∀alt:Int,(alt=3\/alt=4\/alt=5\/alt=6)->L 9000 [(i:Int),enc s]=some [alt,(i:Int),enc s,o,c,dn,g,enc r,enc v]->L 400 [enc d0,enc d1,enc s,th,op,(i:Int),arg,tries]=some [enc s,0,0,0,0,0,0]:=by
   intro alt ha hcp;by_cases hb0:b=0
   ·exact aHU hb ha hcp ho.1 ho.2 T.hd hss hb0
   ·have hb1:b=1:=by omega
    by_cases t0:th<0
    ·exact aHT hb ha hcp ho.1 ho.2 T.hd hss hb0 t0
    ·by_cases t1:th<(d1.l.length:Int)
     ·have hne: ¬kindOf op=((d0.at (i:Int)).hd 0).n:=fun hk=>A ⟨by rw [hb,hb1],by omega,t1,ho.1,ho.2,hk⟩;obtain⟨_,hle⟩:=NJ h0 h1 hf (by rw [hb,hb1]);exact aHV hb ha hcp ho.1 ho.2 T.hd hss hb0 (by omega) t1 hkk hle hne
     ·exact aHS hb ha hcp ho.1 ho.2 T.hd hss hb0 (by omega) t1
  refine key _ ?_ hcp;unfold qC;split<;>split<;>simp
 ·obtain⟨ys,hc,hys⟩:=copyN s hs obj (by omega);by_cases hn:obj<0
  ·rcases hys with rfl|⟨rfl,he⟩|⟨rfl,he⟩
   ·exact aFZ hb hc hn
   ·exact aFX hb hc hn he
   ·exact aFV hb hc hn he
  ·rcases hys with rfl|⟨rfl,he⟩|⟨rfl,he⟩
   ·exact aFY hb hc (by omega) (by omega)
   ·exact aFW hb hc (by omega) (by omega) he
   ·exact aFU hb hc (by omega) (by omega) he
end
theorem Ll {d:D} {l:List D} (h: ∀x∈l,∃n,x= .i n/\iW .i64 n) (hl:l.length<=17592186043904):Wd (.sl 0) (fC d l):=by
 cases l with
 |nil=>
  show Wd (.sl 0) (if d= .i 1 then .i 1 else .i 2);split
  ·exact .nil 0
  ·exact .non 0
 |cons a l=> refine .one 0 (.int .i64) (a::l) rfl (by simp) (by have:wZ 0=8:=rfl; rw [this]; omega) fun x hx=>?_;obtain⟨n,rfl,hn⟩:=h x hx;exact .int _ _ hn
theorem zK {l:List D} (h: ∀x∈l,∃n,x= .i n/\iW .i64 n) (hn:l≠[]) (hl:l.length<=17592186043904):Wd (.sl 0) (dL l):=by rw [<- Ig (d:=.i 2) hn];exact Ll h hl
theorem zL {r:D} (h:Wd (.sl 0) r): ∀x∈r.l,∃n,x= .i n/\iW .i64 n:=fun x hx=>(h.el1 rfl x hx).i
theorem wrap_in (z:Int):iW .i64 (IntKind.i64.wrap z):=by constructor<;>(rw [IntKind.wrap_i64]; omega)
def QI (n:Nat):Act->Prop
 | .res o c dn g r v m _ oc=>iW .i64 o/\iW .i64 c/\(dn=0\/dn=1)/\iW .i64 g/\Wd (.sl 0) r/\r.l.length<=n/\Wd (.sl 0) v/\v.l.length<=n/\(∀q,m=some q->iW .i64 q)/\(oc=2\/oc=3)
 |_=>True
theorem QI.ite {n:Nat} {p:Prop} [Decidable p] {a b:Act} (ha:QI n a) (hb:QI n b):QI n (if p then a else b):=by
 split
 ·exact ha
 ·exact hb
def NoM:Act->Prop
 | .res _ _ _ _ _ _ m _ _=>m=none
 |_=>True
theorem NoM.ite {p:Prop} [Decidable p] {a b:Act} (ha:NoM a) (hb:NoM b):NoM (if p then a else b):=by
 split
 ·exact ha
 ·exact hb
section
variable {x:D} {M mo th op arg tries o c dn g:Int} {r v:D}
theorem awG (T:Tg x o c dn g r v) {n:Nat} (hr:r.l.length<=n) (hv:v.l.length<=n) (hn:n<17592186043904) (ht:iW .i64 th) (ha:iW .i64 arg):QI (n+1) (act M mo th op arg tries o c dn g r v):=by
 have hm:iW .i64 (-1):=⟨by omega,by omega⟩;have hz:iW .i64 0:=⟨by omega,by omega⟩;have e1: ∀q:Int,(none:Option Int)=some q->iW .i64 q:=fun q h=>by simp at h
 have e2: ∀{p:Int},iW .i64 p->∀q:Int,some p=some q->iW .i64 q:=fun hp q h=>by simp only [aIS] at h; exact h▸hp
 have hr1:r.l.length<=n+1:=by omega
 have hv1:v.l.length<=n+1:=by omega
 have w:=@wrap_in
 have sn: ∀{l:List D} {t:Int},(∀x∈l,∃n,x= .i n/\iW .i64 n)->iW .i64 t->∀x∈l++ [.i t],∃n,x= .i n/\iW .i64 n:=fun h ht x hx=>by
  rcases aJE.1 hx with hx|hx
  ·exact h x hx
  ·simp only [aI3,aJG,or_false] at hx;exact⟨_,hx,ht⟩
 have r5:Wd (.sl 0) (dL (r.l++ [.i th])):=zK (sn (zL T.hr) ht) (by simp) (by simp; omega);have l5:(dL (r.l++ [.i th])).l.length<=n+1:=by rw [aW]; simp; omega
 have r20:Wd (.sl 0) (dL (v.l++ [.i arg])):=zK (sn (zL T.hv) ha) (by simp) (by simp; omega);have l20:(dL (v.l++ [.i arg])).l.length<=n+1:=by rw [aW]; simp; omega
 have r12:Wd (.sl 0) (dL (wo th r.l++ [.i th])):=zK (sn (fun x hx=>(zL T.hr) x (aJU.1 hx).1) ht) (by simp) (by have:=alP th r.l; simp; omega);have l12:(dL (wo th r.l++ [.i th])).l.length<=n+1:=by have:=alP th r.l; rw [aW]; simp; omega
 have r6: ∀k,Wd (.sl 0) (fC (.i 2) (r.l.take k++r.l.drop (k+1))):=fun k=>Ll (fun x hx=>by
  rcases aJE.1 hx with hx|hx
  ·exact (zL T.hr) x (aJA hx)
  ·exact (zL T.hr) x (aJv hx)) (by simp only [aJa,aJc,aJt]; omega)
 have l6: ∀k,(fC (.i 2) (r.l.take k++r.l.drop (k+1))).l.length<=n+1:=fun k=>by rw [gI]; simp only [aJa,aJc,aJt]; omega
 have r21:Wd (.sl 0) (fC v (v.l.drop 1)):=Ll (fun x hx=>(zL T.hv) x (aJv hx)) (by simp; omega);have l21:(fC v (v.l.drop 1)).l.length<=n+1:=by rw [gI]; simp; omega
 have r13:Wd (.sl 0) (fC r (r.l.drop 1)):=Ll (fun x hx=>(zL T.hr) x (aJv hx)) (by simp; omega);have l13:(fC r (r.l.drop 1)).l.length<=n+1:=by rw [gI]; simp; omega
 have r14:Wd (.sl 0) (.i 1):=.nil 0;have l14:(D.i 1).l.length<=n+1:=by simp [D.l]
 unfold act
 repeat' refine QI.ite ?_ ?_
 all_goals first
  |trivial
  |exact⟨by first |exact T.ho|exact ht|exact hm,by first |exact T.hc|exact w _|exact ha|exact hz,by first |exact T.hd|exact .inr rfl,by first |exact T.hg|exact w _,by first |exact T.hr|exact r5|exact r6 _|exact r12|exact r13|exact r14,by first |exact hr1|exact l5|exact l6 _|exact l12|exact l13|exact l14,by first |exact T.hv|exact r20|exact r21,by first |exact hv1|exact l20|exact l21,by first |exact e1|exact e2 hm|exact e2 ht,by first |exact .inl rfl|exact .inr rfl⟩
theorem Uy (h12:op≠12) (h24:op≠24):NoM (act M mo th op arg tries o c dn g r v):=by
 unfold act;rw [aIQ h12,aIQ h24]
 repeat' refine NoM.ite ?_ ?_
 all_goals first
  |exact rfl
  |trivial
end
def isN (ys:List Int):Prop:= ∃v:Int,ys= [v]/\iW .i64 v
theorem aqH:isN [0]:=⟨0,rfl,by constructor<;>omega⟩
theorem aqG:isN [1]:=⟨1,rfl,by constructor<;>omega⟩
theorem aBN (z:Int):isN [IntKind.i64.wrap z]:=⟨_,rfl,wrap_in z⟩
theorem Nw: ∀{d x:D},x∈d.l->SizeOf.sizeOf x<SizeOf.sizeOf d
 | .i _,x,h=>by simp [D.l] at h
 | .p a b,x,h=>by
   simp only [D.l,aI3] at h;rcases h with rfl|h
   ·simp only [D.p.sizeOf_spec]; omega
   ·have:=Nw (d:=b) h;simp only [D.p.sizeOf_spec]; omega
def Nums (l:List D):Prop:= ∀y∈l,iW .i64 (avC y).n
theorem apM:Nums []:=fun y h=>by simp at h
theorem GY: ∀{l:List D} {k v:D},Nums l->iW .i64 v.n->Nums (CO l k v)
 |[],k,v,_,hv=>by intro y hy;simp only [CO,aI3,aJG,or_false] at hy;subst hy;exact hv
 |d::l,k,v,hl,hv=>by
  intro y hy;simp only [CO] at hy;split at hy
  ·simp only [aI3] at hy;rcases hy with rfl|hy
   ·exact hv
   ·exact hl y (by simp [hy])
  ·simp only [aI3] at hy;rcases hy with rfl|hy
   ·exact hl _ (by simp)
   ·exact GY (fun z hz=>hl z (by simp [hz])) hv y hy
theorem XR: ∀{l:List D} {k:D},Nums l->iW .i64 ((pF l k).getD (.i 0)).n
 |[],k,_=>by constructor<;>simp [pF,D.n]
 |d::l,k,hl=>by
  simp only [pF];split
  ·exact hl d (by simp)
  ·exact XR fun y hy=>hl y (by simp [hy])
theorem azK {l:List D} {k:D} (h:Nums l):isN [((pF l k).getD (.i 0)).n]:=⟨_,rfl,XR h⟩
def Ints (d:D):Prop:= ∀x∈d.l,iW .i64 x.n
theorem ints_at {d:D} (h:Ints d) {i:Int} (h0: ¬i<0) (h1:i<(d.l.length:Int)):iW .i64 (d.at i).n:=by obtain⟨k,rfl⟩ : ∃k:Nat,i=(k:Int):=⟨i.toNat,by omega⟩;rw [aX (by omega:k<d.l.length)];exact h _ (aIZ _)
set_option maxHeartbeats 4000000 in
theorem Yp: ∀(N:Nat) (kids:D),SizeOf.sizeOf kids<=N->Wd (.sl 6) kids->∀(k n:Int) (s loc:D),iW .i64 n->Ints loc->Tot 1950 [k,enc s,n,enc kids,enc loc] isN
 |0,kids,hN,_,_,_,_,_,_,_=>by exfalso;cases kids<;>simp at hN
 |N+1,kids,hN,hk,k,n,s,loc,hn,hi=>by
  have sub: ∀i:Nat,∃v:Int,iW .i64 v/\(i<kids.l.length->L 1950 [((kids.at (i:Int)).hd 0).n,enc ((kids.at (i:Int)).hd 1),((kids.at (i:Int)).hd 2).n,enc ((kids.at (i:Int)).hd 3),enc loc]=some [v]):=by
   intro i;by_cases hil:i<kids.l.length
   ·obtain⟨k',s',n',ks',he,_,_,hn',h2⟩:=Ec hk hil
    have hsz:SizeOf.sizeOf ks'<SizeOf.sizeOf kids.l[i]:=by rw [he];exact Nw (by rw [aW]; simp)
    have hsz2:=Nw (aIZ hil);obtain⟨ys,hL,v,rfl,hv⟩:=Yp N ks' (by omega) h2 k' n' s' loc hn' hi;refine⟨v,hv,fun _=>?_⟩;rw [aX hil,he];simp only [zg,aIY];exact hL
   ·exact⟨0,by constructor<;>omega,fun h=>absurd h hil⟩
  obtain⟨v0,hv0,h0⟩:=sub 0;obtain⟨v1,hv1,h1⟩:=sub 1;by_cases l1:(kids.l.length:Int)=1
  ·have h0:=h0 (by omega);simp only [aJy] at h0;refine Tot.of ?_;rw [agU];simp only [Xt,zz,l1,h0]
   repeat' first |exact .out ⟨_,rfl,hn⟩|exact .out aqH|exact .out aqG|exact .out (aBN _)|exact .out ⟨_,rfl,ints_at hi ‹_› ‹_›⟩|refine .ite (fun _=>?_) (fun _=>?_)
  ·by_cases l2:(kids.l.length:Int)=2
   ·have h0:=h0 (by omega);have h1:=h1 (by omega);simp only [aJy,aJk] at h0 h1;refine Tot.of ?_;rw [agU];simp only [Xt,zz,l1,l2,h0,h1]
    repeat' first |exact .out ⟨_,rfl,hn⟩|exact .out aqH|exact .out aqG|exact .out (aBN _)|exact .out ⟨_,rfl,ints_at hi ‹_› ‹_›⟩|(simp only [aW]; exact .out (azK (GY (GY (GY apM (wrap_in _)) (wrap_in _)) (wrap_in _))))|refine .ite (fun _=>?_) (fun _=>?_)
   ·refine Tot.of ?_;rw [agU];simp only [Xt,zz,l1,l2]
    repeat' first |exact .out ⟨_,rfl,hn⟩|exact .out aqH|exact .out aqG|exact .out ⟨_,rfl,ints_at hi ‹_› ‹_›⟩|refine .ite (fun _=>?_) (fun _=>?_)
structure Kt (x:D) (a:Int) (lc:D) (w o g tr:Int):Prop where
 is:x=dL [.i a,lc,.i w,.i o,.i g,.i tr]
 ha:iW .i64 a
 hl:Wd (.sl 0) lc
 hw:iW .u8 w
 ho:iW .i64 o
 hg:iW .i64 g
 ht:iW .i64 tr
theorem jI {d:D} (h:Wd (.sl 8) d): ∀x∈d.l,∃a lc w o g tr,Kt x a lc w o g tr:=by intro x hx;obtain⟨r,rfl,hl,hc⟩:=h.elN (cs:=[.int .i64,.sl 0,.int .u8,.int .i64,.int .i64,.int .i64]) rfl x hx;obtain⟨a,b,c,d,e,f,rfl⟩:=six hl;obtain⟨a,rfl,ha⟩:=(hc 0 _ _ rfl rfl).i;obtain⟨w,rfl,hw⟩:=(hc 2 _ _ rfl rfl).i;obtain⟨o,rfl,ho⟩:=(hc 3 _ _ rfl rfl).i;obtain⟨g,rfl,hg⟩:=(hc 4 _ _ rfl rfl).i;obtain⟨t,rfl,ht⟩:=(hc 5 _ _ rfl rfl).i;exact⟨a,b,w,o,g,t,rfl,ha,hc 1 _ _ rfl rfl,hw,ho,hg,ht⟩
structure Tk (d:D):Prop where
 wd:Wd (.sl 8) d
 sh:d=dL d.l
 few:d.l.length<=2199023255500
theorem BM {d:D} (h:Wd (.sl 8) d) (hn:0<d.l.length):Tk d:=by
 refine⟨h,?_,?_⟩
 ·rcases h.sh with rfl|rfl|⟨h1,_⟩
  ·simp [D.l] at hn
  ·simp [D.l] at hn
  ·exact h1
 ·have hr:=h.room;have h3:wZ 8=64:=rfl;rw [h3] at hr;omega
theorem EM (a b c d e f x:D):dZ [a,b,c,d,e,f] 1 x= [a,x,c,d,e,f]:=rfl
theorem aH (j:Nat) (xs:List Int):fin L (.jump j xs)=L j xs:=rfl
theorem aK (ys:List Int):fin L (.out ys)=some ys:=rfl
def Dv (lc:D):Int:=if 0<lc.l.length then 3 else 4
theorem Y5 {lc:D} (h:(0:Int)<(lc.l.length:Int)):Dv lc=3:=aIR (by omega)
theorem ahF (d:D) (h:Th d) (k:D): ∀(j i:Nat),i+j=d.l.length->L 1901 [(d.l.length:Int),(i:Int),enc d,enc k]=L 1910 [(k.l.length:Int),0,enc d,enc k]
 |0,i,hi=>by
  have c1: ¬(i:Int)<(d.l.length:Int):=by omega
  rw [aP,atL];simp only [aeM,zz,c1,aH,aJy]
 |j+1,i,hi=>by
  have hl:=h.few;have hil:i<d.l.length:=by omega
  have c1:(i:Int)<(d.l.length:Int):=by omega
  have c2: ¬((i:Int)<0):=by omega
  have w:=aZ (n:=i) (by omega);have ih:=ahF d h k j (i+1) (by omega);obtain⟨o,c,dn,g,r,v,he,_,_,_,_,hr,hv⟩:=h.wd.thing _ (aIZ hil);have hs:=set_self h.sh hil;rw [he] at hs;rw [aP,atL];rcases bF hr with rfl|rfl|⟨r1,r2⟩ <;>rcases bF hv with rfl|rfl|⟨v1,v2⟩
  all_goals
   simp only [aeM,zz,c1,c2,w,aX hil,he,eP,aW,aI0,aIX,Nz,Ny,hs,len1,len2,nH,iP]
   try simp only [r1,r2,zz]
   try simp only [v1,v2,zz]
   try simp only [aH]
   exact ih
theorem ahE (d:D) (h:Th d): ∀(j i:Nat),i+j=d.l.length->L 1902 [(d.l.length:Int),(i:Int),enc d]=L 1911 [enc d]
 |0,i,hi=>by
  have c1: ¬(i:Int)<(d.l.length:Int):=by omega
  rw [aP,atK];simp only [aeL,zz,c1,aH,aJy]
 |j+1,i,hi=>by
  have hl:=h.few;have hil:i<d.l.length:=by omega
  have c1:(i:Int)<(d.l.length:Int):=by omega
  have c2: ¬((i:Int)<0):=by omega
  have w:=aZ (n:=i) (by omega);have ih:=ahE d h j (i+1) (by omega);obtain⟨o,c,dn,g,r,v,he,_,_,_,_,hr,hv⟩:=h.wd.thing _ (aIZ hil);have hs:=set_self h.sh hil;rw [he] at hs;rw [aP,atK];rcases bF hr with rfl|rfl|⟨r1,r2⟩ <;>rcases bF hv with rfl|rfl|⟨v1,v2⟩
  all_goals
   simp only [aeL,zz,c1,c2,w,aX hil,he,eP,aW,aI0,aIX,Nz,Ny,hs,len1,len2,nH,iP]
   try simp only [r1,r2,zz]
   try simp only [v1,v2,zz]
   try simp only [aH]
   exact ih
theorem WC (d:D) (h:Th d) (x0:Int) (k:D): ∀(j i:Nat),i+j=d.l.length->L 9051 [x0,(d.l.length:Int),(i:Int),enc d,enc k]=L 9060 [x0,(k.l.length:Int),0,enc d,enc k]
 |0,i,hi=>by
  have c1: ¬(i:Int)<(d.l.length:Int):=by omega
  rw [aP,asE];simp only [adM,zz,c1,aH,aJy]
 |j+1,i,hi=>by
  have hl:=h.few;have hil:i<d.l.length:=by omega
  have c1:(i:Int)<(d.l.length:Int):=by omega
  have c2: ¬((i:Int)<0):=by omega
  have w:=aZ (n:=i) (by omega);have ih:=WC d h x0 k j (i+1) (by omega);obtain⟨o,c,dn,g,r,v,he,_,_,_,_,hr,hv⟩:=h.wd.thing _ (aIZ hil);have hs:=set_self h.sh hil;rw [he] at hs;rw [aP,asE];rcases bF hr with rfl|rfl|⟨r1,r2⟩ <;>rcases bF hv with rfl|rfl|⟨v1,v2⟩
  all_goals
   simp only [adM,zz,c1,c2,w,aX hil,he,eP,aW,aI0,aIX,Nz,Ny,hs,len1,len2,nH,iP]
   try simp only [r1,r2,zz]
   try simp only [v1,v2,zz]
   try simp only [aH]
   exact ih
theorem ahD (d:D) (h:Th d) (x0:Int): ∀(j i:Nat),i+j=d.l.length->L 9052 [x0,(d.l.length:Int),(i:Int),enc d]=L 9061 [x0,enc d]
 |0,i,hi=>by
  have c1: ¬(i:Int)<(d.l.length:Int):=by omega
  rw [aP,asD];simp only [adL,zz,c1,aH,aJy]
 |j+1,i,hi=>by
  have hl:=h.few;have hil:i<d.l.length:=by omega
  have c1:(i:Int)<(d.l.length:Int):=by omega
  have c2: ¬((i:Int)<0):=by omega
  have w:=aZ (n:=i) (by omega);have ih:=ahD d h x0 j (i+1) (by omega);obtain⟨o,c,dn,g,r,v,he,_,_,_,_,hr,hv⟩:=h.wd.thing _ (aIZ hil);have hs:=set_self h.sh hil;rw [he] at hs;rw [aP,asD];rcases bF hr with rfl|rfl|⟨r1,r2⟩ <;>rcases bF hv with rfl|rfl|⟨v1,v2⟩
  all_goals
   simp only [adL,zz,c1,c2,w,aX hil,he,eP,aW,aI0,aIX,Nz,Ny,hs,len1,len2,nH,iP]
   try simp only [r1,r2,zz]
   try simp only [v1,v2,zz]
   try simp only [aH]
   exact ih
theorem ahN (k:D) (h:Tk k) (s:D): ∀(j i:Nat),i+j=k.l.length->L 1910 [(k.l.length:Int),(i:Int),enc s,enc k]=some [enc s,enc k]
 |0,i,hi=>by
  have c1: ¬(i:Int)<(k.l.length:Int):=by omega
  rw [aP,atJ];simp only [aeK,zz,c1,aK]
 |j+1,i,hi=>by
  have hl:=h.few;have hil:i<k.l.length:=by omega
  have c1:(i:Int)<(k.l.length:Int):=by omega
  have c2: ¬((i:Int)<0):=by omega
  have w:=aZ (n:=i) (by omega);have ih:=ahN k h s j (i+1) (by omega);obtain⟨a,lc,w',o,g,tr,T⟩:=jI h.wd _ (aIZ hil);have hs:=set_self h.sh hil;rw [T.is] at hs;rw [aP,atJ];rcases bF T.hl with rfl|rfl|⟨r1,r2⟩
  all_goals
   simp only [aeK,zz,c1,c2,w,aX hil,T.is,eP,aW,aI0,aIX,EM,hs,len1,len2,nH,iP]
   try simp only [r1,r2,zz]
   try simp only [aH]
   exact ih
theorem ahM (k:D) (h:Tk k): ∀(j i:Nat),i+j=k.l.length->L 1913 [(k.l.length:Int),(i:Int),enc k]=some [enc (.i 1),enc k]
 |0,i,hi=>by
  have c1: ¬(i:Int)<(k.l.length:Int):=by omega
  rw [aP,atI];simp only [aeJ,zz,c1,aK]
 |j+1,i,hi=>by
  have hl:=h.few;have hil:i<k.l.length:=by omega
  have c1:(i:Int)<(k.l.length:Int):=by omega
  have c2: ¬((i:Int)<0):=by omega
  have w:=aZ (n:=i) (by omega);have ih:=ahM k h j (i+1) (by omega);obtain⟨a,lc,w',o,g,tr,T⟩:=jI h.wd _ (aIZ hil);have hs:=set_self h.sh hil;rw [T.is] at hs;rw [aP,atI];rcases bF T.hl with rfl|rfl|⟨r1,r2⟩
  all_goals
   simp only [aeJ,zz,c1,c2,w,aX hil,T.is,eP,aW,aI0,aIX,EM,hs,len1,len2,nH,iP]
   try simp only [r1,r2,zz]
   try simp only [aH]
   exact ih
theorem ahL (k:D) (h:Tk k) (x0:Int) (s:D): ∀(j i:Nat),(hx:x0<0\/(k.l.length:Int)<=x0)->i+j=k.l.length->L 9060 [x0,(k.l.length:Int),(i:Int),enc s,enc k]=some [0,x0,enc s,enc k]
 |0,i,hx,hi=>by
  have c1: ¬(i:Int)<(k.l.length:Int):=by omega
  rw [aP,YI];by_cases c0:(i:Int)=x0
  ·subst c0;simp only [Gi,zz,c1,aK]
  ·simp only [Gi,zz,c0,c1,aK]
 |j+1,i,hx,hi=>by
  have hl:=h.few;have hil:i<k.l.length:=by omega
  have c1:(i:Int)<(k.l.length:Int):=by omega
  have c2: ¬((i:Int)<0):=by omega
  have c0: ¬((i:Int)=x0):=by omega
  have w:=aZ (n:=i) (by omega);have ih:=ahL k h x0 s j (i+1) hx (by omega);obtain⟨a,lc,w',o,g,tr,T⟩:=jI h.wd _ (aIZ hil);have hs:=set_self h.sh hil;rw [T.is] at hs;rw [aP,YI];rcases bF T.hl with rfl|rfl|⟨r1,r2⟩
  all_goals
   simp only [Gi,zz,c0,c1,c2,w,aX hil,T.is,eP,aW,aI0,aIX,EM,hs,len1,len2,nH,iP]
   try simp only [r1,r2,zz]
   try simp only [aH]
   exact ih
theorem ahK (k:D) (h:Tk k) (x0:Int): ∀(j i:Nat),(hx:x0<0\/(k.l.length:Int)<=x0)->i+j=k.l.length->L 9063 [x0,(k.l.length:Int),(i:Int),enc k]=some [0,x0,enc (.i 1),enc k]
 |0,i,hx,hi=>by
  have c1: ¬(i:Int)<(k.l.length:Int):=by omega
  rw [aP,YH];by_cases c0:(i:Int)=x0
  ·subst c0;simp only [Gh,zz,c1,aK]
  ·simp only [Gh,zz,c0,c1,aK]
 |j+1,i,hx,hi=>by
  have hl:=h.few;have hil:i<k.l.length:=by omega
  have c1:(i:Int)<(k.l.length:Int):=by omega
  have c2: ¬((i:Int)<0):=by omega
  have c0: ¬((i:Int)=x0):=by omega
  have w:=aZ (n:=i) (by omega);have ih:=ahK k h x0 j (i+1) hx (by omega);obtain⟨a,lc,w',o,g,tr,T⟩:=jI h.wd _ (aIZ hil);have hs:=set_self h.sh hil;rw [T.is] at hs;rw [aP,YH];rcases bF T.hl with rfl|rfl|⟨r1,r2⟩
  all_goals
   simp only [Gh,zz,c0,c1,c2,w,aX hil,T.is,eP,aW,aI0,aIX,EM,hs,len1,len2,nH,iP]
   try simp only [r1,r2,zz]
   try simp only [aH]
   exact ih
theorem ahJ (k:D) (h:Tk k) (gi:Nat) (x4 x5 x6 x7 x8 x9:Int) (s:D): ∀(j i:Nat),gi<i->i+j=k.l.length->L 9069 [(gi:Int),(k.l.length:Int),(i:Int),enc s,enc k,x4,x5,x6,x7,x8,x9]=some [3,(gi:Int),enc s,enc k,x4,x5,x6,x7,x8,x9]
 |0,i,hg,hi=>by
  have c1: ¬(i:Int)<(k.l.length:Int):=by omega
  have c0: ¬((i:Int)=(gi:Int)):=by omega
  rw [aP,asC];simp only [adK,zz,c0,c1,aK]
 |j+1,i,hg,hi=>by
  have hl:=h.few;have hil:i<k.l.length:=by omega
  have c1:(i:Int)<(k.l.length:Int):=by omega
  have c2: ¬((i:Int)<0):=by omega
  have c0: ¬((i:Int)=(gi:Int)):=by omega
  have w:=aZ (n:=i) (by omega);have ih:=ahJ k h gi x4 x5 x6 x7 x8 x9 s j (i+1) (by omega) (by omega);obtain⟨a,lc,w',o,g,tr,T⟩:=jI h.wd _ (aIZ hil);have hs:=set_self h.sh hil;rw [T.is] at hs;rw [aP,asC];rcases bF T.hl with rfl|rfl|⟨r1,r2⟩
  all_goals
   simp only [adK,zz,c0,c1,c2,w,aX hil,T.is,eP,aW,aI0,aIX,EM,hs,len1,len2,nH,iP]
   try simp only [r1,r2,zz]
   try simp only [aH]
   exact ih
theorem WG (k:D) (h:Tk k) (gi:Nat) (x4 x5 x6 x7 x8 x9:Int) (s:D): ∀(j i:Nat),gi<i->i+j=k.l.length->L 9070 [(gi:Int),(k.l.length:Int),(i:Int),enc s,enc k,x4,x5,x6,x7,x8,x9]=some [4,(gi:Int),enc s,enc k,x4,x5,x6,x7,x8,x9]
 |0,i,hg,hi=>by
  have c1: ¬(i:Int)<(k.l.length:Int):=by omega
  have c0: ¬((i:Int)=(gi:Int)):=by omega
  rw [aP,asB];simp only [adJ,zz,c0,c1,aK]
 |j+1,i,hg,hi=>by
  have hl:=h.few;have hil:i<k.l.length:=by omega
  have c1:(i:Int)<(k.l.length:Int):=by omega
  have c2: ¬((i:Int)<0):=by omega
  have c0: ¬((i:Int)=(gi:Int)):=by omega
  have w:=aZ (n:=i) (by omega);have ih:=WG k h gi x4 x5 x6 x7 x8 x9 s j (i+1) (by omega) (by omega);obtain⟨a,lc,w',o,g,tr,T⟩:=jI h.wd _ (aIZ hil);have hs:=set_self h.sh hil;rw [T.is] at hs;rw [aP,asB];rcases bF T.hl with rfl|rfl|⟨r1,r2⟩
  all_goals
   simp only [adJ,zz,c0,c1,c2,w,aX hil,T.is,eP,aW,aI0,aIX,EM,hs,len1,len2,nH,iP]
   try simp only [r1,r2,zz]
   try simp only [aH]
   exact ih
theorem ahI (k:D) (h:Tk k) (gi:Nat) (x4 x5 x6 x7 x8 x9:Int): ∀(j i:Nat),gi<i->i+j=k.l.length->L 9071 [(gi:Int),(k.l.length:Int),(i:Int),enc k,x4,x5,x6,x7,x8,x9]=some [3,(gi:Int),enc (.i 1),enc k,x4,x5,x6,x7,x8,x9]
 |0,i,hg,hi=>by
  have c1: ¬(i:Int)<(k.l.length:Int):=by omega
  have c0: ¬((i:Int)=(gi:Int)):=by omega
  rw [aP,asA];simp only [adI,zz,c0,c1,aK]
 |j+1,i,hg,hi=>by
  have hl:=h.few;have hil:i<k.l.length:=by omega
  have c1:(i:Int)<(k.l.length:Int):=by omega
  have c2: ¬((i:Int)<0):=by omega
  have c0: ¬((i:Int)=(gi:Int)):=by omega
  have w:=aZ (n:=i) (by omega);have ih:=ahI k h gi x4 x5 x6 x7 x8 x9 j (i+1) (by omega) (by omega);obtain⟨a,lc,w',o,g,tr,T⟩:=jI h.wd _ (aIZ hil);have hs:=set_self h.sh hil;rw [T.is] at hs;rw [aP,asA];rcases bF T.hl with rfl|rfl|⟨r1,r2⟩
  all_goals
   simp only [adI,zz,c0,c1,c2,w,aX hil,T.is,eP,aW,aI0,aIX,EM,hs,len1,len2,nH,iP]
   try simp only [r1,r2,zz]
   try simp only [aH]
   exact ih
theorem WE (k:D) (h:Tk k) (gi:Nat) (x4 x5 x6 x7 x8 x9:Int): ∀(j i:Nat),gi<i->i+j=k.l.length->L 9072 [(gi:Int),(k.l.length:Int),(i:Int),enc k,x4,x5,x6,x7,x8,x9]=some [4,(gi:Int),enc (.i 1),enc k,x4,x5,x6,x7,x8,x9]
 |0,i,hg,hi=>by
  have c1: ¬(i:Int)<(k.l.length:Int):=by omega
  have c0: ¬((i:Int)=(gi:Int)):=by omega
  rw [aP,arZ];simp only [adH,zz,c0,c1,aK]
 |j+1,i,hg,hi=>by
  have hl:=h.few;have hil:i<k.l.length:=by omega
  have c1:(i:Int)<(k.l.length:Int):=by omega
  have c2: ¬((i:Int)<0):=by omega
  have c0: ¬((i:Int)=(gi:Int)):=by omega
  have w:=aZ (n:=i) (by omega);have ih:=WE k h gi x4 x5 x6 x7 x8 x9 j (i+1) (by omega) (by omega);obtain⟨a,lc,w',o,g,tr,T⟩:=jI h.wd _ (aIZ hil);have hs:=set_self h.sh hil;rw [T.is] at hs;rw [aP,arZ];rcases bF T.hl with rfl|rfl|⟨r1,r2⟩
  all_goals
   simp only [adH,zz,c0,c1,c2,w,aX hil,T.is,eP,aW,aI0,aIX,EM,hs,len1,len2,nH,iP]
   try simp only [r1,r2,zz]
   try simp only [aH]
   exact ih
theorem ahH (k:D) (h:Tk k) (s:D) (gi:Nat) (hgi:gi<k.l.length) (a:Int) (lc:D) (w o g tr:Int) (T:Kt k.l[gi] a lc w o g tr): ∀(j i:Nat),i+j=gi->L 9060 [(gi:Int),(k.l.length:Int),(i:Int),enc s,enc k]=some [Dv lc,(gi:Int),enc s,enc k,a,enc lc,w,o,g,tr]
 |0,i,hi=>by
  have hl:=h.few;have he:i=gi:=by omega
  subst he;have c1:(i:Int)<(k.l.length:Int):=by omega
  have c2: ¬((i:Int)<0):=by omega
  have w':=aZ (n:=i) (by omega);rw [aP,YI];rcases bF T.hl with rfl|rfl|⟨r1,r2⟩
  ·have ih:=WG k h i a (enc (.i 1)) w o g tr s (k.l.length-(i+1)) (i+1) (by omega) (by omega);simp only [Gi,zz,c1,c2,w',aX hgi,T.is,eP,aW,aI0,aIX,aKW,aKh,len1,len2,nH,iP,aH];exact ih
  ·have ih:=WG k h i a (enc (.i 2)) w o g tr s (k.l.length-(i+1)) (i+1) (by omega) (by omega);simp only [Gi,zz,c1,c2,w',aX hgi,T.is,eP,aW,aI0,aIX,aKW,aKh,len1,len2,nH,iP,aH];exact ih
  ·have ih:=ahJ k h i a (enc lc) w o g tr s (k.l.length-(i+1)) (i+1) (by omega) (by omega);simp only [Gi,zz,c1,c2,w',aX hgi,T.is,eP,aW,aI0,aIX,len1,len2,nH,iP];simp only [r1,r2,zz,aH];rw [Y5 r1];exact ih
 |j+1,i,hi=>by
  have hl:=h.few;have hil:i<k.l.length:=by omega
  have c1:(i:Int)<(k.l.length:Int):=by omega
  have c2: ¬((i:Int)<0):=by omega
  have c0: ¬((i:Int)=(gi:Int)):=by omega
  have w1:=aZ (n:=i) (by omega);have ih:=ahH k h s gi hgi a lc w o g tr T j (i+1) (by omega);obtain⟨a',lc',w',o',g',tr',T'⟩:=jI h.wd _ (aIZ hil);have hs:=set_self h.sh hil;rw [T'.is] at hs;rw [aP,YI];rcases bF T'.hl with rfl|rfl|⟨r1,r2⟩
  all_goals
   simp only [Gi,zz,c0,c1,c2,w1,aX hil,T'.is,eP,aW,aI0,aIX,EM,hs,len1,len2,nH,iP]
   try simp only [r1,r2,zz]
   try simp only [aH]
   exact ih
theorem ahG (k:D) (h:Tk k) (gi:Nat) (hgi:gi<k.l.length) (a:Int) (lc:D) (w o g tr:Int) (T:Kt k.l[gi] a lc w o g tr): ∀(j i:Nat),i+j=gi->L 9063 [(gi:Int),(k.l.length:Int),(i:Int),enc k]=some [Dv lc,(gi:Int),enc (.i 1),enc k,a,enc lc,w,o,g,tr]
 |0,i,hi=>by
  have hl:=h.few;have he:i=gi:=by omega
  subst he;have c1:(i:Int)<(k.l.length:Int):=by omega
  have c2: ¬((i:Int)<0):=by omega
  have w':=aZ (n:=i) (by omega);rw [aP,YH];rcases bF T.hl with rfl|rfl|⟨r1,r2⟩
  ·have ih:=WE k h i a (enc (.i 1)) w o g tr (k.l.length-(i+1)) (i+1) (by omega) (by omega);simp only [Gh,zz,c1,c2,w',aX hgi,T.is,eP,aW,aI0,aIX,aKW,aKh,len1,len2,nH,iP,aH];exact ih
  ·have ih:=WE k h i a (enc (.i 2)) w o g tr (k.l.length-(i+1)) (i+1) (by omega) (by omega);simp only [Gh,zz,c1,c2,w',aX hgi,T.is,eP,aW,aI0,aIX,aKW,aKh,len1,len2,nH,iP,aH];exact ih
  ·have ih:=ahI k h i a (enc lc) w o g tr (k.l.length-(i+1)) (i+1) (by omega) (by omega);simp only [Gh,zz,c1,c2,w',aX hgi,T.is,eP,aW,aI0,aIX,len1,len2,nH,iP];simp only [r1,r2,zz,aH];rw [Y5 r1];exact ih
 |j+1,i,hi=>by
  have hl:=h.few;have hil:i<k.l.length:=by omega
  have c1:(i:Int)<(k.l.length:Int):=by omega
  have c2: ¬((i:Int)<0):=by omega
  have c0: ¬((i:Int)=(gi:Int)):=by omega
  have w1:=aZ (n:=i) (by omega);have ih:=ahG k h gi hgi a lc w o g tr T j (i+1) (by omega);obtain⟨a',lc',w',o',g',tr',T'⟩:=jI h.wd _ (aIZ hil);have hs:=set_self h.sh hil;rw [T'.is] at hs;rw [aP,YH];rcases bF T'.hl with rfl|rfl|⟨r1,r2⟩
  all_goals
   simp only [Gh,zz,c0,c1,c2,w1,aX hil,T'.is,eP,aW,aI0,aIX,EM,hs,len1,len2,nH,iP]
   try simp only [r1,r2,zz]
   try simp only [aH]
   exact ih
structure Sk (s k:D):Prop where
 ws:Wd (.sl 7) s
 wk:Wd (.sl 8) k
 n2s:s≠.i 2
 n2k:k≠.i 2
theorem Oc {t:Nat} {d:D} (h:Wd (.sl t) d) (h2:d≠.i 2):d= .i 1\/0<d.l.length:=by
 rcases h.sh with h1|h1|⟨_,h1⟩
 ·exact .inl h1
 ·exact absurd h1 h2
 ·exact .inr (aJS.2 h1)
theorem ayW (x0:Int) (s:D):L 9061 [x0,enc s]=some [1,x0,enc s]:=by rw [aP,aBU];simp only [amI,zz];split<;>rfl
theorem ayV (x0:Int):L 9064 [x0]=some [1,x0,enc (.i 1)]:=by rw [aP,aBT];simp only [amH,zz];split<;>rfl
theorem ayY (s:D):L 1911 [enc s]=some [enc s,enc (.i 1)]:=by rw [aP,aCq];rfl
theorem ayX:L 1914 []=some [enc (.i 1),enc (.i 1)]:=by rw [aP,aCp];rfl
theorem arB (x0:Int) (k:D):L 9054 [x0,enc k]=L 9063 [x0,(k.l.length:Int),0,enc k]:=by rw [aP,aBW];simp only [amJ,zz,aH]
theorem aDV (x0:Int):L 9055 [x0]=L 9064 [x0]:=by rw [aP,aBV];rfl
theorem aDX (k:D):L 1904 [enc k]=L 1913 [(k.l.length:Int),0,enc k]:=by rw [aP,aCs];simp only [anN,zz,aH]
theorem aDW:L 1905 []=L 1914 []:=by rw [aP,aCr];rfl
section
variable {s k:D} (h:Sk s k)
include h
theorem Us:L 1900 [enc s,enc k]=some [enc s,enc k]:=by
 rw [aP,aCt];rcases Oc h.ws h.n2s with rfl|hs<;>rcases Oc h.wk h.n2k with rfl|hk
 ·simp only [Ru,zz,len1,nH,aH];exact aDW.trans ayX
 ·have hK:=BM h.wk hk;have hl:=hK.few;have c1:(0:Int)<(k.l.length:Int):=by omega
  have c2:(k.l.length:Int)<2199023255552:=by omega
  simp only [Ru,zz,len1,nH,c1,c2,aH];exact (aDX k).trans (ahM k hK k.l.length 0 (by omega))
 ·have hT:=BO h.ws hs;have hl:=hT.few;have c1:(0:Int)<(s.l.length:Int):=by omega
  have c2:(s.l.length:Int)<1759218604441:=by omega
  simp only [Ru,zz,len1,nH,c1,c2,aH];exact (ahE s hT s.l.length 0 (by omega)).trans (ayY s)
 ·have hT:=BO h.ws hs;have hl:=hT.few;have c1:(0:Int)<(s.l.length:Int):=by omega
  have c2:(s.l.length:Int)<1759218604441:=by omega
  have hK:=BM h.wk hk;have hl':=hK.few;have c1':(0:Int)<(k.l.length:Int):=by omega
  have c2':(k.l.length:Int)<2199023255552:=by omega
  simp only [Ru,zz,nH,c1,c2,c1',c2',aH];exact (ahF s hT k s.l.length 0 (by omega)).trans (ahN k hK s k.l.length 0 (by omega))
theorem Ut {gi:Nat} (hgi:gi<k.l.length) {a:Int} {lc:D} {w o g tr:Int} (T:Kt k.l[gi] a lc w o g tr):L 9050 [(gi:Int),enc s,enc k]=some [Dv lc,(gi:Int),enc s,enc k,a,enc lc,w,o,g,tr]:=by
 have hk:0<k.l.length:=by omega
 have hK:=BM h.wk hk;have hl':=hK.few;have c1':(0:Int)<(k.l.length:Int):=by omega
 have c2':(k.l.length:Int)<2199023255552:=by omega
 rw [aP,asF];rcases Oc h.ws h.n2s with rfl|hs
 ·simp only [JH,zz,len1,nH,c1',c2',aH];exact (arB _ k).trans (ahG k hK gi hgi a lc w o g tr T gi 0 (by omega))
 ·have hT:=BO h.ws hs;have hl:=hT.few;have c1:(0:Int)<(s.l.length:Int):=by omega
  have c2:(s.l.length:Int)<1759218604441:=by omega
  simp only [JH,zz,nH,c1,c2,c1',c2',aH];exact (WC s hT _ k s.l.length 0 (by omega)).trans (ahH k hK s gi hgi a lc w o g tr T gi 0 (by omega))
theorem akV {x:Int} (hx:x<0\/(k.l.length:Int)<=x):L 9050 [x,enc s,enc k]=some [0,x,enc s,enc k]\/L 9050 [x,enc s,enc k]=some [1,x,enc s]/\k= .i 1:=by
 rw [aP,asF];rcases Oc h.ws h.n2s with rfl|hs<;>rcases Oc h.wk h.n2k with rfl|hk
 ·refine .inr ⟨?_,rfl⟩;simp only [JH,zz,len1,nH,aH];exact (aDV _).trans (ayV _)
 ·have hK:=BM h.wk hk;have hl:=hK.few;have c1:(0:Int)<(k.l.length:Int):=by omega
  have c2:(k.l.length:Int)<2199023255552:=by omega
  refine .inl ?_;simp only [JH,zz,len1,nH,c1,c2,aH];exact (arB _ k).trans (ahK k hK _ k.l.length 0 hx (by omega))
 ·have hT:=BO h.ws hs;have hl:=hT.few;have c1:(0:Int)<(s.l.length:Int):=by omega
  have c2:(s.l.length:Int)<1759218604441:=by omega
  refine .inr ⟨?_,rfl⟩;simp only [JH,zz,len1,nH,c1,c2,aH];exact (ahD s hT _ s.l.length 0 (by omega)).trans (ayW _ s)
 ·have hT:=BO h.ws hs;have hl:=hT.few;have c1:(0:Int)<(s.l.length:Int):=by omega
  have c2:(s.l.length:Int)<1759218604441:=by omega
  have hK:=BM h.wk hk;have hl':=hK.few;have c1':(0:Int)<(k.l.length:Int):=by omega
  have c2':(k.l.length:Int)<2199023255552:=by omega
  refine .inl ?_;simp only [JH,zz,nH,c1,c2,c1',c2',aH];exact (WC s hT _ k s.l.length 0 (by omega)).trans (ahL k hK _ s k.l.length 0 hx (by omega))
end
def EqI (a b:D) (i:Nat):Prop:= ∀(k:Nat) (h1:k<a.l.length) (h2:k<b.l.length),i<=k->(a.l[k]).n=(b.l[k]).n
theorem EqI.step {a b:D} {i:Nat} (h1:i<a.l.length) (h2:i<b.l.length) (h:(a.l[i]).n=(b.l[i]).n):EqI a b i↔EqI a b (i+1):=by
 constructor
 ·intro q k x y z;exact q k x y (by omega)
 ·intro q k x y z;by_cases hk:k=i
  ·subst hk;exact h
  ·exact q k x y (by omega)
theorem EqI.end' {a b:D} {i:Nat} (h:a.l.length<=i):EqI a b i:=fun k h1 _ h3=>absurd h1 (by omega)
section
variable {a b:D} (hle:a.l.length=b.l.length) (hlen:a.l.length<=140737488351232)
include hle hlen
theorem TD: ∀(j i:Nat),i+j=a.l.length->∃c:Int,L 251 [enc a,enc b,(i:Int)]=some [c]/\(c=0\/c=1)/\(c=1↔EqI a b i)
 |0,i,hi=>by
  have c1: ¬(i:Int)<(a.l.length:Int):=by omega
  refine⟨1,?_,.inr rfl,fun _=>EqI.end' (by omega),fun _=>rfl⟩;rw [aP,e251];simp only [anJ,zz,c1,fin]
 |j+1,i,hi=>by
  have hil:i<a.l.length:=by omega
  have hib:i<b.l.length:=by omega
  have c1:(i:Int)<(a.l.length:Int):=by omega
  have c2: ¬((i:Int)<0):=by omega
  have c3:(i:Int)<(b.l.length:Int):=by omega
  have w:=aZ (n:=i) (by omega);obtain⟨c,h1,h2,h3⟩:=TD j (i+1) (by omega);by_cases he:(a.l[i]).n=(b.l[i]).n
  ·refine⟨c,?_,h2,h3.trans (EqI.step hil hib he).symm⟩;rw [aP,e251];simp only [anJ,zz,c1,c2,c3,w,aX hil,aX hib,he,fin,h1]
  ·refine⟨0,?_,.inl rfl,fun h=>absurd h (by omega),fun h=>absurd (h i hil hib (aIV i)) he⟩;rw [aP,e251];simp only [anJ,zz,c1,c2,c3,w,aX hil,aX hib,he,fin]
end
def awK (a b:D):Prop:=a.l.length=b.l.length/\EqI a b 0
theorem ajS (a b:D) (hlen:a.l.length<=140737488351232): ∃c:Int,L 250 [enc a,enc b]=some [c]/\(c=0\/c=1)/\(c=1↔awK a b):=by
 by_cases hl:a.l.length=b.l.length
 ·obtain⟨c,h1,h2,h3⟩:=TD hl hlen a.l.length 0 (by omega);refine⟨c,?_,h2,h3.trans ⟨fun h=> ⟨hl,h⟩,fun h=>h.2⟩⟩;have hl':(a.l.length:Int)=(b.l.length:Int):=by omega
  rw [aP,e250,axS,dP,aIR,pO]
  ·simp only [List.map,bU,aY,Nat.reduceLT,aQ,aT,fin];exact h1
  ·simp only [jB,iL,aY,Nat.reduceLT,aQ,aT,aF,jD];exact hl'
 ·refine⟨0,?_,.inl rfl,fun h=>absurd h (by omega),fun h=>absurd h.1 hl⟩;have hl': ¬(a.l.length:Int)=(b.l.length:Int):=by omega
  rw [aP,e250,axS,dP,aIQ]
  ·simp only [kM,List.map,bU,fin]
  ·simp only [jB,iL,aY,Nat.reduceLT,aQ,aT,aF,jD];exact hl'
theorem Ri (x y:D) (hle:x.l.length=y.l.length) (hlen:x.l.length<=140737488351232) (x0 x1 x2:Int) (i:Nat) (hi:i<9223372036854775807) (c:Int) (hc:c=0\/c=1) (h:L 201 [x0,x1,x2,((i+1:Nat):Int)]=some [c]) (x6 x7 x8 x9 x10 x12 x13 x14 x15 x16:Int) :
 ∀(j k:Nat),k+j=x.l.length->∃e:Int,L 202 [x0,x1,x2,(i:Int),(x.l.length:Int),(k:Int),x6,x7,x8,x9,x10,enc x,x12,x13,x14,x15,x16,enc y]=some [e]/\(e=0\/e=1)/\(e=1↔EqI x y k/\c=1)
 |0,k,hk=>by
  have c1: ¬(k:Int)<(x.l.length:Int):=by omega
  have w:=aZ (n:=i) (by omega);refine⟨c,?_,hc,fun h=> ⟨EqI.end' (by omega),h⟩,fun h=>h.2⟩;rw [aP,aAI];simp only [anM,zz,c1,w,fin,h]
 |j+1,k,hk=>by
  have hil:k<x.l.length:=by omega
  have hib:k<y.l.length:=by omega
  have c1:(k:Int)<(x.l.length:Int):=by omega
  have c2: ¬((k:Int)<0):=by omega
  have c3:(k:Int)<(y.l.length:Int):=by omega
  have w:=aZ (n:=k) (by omega);obtain⟨e,h1,h2,h3⟩:=Ri x y hle hlen x0 x1 x2 i hi c hc h x6 x7 x8 x9 x10 x12 x13 x14 x15 x16 j (k+1) (by omega);by_cases he:(x.l[k]).n=(y.l[k]).n
  ·refine⟨e,?_,h2,h3.trans ⟨fun q=> ⟨(EqI.step hil hib he).2 q.1,q.2⟩,fun q=> ⟨(EqI.step hil hib he).1 q.1,q.2⟩⟩⟩;rw [aP,aAI];simp only [anM,zz,c1,c2,c3,w,aX hil,aX hib,he,fin,h1]
  ·refine⟨0,?_,.inl rfl,fun h=>absurd h (by omega),fun h=>absurd (h.1 k hil hib (aIV k)) he⟩;rw [aP,aAI];simp only [anM,zz,c1,c2,c3,w,aX hil,aX hib,he,fin]
theorem nG (ρ) (a b:SB):((SB.and a b).den ρ=true)=(a.den ρ=true/\b.den ρ=true):=by simp [SB.den]
structure aHC (x y:D):Prop where
 o:(x.hd 0).n=(y.hd 0).n
 c:(x.hd 1).n=(y.hd 1).n
 d:(x.hd 2).n=0↔(y.hd 2).n=0
 g:(x.hd 3).n=(y.hd 3).n
 r:awK (x.hd 4) (y.hd 4)
 v:awK (x.hd 5) (y.hd 5)
def Za (a b:D) (i:Nat):Prop:= ∀(k:Nat) (h1:k<a.l.length) (h2:k<b.l.length),i<=k->aHC a.l[k] b.l[k]
theorem bits {p q:Int}:((¬(¬p=0/\¬q=0))/\¬(¬¬p=0/\¬¬q=0))↔¬(p=0↔q=0):=by omega
def Vb (s:D):Prop:= ∀x∈s.l,(x.hd 4).l.length<=140737488351232/\(x.hd 5).l.length<=140737488351232
section
variable {a b:D} (hle:a.l.length=b.l.length) (hlen:a.l.length<=140737488351232) (hr:Vb a)
include hle hlen hr
theorem RQ: ∀(j i:Nat),i+j=a.l.length->∃c:Int,L 201 [enc a,enc b,(a.l.length:Int),(i:Int)]=some [c]/\(c=0\/c=1)/\(c=1↔Za a b i)
 |0,i,hi=>by
  have c1: ¬(i:Int)<(a.l.length:Int):=by omega
  refine⟨1,?_,.inr rfl,fun _ k h1 _ h3=>absurd h1 (by omega),fun _=>rfl⟩;rw [aP,Wu];simp only [t201,zz,c1,fin]
 |j+1,i,hi=>by
  have hil:i<a.l.length:=by omega
  have hib:i<b.l.length:=by omega
  have c1:(i:Int)<(a.l.length:Int):=by omega
  have c2: ¬((i:Int)<0):=by omega
  have c3:(i:Int)<(b.l.length:Int):=by omega
  obtain⟨c,h1,h2,h3⟩:=RQ j (i+1) (by omega);have hb:=hr _ (aIZ hil);by_cases b0:((a.l[i]).hd 0).n=((b.l[i]).hd 0).n
  case neg=>
   refine⟨0,?_,.inl rfl,fun h=>absurd h (by omega),fun h=>absurd (h i hil hib (aIV i)).o b0⟩;rw [aP,Wu];simp only [t201,zz,c1,c2,c3,aX hil,aX hib,b0,fin]
  by_cases b1:((a.l[i]).hd 1).n=((b.l[i]).hd 1).n
  case neg=>
   refine⟨0,?_,.inl rfl,fun h=>absurd h (by omega),fun h=>absurd (h i hil hib (aIV i)).c b1⟩;rw [aP,Wu];simp only [t201,zz,c1,c2,c3,aX hil,aX hib,b0,b1,fin]
  by_cases b2:(((a.l[i]).hd 2).n=0↔((b.l[i]).hd 2).n=0)
  case neg=>
   refine⟨0,?_,.inl rfl,fun h=>absurd h (by omega),fun h=>absurd (h i hil hib (aIV i)).d b2⟩;rw [aP,Wu];have b2':=bits.2 b2;simp only [t201,zz,nG,NC,c1,c2,c3,aX hil,aX hib,b0,b1,aIR b2',fin]
  have b2': ¬_:=fun h=>bits.1 h b2;by_cases b3:((a.l[i]).hd 3).n=((b.l[i]).hd 3).n
  case neg=>
   refine⟨0,?_,.inl rfl,fun h=>absurd h (by omega),fun h=>absurd (h i hil hib (aIV i)).g b3⟩;rw [aP,Wu];simp only [t201,zz,nG,NC,c1,c2,c3,aX hil,aX hib,b0,b1,aIQ b2',b3,fin]
  obtain⟨e,g1,g2,g3⟩:=ajS ((a.l[i]).hd 4) ((b.l[i]).hd 4) hb.1;by_cases b4:e=0
  ·subst b4;refine⟨0,?_,.inl rfl,fun h=>absurd h (by omega),fun h=>absurd (g3.2 (h i hil hib (aIV i)).r) (by omega)⟩;rw [aP,Wu];simp only [t201,zz,nG,NC,c1,c2,c3,aX hil,aX hib,b0,b1,aIQ b2',b3,g1,fin]
  have he:e=1:=by omega
  subst he;by_cases b5:((a.l[i]).hd 5).l.length=((b.l[i]).hd 5).l.length
  case neg=>
   have b5': ¬(((a.l[i]).hd 5).l.length:Int)=(((b.l[i]).hd 5).l.length:Int):=by omega
   refine⟨0,?_,.inl rfl,fun h=>absurd h (by omega),fun h=>absurd (h i hil hib (aIV i)).v.1 b5⟩;rw [aP,Wu];simp only [t201,zz,nG,NC,c1,c2,c3,aX hil,aX hib,b0,b1,aIQ b2',b3,g1,aC,b5',fin]
  have b5':(((a.l[i]).hd 5).l.length:Int)=(((b.l[i]).hd 5).l.length:Int):=by omega
  obtain⟨f,f1,f2,f3⟩:=Ri ((a.l[i]).hd 5) ((b.l[i]).hd 5) b5 hb.2 (enc a) (enc b) (a.l.length:Int) i (by omega) c h2 h1 ((b.l[i]).hd 0).n ((b.l[i]).hd 1).n ((a.l[i]).hd 2).n ((b.l[i]).hd 3).n (enc ((a.l[i]).hd 4)) ((b.l[i]).hd 0).n ((b.l[i]).hd 1).n ((b.l[i]).hd 2).n ((b.l[i]).hd 3).n (enc ((b.l[i]).hd 4)) ((a.l[i]).hd 5).l.length 0 (by omega);refine⟨f,?_,f2,fun h k k1 k2 k3=>?_,fun h=>f3.2 ⟨(h i hil hib (aIV i)).v.2,h3.2 fun k k1 k2 k3=>h k k1 k2 (by omega)⟩⟩
  ·rw [aP,Wu];rw [b5'] at f1;simp only [t201,zz,nG,NC,c1,c2,c3,aX hil,aX hib,b0,b1,aIQ b2',b3,g1,aC,b5',fin];exact f1
  ·by_cases hk:k=i
   ·subst hk;exact⟨b0,b1,b2,b3,g3.1 rfl,b5,(f3.1 h).1⟩
   ·exact h3.1 (f3.1 h).2 k k1 k2 (by omega)
end
theorem aiO (a b:D) (hlen:a.l.length<=140737488351232) (hr:Vb a): ∃c:Int,L 200 [enc a,enc b]=some [c]/\(c=0\/c=1)/\(c=1↔a.l.length=b.l.length/\Za a b 0):=by
 by_cases hl:a.l.length=b.l.length
 ·obtain⟨c,h1,h2,h3⟩:=RQ hl hlen hr a.l.length 0 (by omega);refine⟨c,?_,h2,h3.trans ⟨fun h=> ⟨hl,h⟩,fun h=>h.2⟩⟩;have hl':(a.l.length:Int)=(b.l.length:Int):=by omega
  rw [aP,aE4,axT,dP,aIR,pO]
  ·simp only [List.map,bU,iL,jD,aY,Nat.reduceLT,aQ,aT,aF,fin];exact h1
  ·simp only [jB,iL,aY,Nat.reduceLT,aQ,aT,aF,jD];exact hl'
 ·refine⟨0,?_,.inl rfl,fun h=>absurd h (by omega),fun h=>absurd h.1 hl⟩;have hl': ¬(a.l.length:Int)=(b.l.length:Int):=by omega
  rw [aP,aE4,axT,dP,aIQ]
  ·simp only [kM,List.map,bU,fin]
  ·simp only [jB,iL,aY,Nat.reduceLT,aQ,aT,aF,jD];exact hl'
theorem arY (x0 x4 x5 x6 x7 x8 x10 x11 x12 x14:Int):Tot 501 [x0,enc (.i 1),0,0,x4,x5,x6,x7,x8,-1,x10,x11,x12,enc (.i 1),x14] (fun ys=>ys= [1]):=by
 refine Tot.of ?_;rw [akP,Xq,dP,aIQ]
 ·simp only [zz,wY,aI7]
  repeat' first
   |exact .out rfl
   |(exfalso; omega)
   |refine .ite (fun _=>?_) (fun _=>?_)
 ·simp only [oW,aY,Nat.reduceLT,aQ,aT];omega
theorem aiI (k n x1 x3 x4:Int) (m:Nat) (h3:k=3->1<=n) (h5:k=5->1<=n/\n<=16) :
 Tot 500 [k,x1,n,x3,x4,-1,(if k=3\/k=9 then n else 0),0,0,enc (.i 1),enc (.i 1),(m:Int)] (fun ys=>ys= [1]):=by
 have w:k=5->IntKind.i64.wrap (n-1)=n-1:=fun h=>lW (by have:=h5 h; omega) (by have:=h5 h; omega)
 have aIe: ∃a b:Int,L 650 [k,x1,n,x3,x4]=some [a,b]/\(b=0\/b=1)/\(b≠0->k≠9/\0<=(if k=3\/k=9 then n else 0)/\(if k=3\/k=9 then n else 0)<=a):=by
  have:Tot 650 [k,x1,n,x3,x4] (fun ys=> ∃a b:Int,ys= [a,b]/\(b=0\/b=1)/\(b≠0->k≠9/\0<=(if k=3\/k=9 then n else 0)/\(if k=3\/k=9 then n else 0)<=a)):=by
   refine Tot.of ?_;rw [aAE];simp only [amN,zz]
   repeat' first
    |exact .out ⟨_,_,rfl,by omega,fun h=> ⟨by omega,by split<;>omega,by split<;>omega⟩⟩
    |refine .ite (fun _=>?_) (fun _=>?_)
   all_goals exact .out ⟨_,_,rfl,by omega,fun h=> ⟨by omega,by split<;>omega,by rw [w (by assumption)]; have:=h5 (by assumption); split<;>omega⟩⟩
  obtain⟨ys,h,a,b,rfl,h2⟩:=this;exact⟨a,b,h,h2⟩
 obtain⟨a,b,hm,hb,hr⟩:=aIe;refine Tot.of ?_;rw [aAF];simp only [aiE,zz,hm,wY,aI7]
 repeat' first
  |exact .out rfl
  |exact .jump (arY _ _ _ _ _ _ _ _ _ _)
  |(exfalso; omega)
  |refine .ite (fun _=>?_) (fun _=>?_)
theorem akX {d0:D} (hl:d0.l.length<=64) (hn:0<d0.l.length):L 301 [enc d0,(d0.l.length:Int)]=some [enc (dL (d0.l.map jY))]:=by
 have e0:=P7 d0 hl (d0.l.length-1) 1 [jY (d0.l[0]'hn)] (by omega) rfl
 have e1:[jY (d0.l[0]'hn)]++(d0.l.drop 1).map jY=d0.l.map jY:=by
  conv=>rhs; rw [<- aJT (l:=d0.l),aJq hn]
  rfl
 rw [e1] at e0;have a0:d0.at 0=d0.l[0]'hn:=aX (i:=0) hn;have c1:(0:Int)<(d0.l.length:Int):=by omega
 have key: ∀q:Int,q=(if (((d0.l[0]'hn)).hd 0).n=3\/((d0.l[0]'hn).hd 0).n=9 then ((d0.l[0]'hn).hd 2).n else 0)->enc (dL [jY (d0.l[0]'hn)])=enc (.p (.p (.i (-1)) (.p (.i q) (.p (.i 0) (.p (.i 0) (.p (.i 1) (.p (.i 1) (.i 0))))))) (.i 0)):=fun q hq=>by rw [hq]; rfl
 have k:dY (bT L (low [enc d0,(d0.l.length:Int)])) ZE= .jump 302 [enc (dL [jY (d0.l[0]'hn)]),enc d0,(d0.l.length:Int),1]:=by
  by_cases h3:((d0.l[0]'hn).hd 0).n=3
  ·rw [key _ (by rw [aIR (.inl h3)])];simp only [ZE,zz,c1,a0,wY,aI1,h3,dL]
  ·by_cases h9:((d0.l[0]'hn).hd 0).n=9
   ·rw [key _ (by rw [aIR (.inr h9)])];simp only [ZE,zz,c1,a0,wY,aI1,aIQ h3,aIR h9,dL]
   ·rw [key 0 (by rw [aIQ (by omega)])];simp only [ZE,zz,c1,a0,wY,aI1,aIQ h3,aIQ h9,dL]
 rw [aP,e301];exact (congrArg (fin L) k).trans e0
theorem avX {d0 d1:D} (hc:L 450 [enc d0,enc d1]=some [0]) (hl:d0.l.length<=64) (hn:0<d0.l.length):L 300 [enc d0,enc d1]=some [enc (dL (d0.l.map jY))]:=by
 have k:dY (bT L (low [enc d0,enc d1])) anI= .jump 301 [enc d0,(d0.l.length:Int)]:=by refine bC [.eq (a0 450 [.aO 0,.aO 1]) (.lit 1),.eq (rr 450 [.aO 0,.aO 1] 0) (.lit 0)] [] (ju 301 [.aO 0,ln (.aO 0)]) (by simp only [zz,hc]) (by kernel_rfl) ?_;simp only [pO,List.map,aY,iL,Nat.reduceLT,aQ,aT,aF]
 rw [aP,e300];exact (congrArg (fin L) k).trans (akX hl hn)
theorem avW {d0 d1:D} {c:Int} (hc:L 450 [enc d0,enc d1]=some [c]) (h:c≠0\/d0.l.length=0):L 300 [enc d0,enc d1]=some [enc (.i 1)]:=by
 by_cases h0:c=0
 ·subst h0;have hz:d0.l.length=0:=h.resolve_left (fun h=>h rfl)
  have k:dY (bT L (low [enc d0,enc d1])) anI= .jump 301 [enc d0,0]:=by refine bC [.eq (a0 450 [.aO 0,.aO 1]) (.lit 1),.eq (rr 450 [.aO 0,.aO 1] 0) (.lit 0)] [] (ju 301 [.aO 0,ln (.aO 0)]) (by simp only [zz,hc]) (by kernel_rfl) ?_;simp only [pO,List.map,aY,iL,Nat.reduceLT,aQ,aT,aF,hz];rfl
  have k1:dY (bT L (low [enc d0,0])) ZE= .out [enc (.i 1)]:=by refine bC [] [.lt (.lit 0) (.aO 1)] (ou [.dat (.i 1)]) (by simp only [zz]<;>omega) (by kernel_rfl) rfl
  rw [aP,e300];refine (congrArg (fin L) k).trans ?_;show L 301 [enc d0,0]=_;rw [aP,e301];exact congrArg (fin L) k1
 ·have k:dY (bT L (low [enc d0,enc d1])) anI= .out [enc (.i 1)]:=by
   refine bC [.eq (a0 450 [.aO 0,.aO 1]) (.lit 1)] [.eq (rr 450 [.aO 0,.aO 1] 0) (.lit 0)] (ou [.dat (.i 1)]) (by simp only [zz,hc]<;>omega) (by kernel_rfl) rfl
  rw [aP,e300];exact congrArg (fin L) k
structure Gs (s:D) (n:Nat):Prop where
 wd:Wd (.sl 7) s
 rows: ∀x∈s.l,(x.hd 4).l.length<=n/\(x.hd 5).l.length<=n
theorem Gs.few {s:D} {n:Nat} (h:Gs s n) (hn:n<17592186044415):few s:=fun x hx=>by have:=h.rows x hx; omega
theorem Gs.mono {s:D} {n m:Nat} (h:Gs s n) (hm:n<=m):Gs s m:=⟨h.wd,fun x hx=>by have:=h.rows x hx; omega⟩
theorem Rf {l:List D} (h: ∀x∈l,D5 x) (hn:l≠[]) (hl:l.length<=1759218604390):Wd (.sl 7) (dL l):=by
 have e:(l.map fun x=>x.l).map dL=l:=by
  rw [aKf]
  conv=>rhs; rw [<- aKH l]
  apply aKo;intro x hx;obtain⟨o,c,d,g,r,v,rfl,_⟩:=h x hx;rfl
 rw [<- e];refine .many 7 [.int .i64,.int .i64,.bool,.int .i64,.sl 0,.sl 0] _ rfl (by simpa using hn) (by have:wZ 7=80:=rfl; rw [this,aJD]; omega) (fun r hr=>?_) fun r hr j d c h1 h2=>?_
 ·obtain⟨x,hx,rfl⟩:=aJh.1 hr;obtain⟨o,c,d,g,r,v,rfl,_⟩:=h x hx;rfl
 ·obtain⟨x,hx,rfl⟩:=aJh.1 hr;obtain⟨o,c',d',g,r,v,rfl,ho,hc,hd,hg,hr,hv⟩:=h x hx;rw [aW] at h1
  match j with
  |0=>simp at h1 h2; subst h1 h2; exact .int _ _ ho
  |1=>simp at h1 h2; subst h1 h2; exact .int _ _ hc
  |2=>
   simp at h1 h2; subst h1 h2;rcases hd with rfl|rfl
   ·exact .bool false
   ·exact .bool true
  |3=>simp at h1 h2; subst h1 h2; exact .int _ _ hg
  |4=>simp at h1 h2; subst h1 h2; exact hr
  |5=>simp at h1 h2; subst h1 h2; exact hv
  |j+6=>simp at h1
theorem Tg.thing {x:D} {o c dn g:Int} {r v:D} (T:Tg x o c dn g r v):D5 x:=⟨o,c,dn,g,r,v,T.is,T.ho,T.hc,T.hd,T.hg,T.hr,T.hv⟩
theorem yU {l:List D} {z:Int} {y x:D} (h:x∈dZ l z y):x∈l\/x=y:=by
 unfold dZ at h;split at h
 ·exact .inl h
 ·exact aLw h
theorem lY {l:List D} {z:Int} {y:D} {k:Nat} (h:(k:Int)≠z):(dZ l z y)[k]?=l[k]?:=by
 unfold dZ;split
 ·rfl
 ·rw [aKu,aIQ (by omega)]
theorem yZ {l:List D} {k:Nat} {y:D} (h:k<l.length):(dZ l (k:Int) y)[k]?=some y:=by rw [yK,aKu,aIR rfl,aIR h]
theorem abE {s:D} {n:Nat} (G:Gs s n) {z:Int} {y:D} (hy:D5 y) (h4:(y.hd 4).l.length<=n) (h5:(y.hd 5).l.length<=n) (hn:0<s.l.length):Gs (dL (dZ s.l z y)) n:=by
 have ht:=BO G.wd hn;refine⟨Rf (fun x hx=>?_) (fun he=>?_) (by rw [dQ]; exact ht.few),fun x hx=>?_⟩
 ·rcases yU hx with h|rfl
  ·exact G.wd.thing x h
  ·exact hy
 ·have:=dQ s.l z y;rw [he] at this;simp at this;omega
 ·rw [aW] at hx;rcases yU hx with h|rfl
  ·exact G.rows x h
  ·exact⟨h4,h5⟩
theorem NW (s:D) (obj M:Int) (A:Act):(Cm s obj M A).l.length=s.l.length:=by
 cases A with
 |blk=>rfl
 |mis=>rfl
 |res o c dn g r v m a oc=>
  unfold Cm;rw [aW,dQ]
  cases m with
  |none=>rfl
  |some q=>exact dQ _ _ _
theorem afA {s:D} {n:Nat} (G:Gs s n) {obj M:Int} {A:Act} (hA:QI (n+1) A) (ho0:0<=obj) (ho1:obj<(s.l.length:Int)) (hM:NoM A\/0<=M/\M<(s.l.length:Int)):Gs (Cm s obj M A) (n+1):=by
 have G1:=G.mono (aJN n)
 cases A with
 |blk=>exact G1
 |mis=>exact G1
 |res o c dn g r v m a oc=>
  obtain⟨h1,h2,h3,h4,h5,h6,h7,h8,h9,_⟩:=hA
  have hd:(if dn=0 then (0:Int) else 1)=dn:=by rcases h3 with rfl|rfl<;>rfl
  have hy:D5 (dL [.i o,.i c,.i (if dn=0 then 0 else 1),.i g,r,v]):=⟨o,c,_,g,r,v,rfl,h1,h2,by rw [hd]; exact h3,h4,h5,h7⟩
  cases m with
  |none=>exact abE G1 hy h6 h8 (by omega)
  |some q=>
   have hM:0<=M/\M<(s.l.length:Int):=hM.resolve_left (fun h=>by simp [NoM] at h);obtain⟨k,rfl⟩ : ∃k:Nat,M=(k:Int):=⟨M.toNat,by omega⟩;have hk:k<s.l.length:=by omega
   obtain⟨o',c',d',g',r',v',he,q1,q2,q3,q4,q5,q6⟩:=G.wd.thing _ (aIZ hk);have hrw:=G1.rows _ (aIZ hk);rw [he] at hrw;have hz:dL (dZ (s.at (k:Int)).l 0 (.i q))=dL [.i q,.i c',.i d',.i g',r',v']:=by rw [aX hk,he]; rfl
   have G2:Gs (dL (dZ s.l (k:Int) (dL (dZ (s.at (k:Int)).l 0 (.i q))))) (n+1):=by rw [hz];exact abE G1 ⟨q,c',d',g',r',v',rfl,h9 q rfl,q2,q3,q4,q5,q6⟩ hrw.1 hrw.2 (by omega)
   have:=abE (z:=obj) G2 hy h6 h8 (by rw [aW,dQ]; omega);rw [aW] at this;exact this
theorem apB {s:D} {obj M:Int} {A:Act} {k:Nat} (h:(k:Int)≠obj) (hM:NoM A\/(k:Int)≠M):(Cm s obj M A).l[k]?=s.l[k]?:=by
 cases A with
 |blk=>rfl
 |mis=>rfl
 |res o c dn g r v m a oc=>
  unfold Cm;rw [aW,lY h]
  cases m with
  |none=>rfl
  |some q=> have hM:(k:Int)≠M:=hM.resolve_left (fun h=>by simp [NoM] at h);exact lY hM
def evA (th op obj:Int):Act->List Int
 | .blk=>[0,0,0,0,0,0]
 | .mis=>[th,27,obj,IntKind.i64.wrap op,0,2]
 | .res _ _ _ _ _ _ _ a oc=>[th,op,obj,a,0,oc]
theorem GN (s:D) (th op obj M:Int) (A:Act):outA s th op obj M A=enc (Cm s obj M A)::evA th op obj A:=by cases A<;>rfl
theorem z6:((2:Int)=1)=False/\((4:Int)=3)=False/\((5:Int)=3)=False/\((5:Int)=4)=False/\((6:Int)=3)=False/\((6:Int)=4)=False/\((6:Int)=5)=False/\((7:Int)=3)=False/\((7:Int)=4)=False/\((7:Int)=5)=False/\((7:Int)=6)=False:=by simp
structure KT where
 a:Int
 lc:D
 w:Int
 o:Int
 g:Int
 tr:Int
abbrev KT.d (x:KT):D:=dL [.i x.a,x.lc,.i x.w,.i x.o,.i x.g,.i x.tr]
structure Cd (d0 d1:D):Prop where
 h0:Wd (.sl 3) d0
 h1:Wd (.sl 4) d1
 ok:xR d0 d1
 ins: ∀x∈d1.l,agA d0 x
theorem MR.code {d0 d1 s k:D} (h0:Wd (.sl 3) d0) (h1:Wd (.sl 4) d1) (hr:Fp s) (M:MR d0 d1 s k):Cd d0 d1/\s.l.length=d0.l.length:=by obtain⟨b,hb,_,hi⟩:=nX h0 h1 hr;rw [M.1] at hb;simp only [aIS,List.cons.injEq,and_true] at hb;obtain⟨hC,hle,_⟩:=hi.1 hb.symm;obtain⟨ys,hC',c,rfl,_,hok⟩:=Em h0 h1;rw [hC] at hC';simp only [aIS,List.cons.injEq,and_true] at hC';have:=hok hC'.symm;exact⟨⟨h0,h1,this.1,this.2⟩,hle⟩
structure Rt (d0 d1:D) (t:Int) (x:KT):Prop where
 t0:0<=t
 t1:t<(d1.l.length:Int)
 ok:OkT d0 ((d1.at t).hd 1).l.length ((d1.at t).hd 2).l.length x.a x.lc.l.length x.w x.o x.g x.tr
 hl:Wd (.sl 0) x.lc
 hg:iW .i64 x.g
abbrev Ins (d1:D) (t:Int) (x:KT):D:=((d1.at t).hd 2).at x.a
abbrev Nc (d1:D) (t:Int):Nat:=((d1.at t).hd 2).l.length
structure InF (d0:D) (nl nc:Nat) (I:D):Prop where
 ok:OkI d0 nl nc (I.hd 0).n (I.hd 1).n (I.hd 2).n (I.hd 3).n (I.hd 4).n (I.hd 6).l.length
 op:iW .u8 (I.hd 1).n
 ob:iW .i64 (I.hd 2).n
 to:iW .i64 (I.hd 4).n
 nn:iW .i64 (I.hd 5).n
 ar:Wd (.sl 6) (I.hd 6)
theorem Cd.at {d0 d1:D} (C:Cd d0 d1) {t:Int} (t0:0<=t) (t1:t<(d1.l.length:Int)):d1.at t∈d1.l:=by obtain⟨i,rfl⟩ : ∃i:Nat,t=(i:Int):=⟨t.toNat,by omega⟩;rw [aX (by omega:i<d1.l.length)];exact aIZ _
theorem Vu {d:D} {i:Int} (h0:0<=i) (h1:i<(d.l.length:Int)):d.at i∈d.l:=by obtain⟨k,rfl⟩ : ∃k:Nat,i=(k:Int):=⟨i.toNat,by omega⟩;rw [aX (by omega:k<d.l.length)];exact aIZ _
theorem Cd.code {d0 d1:D} (C:Cd d0 d1) {t:Int} (t0:0<=t) (t1:t<(d1.l.length:Int)):Wd (.sl 5) ((d1.at t).hd 2):=by
 obtain⟨i,rfl⟩ : ∃i:Nat,t=(i:Int):=⟨t.toNat,by omega⟩;have hi:i<d1.l.length:=by omega
 obtain⟨nm',lc,cd,he,_,_,h⟩:=Gg C.h1 hi;rw [aX hi,he];exact h
theorem Cd.inf {d0 d1:D} (C:Cd d0 d1) {t:Int} {x:KT} (R:Rt d0 d1 t x) (h:x.a<(Nc d1 t:Int)):InF d0 ((d1.at t).hd 1).l.length (Nc d1 t) (Ins d1 t x):=by
 have ha:=R.ok.1;have h1:=C.ins _ (C.at R.t0 R.t1) (Ins d1 t x) (Vu ha h);obtain⟨i,hi⟩ : ∃i:Nat,x.a=(i:Int):=⟨x.a.toNat,by omega⟩;have hil:i<((d1.at t).hd 2).l.length:=by unfold Nc at h; omega
 obtain⟨a,b,c,e,f,g,QK,he,_,hb,hc,_,hf,hg,hw⟩:=aaY (C.code R.t0 R.t1) hil;have hI:Ins d1 t x=dL [.i a,.i b,.i c,.i e,.i f,.i g,QK]:=by unfold Ins; rw [hi,aX hil,he]
 refine⟨h1,?_,?_,?_,?_,?_⟩
 all_goals
  rw [hI];simp only [zg,aIY,n_i];assumption
theorem Rt.ints {d0 d1:D} {t:Int} {x:KT} (R:Rt d0 d1 t x):Ints x.lc:=fun y hy=>by obtain⟨n,rfl,hn⟩:=(R.hl.el1 rfl y hy).i;exact hn
section
variable {d0 d1 s k:D} {t:Int} {x:KT} (hk:k.at t=x.d) (ht:t<(k.l.length:Int)) (R:Rt d0 d1 t x)
include hk ht R
def fB (d1:D) (t:Int) (x:KT):Int:=if x.w=0 then (if x.a=(Nc d1 t:Int) then 1 else 0) else 0
theorem sO:L 1650 [enc d0,enc d1,enc s,enc k,t]=some [fB d1 t x]:=by
 have c1: ¬t<0:=by have:=R.t0; omega
 have c2:=R.t1;unfold fB Nc;rw [aP,aCw];simp only [anO,zz,hk,c1,ht,c2,zg];by_cases w0:x.w=0
 ·simp only [w0,if_true];by_cases a0:x.a=(((d1.at t).hd 2).l.length:Int)
  ·simp only [a0,if_true];rfl
  ·simp only [a0,if_false];rfl
 ·simp only [w0,if_false];rfl
end
noncomputable def ev (e lc:D):Int:=low ((L 1950 [(e.hd 0).n,enc (e.hd 1),(e.hd 2).n,enc (e.hd 3),enc lc]).getD []) 0
theorem Yq {JC lc:D} (ha:Wd (.sl 6) JC) (hl:Ints lc) {i:Int} (i0:0<=i) (i1:i<(JC.l.length:Int)):L 1950 [((JC.at i).hd 0).n,enc ((JC.at i).hd 1),((JC.at i).hd 2).n,enc ((JC.at i).hd 3),enc lc]=some [ev (JC.at i) lc]/\iW .i64 (ev (JC.at i) lc):=by
 obtain⟨j,rfl⟩ : ∃j:Nat,i=(j:Int):=⟨i.toNat,by omega⟩;have hj:j<JC.l.length:=by omega
 obtain⟨k',s',n',ks',he,_,_,hn',h2⟩:=Ec ha hj;obtain⟨ys,hL,v,rfl,hv⟩:=Yp _ ks' (aIV _) h2 k' n' s' lc hn' hl;have e1:JC.at (j:Int)=dL [.i k',s',.i n',ks']:=by rw [aX hj,he]
 unfold ev;rw [e1];simp only [zg,aIY,n_i,hL,aQ];exact⟨trivial,hv⟩
noncomputable def QW (JC lc:D):Int:=if JC.l.length=0 then 0 else ev (JC.at ((JC.l.length:Int)-1)) lc
theorem aA2 {JC lc:D} (ha:Wd (.sl 6) JC) (hl:Ints lc):iW .i64 (QW JC lc):=by
 unfold QW;split
 ·constructor<;>omega
 ·exact (Yq ha hl (by omega) (by omega)).2
theorem SY {JC lc:D} (ha:Wd (.sl 6) JC) (hl:Ints lc) (x3 x5 x6 x7 x8 x9 x10:Int): ∀(j i:Nat) (v:Int),i+j=JC.l.length->L 1751 [enc JC,(JC.l.length:Int),(i:Int),x3,enc lc,x5,x6,x7,x8,x9,x10,v]=some [x9,x10,if j=0 then v else QW JC lc,x8,1]
 |0,i,v,hi=>by
  have c1: ¬(i:Int)<(JC.l.length:Int):=by omega
  rw [aP,atM];simp only [aeO,zz,c1,aK,if_true]
 |j+1,i,v,hi=>by
  have hr:=ha.len;have c1:(i:Int)<(JC.l.length:Int):=by omega
  have c2: ¬((i:Int)<0):=by omega
  have w:=aZ (n:=i) (by omega);obtain⟨he,_⟩:=Yq ha hl (i:=(i:Int)) (by omega) c1;have ih:=SY ha hl x3 x5 x6 x7 x8 x9 x10 j (i+1) (ev (JC.at (i:Int)) lc) (by omega);rw [aP,atM];simp only [aeO,zz,c1,c2,w,he,aH];rw [ih,aIQ (Nat.succ_ne_zero j)];by_cases hj:j=0
  ·subst hj;rw [aIR rfl];unfold QW;rw [aIQ (by omega),show ((JC.l.length:Int)-1)=(i:Int) by omega]
  ·rw [aIQ hj]
noncomputable def gQ (d1:D) (t:Int) (x:KT):List Int:=
 if x.w=0 then
  if x.a=(Nc d1 t:Int) then [0,0,0,0,0]
  else if ((Ins d1 t x).hd 0).n=1 then [((Ins d1 t x).hd 1).n,((Ins d1 t x).hd 2).n,QW ((Ins d1 t x).hd 6) x.lc,x.tr,1]
  else if ((Ins d1 t x).hd 0).n=2 then [26,((Ins d1 t x).hd 2).n,0,0,1]
  else [0,0,0,0,0]
 else [x.w,x.o,x.g,0,1]
section
variable {d0 d1 s k:D} {t:Int} {x:KT} (C:Cd d0 d1) (hk:k.at t=x.d) (ht:t<(k.l.length:Int)) (R:Rt d0 d1 t x)
include C hk ht R
theorem Ae:L 1750 [enc d0,enc d1,enc s,enc k,t]=some (gQ d1 t x):=by
 have c1: ¬t<0:=by have:=R.t0; omega
 have c2:=R.t1;have c3: ¬x.a<0:=by have:=R.ok.1; omega
 have ho:=sO (s:=s) hk ht R;unfold gQ;rw [aP,aCv];by_cases w0:x.w=0
 ·by_cases a0:x.a=(Nc d1 t:Int)
  ·have e:fB d1 t x=1:=by unfold fB; rw [aIR w0,aIR a0]
   rw [e] at ho;rw [aIR w0,aIR a0];simp only [MV,zz,hk,c1,ht,c2,zg,w0,ho,aC,aK]
  ·have e:fB d1 t x=0:=by unfold fB; rw [aIR w0,aIQ a0]
   rw [e] at ho;have hlt:x.a<(Nc d1 t:Int):=by have:=R.ok.2.1; unfold Nc at a0 ⊢; omega
   have F:=C.inf R hlt;rw [aIR w0,aIQ a0];unfold Ins at F ⊢;unfold Nc at hlt;by_cases h1:((((d1.at t).hd 2).at x.a).hd 0).n=1
   ·rw [aIR h1];have lp:=SY F.ar R.ints x.a x.w x.o x.g x.tr ((((d1.at t).hd 2).at x.a).hd 1).n ((((d1.at t).hd 2).at x.a).hd 2).n ((((d1.at t).hd 2).at x.a).hd 6).l.length 0 0 (by omega)
    have e2:(if ((((d1.at t).hd 2).at x.a).hd 6).l.length=0 then 0 else QW ((((d1.at t).hd 2).at x.a).hd 6) x.lc)=QW ((((d1.at t).hd 2).at x.a).hd 6) x.lc:=by
     by_cases hz:((((d1.at t).hd 2).at x.a).hd 6).l.length=0
     ·rw [aIR hz]; unfold QW; rw [aIR hz]
     ·rw [aIQ hz]
    rw [e2] at lp;simp only [MV,zz,hk,c1,ht,c2,c3,zg,w0,ho,hlt,h1,aH];rw [w0] at lp;exact lp
   ·by_cases h2:((((d1.at t).hd 2).at x.a).hd 0).n=2
    ·rw [aIQ h1,aIR h2];simp only [MV,zz,hk,c1,ht,c2,c3,zg,w0,ho,hlt,h2,aK,if_false,z6]
    ·rw [aIQ h1,aIQ h2];simp only [MV,zz,hk,c1,ht,c2,c3,zg,w0,ho,hlt,h1,h2,aK]
 ·rw [aIQ w0];simp only [MV,zz,hk,c1,ht,zg,w0,aK]
end
noncomputable def gW (I:D) (x:KT):KT:=
 if (I.hd 0).n=3 then { x with a:=x.a+1,lc:=dL (dZ x.lc.l (I.hd 3).n (.i (ev ((I.hd 6).at 0) x.lc))) }
 else if (I.hd 0).n=4 then (if ev ((I.hd 6).at 0) x.lc=0 then { x with a:=(I.hd 4).n } else { x with a:=x.a+1 })
 else if (I.hd 0).n=5 then { x with a:=(I.hd 4).n }
 else if (I.hd 0).n=6 then { x with a:=x.a+1,lc:=dL (dZ x.lc.l (I.hd 3).n (.i (I.hd 5).n)) }
 else if 0<(x.lc.at (I.hd 3).n).n then { x with a:=x.a+1,lc:=dL (dZ x.lc.l (I.hd 3).n (.i (IntKind.i64.wrap ((x.lc.at (I.hd 3).n).n-1)))) }
 else { x with a:=(I.hd 4).n }
structure Loc (d1:D) (t:Int) (x:KT):Prop where
 w:x.w=0
 a:x.a<(Nc d1 t:Int)
 n1:((Ins d1 t x).hd 0).n≠1
 n2:((Ins d1 t x).hd 0).n≠2
theorem FK {d0 d1:D} {t:Int} {x:KT} (R:Rt d0 d1 t x) (ho:fB d1 t x=0) (hn:low (gQ d1 t x) 4=0):Loc d1 t x:=by
 unfold fB at ho;unfold gQ at hn;have h2:=R.ok.2.1;by_cases w0:x.w=0
 ·rw [aIR w0] at ho hn;by_cases a0:x.a=(Nc d1 t:Int)
  ·rw [aIR a0] at ho;omega
  ·rw [aIQ a0] at hn;by_cases h1:((Ins d1 t x).hd 0).n=1
   ·rw [aIR h1] at hn;simp only [aT,aQ] at hn;omega
   ·by_cases h2':((Ins d1 t x).hd 0).n=2
    ·rw [aIQ h1,aIR h2'] at hn;simp only [aT,aQ] at hn;omega
    ·exact⟨w0,by unfold Nc at a0 ⊢; omega,h1,h2'⟩
 ·rw [aIQ w0] at hn;simp only [aT,aQ] at hn;omega
section
variable {d0 d1 s k:D} {t:Int} {x:KT} (C:Cd d0 d1) (ht:t<(k.l.length:Int)) (R:Rt d0 d1 t x) (Lc:Loc d1 t x)
include C ht R Lc
theorem X0:L 14000 [enc d0,enc d1,t,enc s,enc k,x.a,enc x.lc,x.w,x.o,x.g,x.tr]=some [0,enc d0,enc d1,t,enc s,enc k,x.a,enc x.lc,x.w,x.o,x.g,x.tr,(gW (Ins d1 t x) x).a,enc (gW (Ins d1 t x) x).lc]:=by
 have c1: ¬t<0:=by have:=R.t0; omega
 have c2:=R.t1;have c3: ¬x.a<0:=by have:=R.ok.1; omega
 have c4:=Lc.a;have F:=C.inf R c4;have hln:(x.lc.l.length:Int)=(((d1.at t).hd 1).l.length:Int):=R.ok.2.2.1;have hnc:((d1.at t).hd 2).l.length<=140737488351232:=(C.code R.t0 R.t1).len;have n1:=Lc.n1;have n2:=Lc.n2
 have hw:IntKind.i64.wrap (x.a+1)=x.a+1:=by refine lW (by omega) ?_;unfold Nc at c4;omega
 have E:=Yq F.ar R.ints (i:=0);have ok:=F.ok;unfold Ins at n1 n2 ok E ⊢;unfold Nc at c4;rw [aP,atY];unfold gW;rcases ok with h|h|⟨h,i0,i1,na⟩|⟨h,_,_,na⟩|⟨h,_⟩|⟨h,i0,i1⟩|⟨h,i0,i1,_⟩
 ·exact absurd h.1 n1
 ·exact absurd h.1 n2
 ·have c5: ¬(((((d1.at t).hd 2).at x.a).hd 3).n<0):=by omega
  have c6:(((((d1.at t).hd 2).at x.a).hd 3).n<(x.lc.l.length:Int)):=by omega
  have c7:(0:Int)<(((((d1.at t).hd 2).at x.a).hd 6).l.length:Int):=by omega
  obtain⟨E,_⟩:=E (by omega) c7;simp only [zS,zz,c1,ht,c2,c3,c4,c5,c6,c7,h,E,hw,aK]
 ·have c7:(0:Int)<(((((d1.at t).hd 2).at x.a).hd 6).l.length:Int):=by omega
  obtain⟨E,_⟩:=E (by omega) c7;by_cases hz:ev (((((d1.at t).hd 2).at x.a).hd 6).at 0) x.lc=0
  ·simp only [zS,zz,c1,ht,c2,c3,c4,c7,h,E,hw,hz,aK,z6]
  ·simp only [zS,zz,c1,ht,c2,c3,c4,c7,h,E,hw,hz,aK,z6]
 ·simp only [zS,zz,c1,ht,c2,c3,c4,h,hw,aK,z6]
 ·have c5: ¬(((((d1.at t).hd 2).at x.a).hd 3).n<0):=by omega
  have c6:(((((d1.at t).hd 2).at x.a).hd 3).n<(x.lc.l.length:Int)):=by omega
  simp only [zS,zz,c1,ht,c2,c3,c4,c5,c6,h,hw,aK,z6]
 ·have c5: ¬(((((d1.at t).hd 2).at x.a).hd 3).n<0):=by omega
  have c6:(((((d1.at t).hd 2).at x.a).hd 3).n<(x.lc.l.length:Int)):=by omega
  by_cases hz:0<(x.lc.at ((((d1.at t).hd 2).at x.a).hd 3).n).n
  ·simp only [zS,zz,c1,ht,c2,c3,c4,c5,c6,h,hw,hz,aK,z6]
  ·simp only [zS,zz,c1,ht,c2,c3,c4,c5,c6,h,hw,hz,aK,z6]
theorem XZ (hz:x.lc.l.length=0):L 14050 [enc d0,enc d1,t,enc s,enc k,x.a,enc x.lc,x.w,x.o,x.g,x.tr]=some [0,enc d0,enc d1,t,enc s,enc k,x.a,enc x.lc,x.w,x.o,x.g,x.tr,(gW (Ins d1 t x) x).a]/\(gW (Ins d1 t x) x).lc=x.lc:=by
 have c1: ¬t<0:=by have:=R.t0; omega
 have c2:=R.t1;have c3: ¬x.a<0:=by have:=R.ok.1; omega
 have c4:=Lc.a;have F:=C.inf R c4;have hln:(x.lc.l.length:Int)=(((d1.at t).hd 1).l.length:Int):=R.ok.2.2.1;have hnc:((d1.at t).hd 2).l.length<=140737488351232:=(C.code R.t0 R.t1).len;have n1:=Lc.n1;have n2:=Lc.n2
 have hw:IntKind.i64.wrap (x.a+1)=x.a+1:=by refine lW (by omega) ?_;unfold Nc at c4;omega
 have E:=Yq F.ar R.ints (i:=0);have ok:=F.ok;unfold Ins at n1 n2 ok E ⊢;unfold Nc at c4;rw [aP,atX];unfold gW;rcases ok with h|h|⟨h,i0,i1,na⟩|⟨h,_,_,na⟩|⟨h,_⟩|⟨h,i0,i1⟩|⟨h,i0,i1,_⟩
 ·exact absurd h.1 n1
 ·exact absurd h.1 n2
 ·omega
 ·have c7:(0:Int)<(((((d1.at t).hd 2).at x.a).hd 6).l.length:Int):=by omega
  obtain⟨E,_⟩:=E (by omega) c7;by_cases hz:ev (((((d1.at t).hd 2).at x.a).hd 6).at 0) x.lc=0
  ·simp only [Nb,zz,c1,ht,c2,c3,c4,c7,h,E,hw,hz,aK,z6]
  ·simp only [Nb,zz,c1,ht,c2,c3,c4,c7,h,E,hw,hz,aK,z6]
 ·simp only [Nb,zz,c1,ht,c2,c3,c4,h,hw,aK,z6]
 ·omega
 ·omega
theorem G6:Rt d0 d1 t (gW (Ins d1 t x) x)/\(gW (Ins d1 t x) x).lc.l.length=x.lc.l.length:=by
 have c4:=Lc.a;have F:=C.inf R c4;obtain⟨a0,a1,hln,tr0,tr1,hw⟩:=R.ok;have n1:=Lc.n1;have n2:=Lc.n2;have ok:=F.ok;have hI:=R.ints
 have hwd: ∀{z v:Int},0<=z->z<(x.lc.l.length:Int)->iW .i64 v->Wd (.sl 0) (dL (dZ x.lc.l z (.i v))):=fun {z v} h0 h1 hv=>by
  have:=R.hl.room;have h3:wZ 0=8:=rfl;rw [h3] at this;have hs:=dQ x.lc.l z (.i v);refine zK (fun y hy=>?_) (fun he=>?_) (by rw [hs]; omega)
  ·rcases yU hy with h|rfl
   ·exact (R.hl.el1 rfl y h).i
   ·exact⟨v,rfl,hv⟩
  ·rw [he] at hs;simp only [aI7] at hs;omega
 have hsl: ∀z v,(dL (dZ x.lc.l z v)).l.length=x.lc.l.length:=fun z v=>by rw [aW,dQ]
 have T:=R.t0;have T':=R.t1;unfold Nc at c4 ok F;unfold gW;have go: ∀{a:Int} {lc:D},0<=a->a<=(((d1.at t).hd 2).l.length:Int)->lc.l.length=x.lc.l.length->Wd (.sl 0) lc->Rt d0 d1 t { x with a:=a,lc:=lc }/\({ x with a:=a,lc:=lc }:KT).lc.l.length=x.lc.l.length:=fun h0 h1 h2 h3=> ⟨⟨T,T',⟨h0,h1,by rw [h2]; exact hln,tr0,tr1,hw⟩,h3,R.hg⟩,h2⟩;rcases ok with h|h|⟨h,i0,i1,na⟩|⟨h,t0,t1,na⟩|⟨h,t0,t1⟩|⟨h,i0,i1⟩|⟨h,i0,i1,t0,t1⟩
 ·exact absurd h.1 n1
 ·exact absurd h.1 n2
 ·rw [aIR h];exact go (by omega) (by omega) (hsl _ _) (hwd i0 (by omega) (Yq F.ar hI (by omega) (by omega)).2)
 ·rw [aIQ (by omega),aIR h];split
  ·exact go t0 t1 rfl R.hl
  ·exact go (by omega) (by omega) rfl R.hl
 ·rw [aIQ (by omega),aIQ (by omega),aIR h];exact go t0 t1 rfl R.hl
 ·rw [aIQ (by omega),aIQ (by omega),aIQ (by omega),aIR h];exact go (by omega) (by omega) (hsl _ _) (hwd i0 (by omega) F.nn)
 ·rw [aIQ (by omega),aIQ (by omega),aIQ (by omega),aIQ (by omega)];split
  ·exact go (by omega) (by omega) (hsl _ _) (hwd i0 (by omega) (wrap_in _))
  ·exact go t0 t1 rfl R.hl
end
theorem z5:(∀p:Prop,(p/\False)=False)/\(∀p:Prop,(False/\p)=False)/\(¬True)=False/\(∀p:Prop,(p/\p)=p)/\(∀(a:Int) (l m:List Int),(a::l)++m=a::(l++m))/\(∀l:List Int,[]++l=l)/\((16:Int)=15)=False/\((3:Int)=0)=False/\((15:Int)=16)=False/\(∀ys:List Int,fin L (.out ys)=some ys):=
 ⟨and_false,false_and,not_true_eq_false,and_self,fun _ _ _=>rfl,fun _=>rfl,by simp,by simp,by simp,fun _=>rfl⟩
def alF:Act->Prop
 | .res _ _ _ _ _ _ _ a _=>iW .i64 a
 |_=>True
theorem alF.ite {p:Prop} [Decidable p] {a b:Act} (ha:alF a) (hb:alF b):alF (if p then a else b):=by
 split
 ·exact ha
 ·exact hb
theorem alR {r:D} (h:Wd (.sl 0) r) (i:Nat):iW .i64 (r.at (i:Int)).n:=by
 by_cases hi:i<r.l.length
 ·rw [aX hi];obtain⟨n,hn,hk⟩:=(h.el1 rfl _ (aIZ hi)).i;rw [hn];exact hk
 ·rw [lJ,aJH (by omega)];constructor<;>(simp only [aKh,n_i]; omega)
theorem aHB {y:D} {M mo th op arg tries o c dn g:Int} {r v:D} (T:Tg y o c dn g r v) (hr:r.l.length<=140737488351232) (ha:iW .i64 arg):alF (act M mo th op arg tries o c dn g r v):=by
 have hz:iW .i64 0:=⟨by omega,by omega⟩;have h1:iW .i64 1:=⟨by omega,by omega⟩;have w:=@wrap_in;have hv:=alR T.hv 0;have hl:iW .i64 (r.l.length:Int):=⟨by omega,by omega⟩;unfold act
 repeat' refine alF.ite ?_ ?_
 all_goals first
  |trivial
  |exact hz
  |exact h1
  |exact w _
  |exact T.hc
  |exact ha
  |exact T.hg
  |exact hv
  |exact hl
def jX (I:D) (x:KT) (op e2 e3 e4 oc:Int):KT:=
 if oc=0 then (if op=4 then { x with tr:=if 4611686018427387904<x.tr+1 then 4611686018427387904 else x.tr+1 } else x)
 else if x.w=0 then
  { a:=if (I.hd 0).n=1/\(I.hd 1).n=16/\¬(e2=16/\e4=1) then (I.hd 4).n else x.a+1,lc:=if (I.hd 0).n=1/\¬(I.hd 3).n<0 then dL (dZ x.lc.l (I.hd 3).n (.i e4)) else x.lc,w:=if oc=3 then (if e2=15 then 25 else 24) else 0,o:=if oc=3 then e3 else x.o,g:=if oc=3/\e2=15 then e4 else x.g,tr:=0 }
 else { x with w:=0,o:=0,g:=0,tr:=0 }
def evT (e1 e2 e3 e4 e5 oc:Int):List Int:=if oc=0 then [0,0,0,0,0] else [e1,e2,e3,e4,e5]
section
variable {d0 d1 s s' k:D} {t op obj arg tries e1 e2 e3 e4 e5 oc:Int} {x:KT} (C:Cd d0 d1) (ht:t<(k.l.length:Int)) (R:Rt d0 d1 t x)
 (hA:L 400 [enc d0,enc d1,enc s,t,op,obj,arg,tries]=some [enc s',e1,e2,e3,e4,e5,oc]) (h0:oc=0->s'=s) (hx:x.w=0->x.a<(Nc d1 t:Int))
include C ht R hA h0 hx
set_option maxHeartbeats 4000000 in
theorem Xm:L 14500 [enc d0,enc d1,t,op,obj,arg,tries,enc s,enc k,x.a,enc x.lc,x.w,x.o,x.g,x.tr]=some (0::enc d0::enc d1::t::op::obj::arg::tries::enc s::enc k::x.a::enc x.lc::x.w::x.o::x.g::x.tr::(evT e1 e2 e3 e4 e5 oc++ [oc,enc s',(jX (Ins d1 t x) x op e2 e3 e4 oc).a,enc (jX (Ins d1 t x) x op e2 e3 e4 oc).lc,(jX (Ins d1 t x) x op e2 e3 e4 oc).w,(jX (Ins d1 t x) x op e2 e3 e4 oc).o,(jX (Ins d1 t x) x op e2 e3 e4 oc).g,(jX (Ins d1 t x) x op e2 e3 e4 oc).tr])):=by
 have c1: ¬t<0:=by have:=R.t0; omega
 have c2:=R.t1;have c3: ¬x.a<0:=by have:=R.ok.1; omega
 have q0:=R.ok.2.2.2.1;have q1:=R.ok.2.2.2.2.1;have wt:IntKind.i64.wrap (x.tr+1)=x.tr+1:=lW (by omega) (by omega);rw [aP,atV];unfold jX evT;by_cases o0:oc=0
 ·have hs:=h0 o0;subst hs;subst o0;by_cases p4:op=4
  ·subst p4;by_cases pt:4611686018427387904<x.tr+1
   ·simp only [fU,zz,hA,c1,ht,wt,pt,aK,if_true,eq_self,aI8,aI1]
   ·simp only [fU,zz,hA,c1,ht,wt,pt,aK,if_true,eq_self,if_false,aI8,aI1]
  ·simp only [fU,zz,hA,c1,ht,p4,aK,if_true,if_false,aI8,aI1]
 ·by_cases w0:x.w=0
  ·have c4:=hx w0;have F:=C.inf R c4;have ok:=F.ok;have hln:(x.lc.l.length:Int)=(((d1.at t).hd 1).l.length:Int):=R.ok.2.2.1;have hnc:((d1.at t).hd 2).l.length<=140737488351232:=(C.code R.t0 R.t1).len;unfold Nc at c4;have hw:IntKind.i64.wrap (x.a+1)=x.a+1:=lW (by omega) (by omega);unfold OkI Ins at ok;unfold Ins;by_cases n1:((((d1.at t).hd 2).at x.a).hd 0).n=1
   ·have hin:((((d1.at t).hd 2).at x.a).hd 3).n= -1\/0<=((((d1.at t).hd 2).at x.a).hd 3).n/\((((d1.at t).hd 2).at x.a).hd 3).n<(x.lc.l.length:Int):=by
     rw [hln];omega
    by_cases i0:((((d1.at t).hd 2).at x.a).hd 3).n<0
    ·by_cases p16:((((d1.at t).hd 2).at x.a).hd 1).n=16
     ·by_cases q16:e2=16
      ·by_cases q4:e4=1
       ·by_cases q3:oc=3
        ·simp only [fU,zz,hA,c1,ht,c2,c3,c4,o0,w0,hw,n1,i0,p16,q16,q4,q3,z5]
        ·simp only [fU,zz,hA,c1,ht,c2,c3,c4,o0,w0,hw,n1,i0,p16,q16,q4,q3,z5]
       ·by_cases q3:oc=3
        ·simp only [fU,zz,hA,c1,ht,c2,c3,c4,o0,w0,hw,n1,i0,p16,q16,q4,q3,z5]
        ·simp only [fU,zz,hA,c1,ht,c2,c3,c4,o0,w0,hw,n1,i0,p16,q16,q4,q3,z5]
      ·by_cases Ac:e2=15
       ·by_cases q3:oc=3
        ·simp only [fU,zz,hA,c1,ht,c2,c3,c4,o0,w0,hw,n1,i0,p16,q16,Ac,q3,z5]
        ·simp only [fU,zz,hA,c1,ht,c2,c3,c4,o0,w0,hw,n1,i0,p16,q16,Ac,q3,z5]
       ·by_cases q3:oc=3
        ·simp only [fU,zz,hA,c1,ht,c2,c3,c4,o0,w0,hw,n1,i0,p16,q16,Ac,q3,z5]
        ·simp only [fU,zz,hA,c1,ht,c2,c3,c4,o0,w0,hw,n1,i0,p16,q16,Ac,q3,z5]
     ·by_cases Ac:e2=15
      ·by_cases q3:oc=3
       ·simp only [fU,zz,hA,c1,ht,c2,c3,c4,o0,w0,hw,n1,i0,p16,Ac,q3,z5]
       ·simp only [fU,zz,hA,c1,ht,c2,c3,c4,o0,w0,hw,n1,i0,p16,Ac,q3,z5]
      ·by_cases q3:oc=3
       ·simp only [fU,zz,hA,c1,ht,c2,c3,c4,o0,w0,hw,n1,i0,p16,Ac,q3,z5]
       ·simp only [fU,zz,hA,c1,ht,c2,c3,c4,o0,w0,hw,n1,i0,p16,Ac,q3,z5]
    ·have i1:((((d1.at t).hd 2).at x.a).hd 3).n<(x.lc.l.length:Int):=by omega
     by_cases p16:((((d1.at t).hd 2).at x.a).hd 1).n=16
     ·by_cases q16:e2=16
      ·by_cases q4:e4=1
       ·by_cases q3:oc=3
        ·simp only [fU,zz,hA,c1,ht,c2,c3,c4,o0,w0,hw,n1,i0,i1,p16,q16,q4,q3,z5]
        ·simp only [fU,zz,hA,c1,ht,c2,c3,c4,o0,w0,hw,n1,i0,i1,p16,q16,q4,q3,z5]
       ·by_cases q3:oc=3
        ·simp only [fU,zz,hA,c1,ht,c2,c3,c4,o0,w0,hw,n1,i0,i1,p16,q16,q4,q3,z5]
        ·simp only [fU,zz,hA,c1,ht,c2,c3,c4,o0,w0,hw,n1,i0,i1,p16,q16,q4,q3,z5]
      ·by_cases Ac:e2=15
       ·by_cases q3:oc=3
        ·simp only [fU,zz,hA,c1,ht,c2,c3,c4,o0,w0,hw,n1,i0,i1,p16,q16,Ac,q3,z5]
        ·simp only [fU,zz,hA,c1,ht,c2,c3,c4,o0,w0,hw,n1,i0,i1,p16,q16,Ac,q3,z5]
       ·by_cases q3:oc=3
        ·simp only [fU,zz,hA,c1,ht,c2,c3,c4,o0,w0,hw,n1,i0,i1,p16,q16,Ac,q3,z5]
        ·simp only [fU,zz,hA,c1,ht,c2,c3,c4,o0,w0,hw,n1,i0,i1,p16,q16,Ac,q3,z5]
     ·by_cases Ac:e2=15
      ·by_cases q3:oc=3
       ·simp only [fU,zz,hA,c1,ht,c2,c3,c4,o0,w0,hw,n1,i0,i1,p16,Ac,q3,z5]
       ·simp only [fU,zz,hA,c1,ht,c2,c3,c4,o0,w0,hw,n1,i0,i1,p16,Ac,q3,z5]
      ·by_cases q3:oc=3
       ·simp only [fU,zz,hA,c1,ht,c2,c3,c4,o0,w0,hw,n1,i0,i1,p16,Ac,q3,z5]
       ·simp only [fU,zz,hA,c1,ht,c2,c3,c4,o0,w0,hw,n1,i0,i1,p16,Ac,q3,z5]
   ·by_cases Ac:e2=15
    ·by_cases q3:oc=3
     ·simp only [fU,zz,hA,c1,ht,c2,c3,c4,o0,w0,hw,n1,Ac,q3,z5]
     ·simp only [fU,zz,hA,c1,ht,c2,c3,c4,o0,w0,hw,n1,Ac,q3,z5]
    ·by_cases q3:oc=3
     ·simp only [fU,zz,hA,c1,ht,c2,c3,c4,o0,w0,hw,n1,Ac,q3,z5]
     ·simp only [fU,zz,hA,c1,ht,c2,c3,c4,o0,w0,hw,n1,Ac,q3,z5]
  ·simp only [fU,zz,hA,c1,ht,o0,w0,aK,if_true,if_false,aI8,aI1]
end
section
variable {d0 d1 s s' k:D} {t op obj arg tries e1 e2 e3 e4 e5 oc:Int} {x:KT} (C:Cd d0 d1) (ht:t<(k.l.length:Int)) (R:Rt d0 d1 t x)
 (hA:L 400 [enc d0,enc d1,enc s,t,op,obj,arg,tries]=some [enc s',e1,e2,e3,e4,e5,oc]) (h0:oc=0->s'=s) (hx:x.w=0->x.a<(Nc d1 t:Int)) (hz:x.lc.l.length=0)
include C ht R hA h0 hx hz
set_option maxHeartbeats 4000000 in
theorem Xl:L 14550 [enc d0,enc d1,t,op,obj,arg,tries,enc s,enc k,x.a,enc x.lc,x.w,x.o,x.g,x.tr]=some (0::enc d0::enc d1::t::op::obj::arg::tries::enc s::enc k::x.a::enc x.lc::x.w::x.o::x.g::x.tr::(evT e1 e2 e3 e4 e5 oc++ [oc,enc s',(jX (Ins d1 t x) x op e2 e3 e4 oc).a,(jX (Ins d1 t x) x op e2 e3 e4 oc).w,(jX (Ins d1 t x) x op e2 e3 e4 oc).o,(jX (Ins d1 t x) x op e2 e3 e4 oc).g,(jX (Ins d1 t x) x op e2 e3 e4 oc).tr]))/\(jX (Ins d1 t x) x op e2 e3 e4 oc).lc=x.lc:=by
 have c1: ¬t<0:=by have:=R.t0; omega
 have c2:=R.t1;have c3: ¬x.a<0:=by have:=R.ok.1; omega
 have q0:=R.ok.2.2.2.1;have q1:=R.ok.2.2.2.2.1;have wt:IntKind.i64.wrap (x.tr+1)=x.tr+1:=lW (by omega) (by omega);rw [aP,atS];unfold jX evT;by_cases o0:oc=0
 ·have hs:=h0 o0;subst hs;subst o0;by_cases p4:op=4
  ·subst p4;by_cases pt:4611686018427387904<x.tr+1
   ·simp only [kJ,zz,hA,c1,ht,wt,pt,aK,if_true,eq_self,aI8,aI1]<;>exact⟨rfl,rfl⟩
   ·simp only [kJ,zz,hA,c1,ht,wt,pt,aK,if_true,eq_self,if_false,aI8,aI1]<;>exact⟨rfl,rfl⟩
  ·simp only [kJ,zz,hA,c1,ht,p4,aK,if_true,if_false,aI8,aI1]<;>exact⟨rfl,rfl⟩
 ·by_cases w0:x.w=0
  ·have c4:=hx w0;have F:=C.inf R c4;have ok:=F.ok;have hln:(x.lc.l.length:Int)=(((d1.at t).hd 1).l.length:Int):=R.ok.2.2.1;have hnc:((d1.at t).hd 2).l.length<=140737488351232:=(C.code R.t0 R.t1).len;unfold Nc at c4;have hw:IntKind.i64.wrap (x.a+1)=x.a+1:=lW (by omega) (by omega);unfold OkI Ins at ok;unfold Ins;by_cases n1:((((d1.at t).hd 2).at x.a).hd 0).n=1
   ·have hin:((((d1.at t).hd 2).at x.a).hd 3).n= -1\/0<=((((d1.at t).hd 2).at x.a).hd 3).n/\((((d1.at t).hd 2).at x.a).hd 3).n<(x.lc.l.length:Int):=by
     rw [hln];omega
    by_cases i0:((((d1.at t).hd 2).at x.a).hd 3).n<0
    ·by_cases p16:((((d1.at t).hd 2).at x.a).hd 1).n=16
     ·by_cases q16:e2=16
      ·by_cases q4:e4=1
       ·by_cases q3:oc=3
        ·simp only [kJ,zz,hA,c1,ht,c2,c3,c4,o0,w0,hw,n1,i0,p16,q16,q4,q3,z5]<;>exact⟨rfl,rfl⟩
        ·simp only [kJ,zz,hA,c1,ht,c2,c3,c4,o0,w0,hw,n1,i0,p16,q16,q4,q3,z5]<;>exact⟨rfl,rfl⟩
       ·by_cases q3:oc=3
        ·simp only [kJ,zz,hA,c1,ht,c2,c3,c4,o0,w0,hw,n1,i0,p16,q16,q4,q3,z5]<;>exact⟨rfl,rfl⟩
        ·simp only [kJ,zz,hA,c1,ht,c2,c3,c4,o0,w0,hw,n1,i0,p16,q16,q4,q3,z5]<;>exact⟨rfl,rfl⟩
      ·by_cases Ac:e2=15
       ·by_cases q3:oc=3
        ·simp only [kJ,zz,hA,c1,ht,c2,c3,c4,o0,w0,hw,n1,i0,p16,q16,Ac,q3,z5]<;>exact⟨rfl,rfl⟩
        ·simp only [kJ,zz,hA,c1,ht,c2,c3,c4,o0,w0,hw,n1,i0,p16,q16,Ac,q3,z5]<;>exact⟨rfl,rfl⟩
       ·by_cases q3:oc=3
        ·simp only [kJ,zz,hA,c1,ht,c2,c3,c4,o0,w0,hw,n1,i0,p16,q16,Ac,q3,z5]<;>exact⟨rfl,rfl⟩
        ·simp only [kJ,zz,hA,c1,ht,c2,c3,c4,o0,w0,hw,n1,i0,p16,q16,Ac,q3,z5]<;>exact⟨rfl,rfl⟩
     ·by_cases Ac:e2=15
      ·by_cases q3:oc=3
       ·simp only [kJ,zz,hA,c1,ht,c2,c3,c4,o0,w0,hw,n1,i0,p16,Ac,q3,z5]<;>exact⟨rfl,rfl⟩
       ·simp only [kJ,zz,hA,c1,ht,c2,c3,c4,o0,w0,hw,n1,i0,p16,Ac,q3,z5]<;>exact⟨rfl,rfl⟩
      ·by_cases q3:oc=3
       ·simp only [kJ,zz,hA,c1,ht,c2,c3,c4,o0,w0,hw,n1,i0,p16,Ac,q3,z5]<;>exact⟨rfl,rfl⟩
       ·simp only [kJ,zz,hA,c1,ht,c2,c3,c4,o0,w0,hw,n1,i0,p16,Ac,q3,z5]<;>exact⟨rfl,rfl⟩
    ·omega
   ·by_cases Ac:e2=15
    ·by_cases q3:oc=3
     ·simp only [kJ,zz,hA,c1,ht,c2,c3,c4,o0,w0,hw,n1,Ac,q3,z5]<;>exact⟨rfl,rfl⟩
     ·simp only [kJ,zz,hA,c1,ht,c2,c3,c4,o0,w0,hw,n1,Ac,q3,z5]<;>exact⟨rfl,rfl⟩
    ·by_cases q3:oc=3
     ·simp only [kJ,zz,hA,c1,ht,c2,c3,c4,o0,w0,hw,n1,Ac,q3,z5]<;>exact⟨rfl,rfl⟩
     ·simp only [kJ,zz,hA,c1,ht,c2,c3,c4,o0,w0,hw,n1,Ac,q3,z5]<;>exact⟨rfl,rfl⟩
  ·simp only [kJ,zz,hA,c1,ht,o0,w0,aK,if_true,if_false,aI8,aI1]<;>exact⟨rfl,rfl⟩
end
structure Sx (s k:D) (n:Nat):Prop where
 g:Gs s n
 wk:Wd (.sl 8) k
 n2s:s≠.i 2
 n2k:k≠.i 2
theorem Sx.st {s k:D} {n:Nat} (S:Sx s k n):Sk s k:=⟨S.g.wd,S.wk,S.n2s,S.n2k⟩
theorem Sx.mono {s k:D} {n m:Nat} (S:Sx s k n) (h:n<=m):Sx s k m:=⟨S.g.mono h,S.wk,S.n2s,S.n2k⟩
abbrev fV (k:D) (t:Int) (x:KT):D:=dL (dZ k.l t x.d)
theorem dU (a:D) (l:List D):dL (a::l)= .p a (dL l):=rfl
theorem fZ:dL []= .i 0:=rfl
structure Tried (d0 d1 s:D) (t op obj arg tries:Int) (n:Nat) (s':D) (e1 e2 e3 e4 e5 oc:Int):Prop where
 eq:L 400 [enc d0,enc d1,enc s,t,op,obj,arg,tries]=some [enc s',e1,e2,e3,e4,e5,oc]
 no:oc=0->s'=s/\e1=0/\e2=0/\e3=0/\e4=0/\e5=0
 oc3:oc=0\/oc=2\/oc=3
 gs:Gs s' (n+1)
 len:s'.l.length=s.l.length
 n2:s≠.i 2->s'≠.i 2
 e3:iW .i64 e3
 e4:iW .i64 e4
theorem try_any {d0 d1 s:D} {t op obj arg tries:Int} {n:Nat} (h0:Wd (.sl 3) d0) (h1:Wd (.sl 4) d1) (G:Gs s n) (hn:n<17592186043904) (ht:iW .i64 t) (hop:iW .u8 op) (hob:iW .i64 obj) (ha:iW .i64 arg) :
 ∃s' e1 e2 e3 e4 e5 oc,Tried d0 d1 s t op obj arg tries n s' e1 e2 e3 e4 e5 oc:=by
 have hf:=G.few (by omega:n<17592186044415);have z:iW .i64 0:=⟨by omega,by omega⟩;by_cases A:Acc d0 d1 s t op obj
 ·obtain⟨_,o,c,dn,g,r,v,T,hL⟩:=zO (arg:=arg) (tries:=tries) h0 h1 G.wd hf hop A;rw [GN] at hL;have o0:=A.o0;have o1:=A.o1;obtain⟨i,rfl⟩ : ∃i:Nat,obj=(i:Int):=⟨obj.toNat,by omega⟩;have hi:i<s.l.length:=by omega
  have hrow:=G.rows _ (aIZ hi);have e:s.l[i]=dL [.i o,.i c,.i dn,.i g,r,v]:=by rw [<- aX hi]; exact T.is
  rw [e] at hrow;have hA:=awG (M:=Mx d0 (i:Int)) (mo:=Mo d0 s (i:Int)) (op:=op) (tries:=tries) T (n:=n) hrow.1 hrow.2 (by omega) ht ha;have hE:=aHB (M:=Mx d0 (i:Int)) (mo:=Mo d0 s (i:Int)) (th:=t) (op:=op) (tries:=tries) T (by have:=hrow.1; have:r.l.length<=n:=this; omega) ha
  have hM:NoM (act (Mx d0 (i:Int)) (Mo d0 s (i:Int)) t op arg tries o c dn g r v)\/0<=Mx d0 (i:Int)/\Mx d0 (i:Int)<(s.l.length:Int):=by
   by_cases h:op=12\/op=24
   ·have:=P9 h0 h1 G.wd hf hop A h;exact .inr ⟨this.1,this.2.1⟩
   ·exact .inl (Uy (by omega) (by omega))
  have hg:=afA G hA o0 o1 hM;have hl:=NW s (i:Int) (Mx d0 (i:Int)) (act (Mx d0 (i:Int)) (Mo d0 s (i:Int)) t op arg tries o c dn g r v);generalize act (Mx d0 (i:Int)) (Mo d0 s (i:Int)) t op arg tries o c dn g r v=B at *
  have hn2:s≠.i 2->Cm s (i:Int) (Mx d0 (i:Int)) B≠.i 2:=fun _ he=>by rw [he] at hl;have:(D.i 2).l.length=0:=rfl;omega
  cases B with
  |blk=>exact⟨s,0,0,0,0,0,0,hL,fun _=> ⟨rfl,rfl,rfl,rfl,rfl,rfl⟩,.inl rfl,hg,rfl,fun h=>h,z,z⟩
  |mis=>exact⟨s,t,27,_,_,0,2,hL,fun h=>absurd h (by omega),.inr (.inl rfl),hg,rfl,fun h=>h,hob,wrap_in _⟩
  |res o' c' IU g' r' v' m a oc=>exact⟨_,t,op,_,a,0,oc,hL,fun h=>by have:=hA.2.2.2.2.2.2.2.2.2; omega,.inr hA.2.2.2.2.2.2.2.2.2,hg,hl,hn2,hob,hE⟩
 ·exact⟨s,0,0,0,0,0,0,MK h0 h1 G.wd hf hop A,fun _=> ⟨rfl,rfl,rfl,rfl,rfl,rfl⟩,.inl rfl,G.mono (aJN n),rfl,fun h=>h,z,z⟩
noncomputable abbrev stE (d0 d1 s k:D) (t:Int):Nat->Int:=bT L (low [enc d0,enc d1,enc s,enc k,t])
theorem Z8 {k:D} {t:Int} {x:KT} (h:k=dL k.l) (t0:0<=t) (t1:t<(k.l.length:Int)) (hk:k.at t=x.d):fV k t x=k:=by
 obtain⟨i,rfl⟩ : ∃i:Nat,t=(i:Int):=⟨t.toNat,by omega⟩;have hi:i<k.l.length:=by omega
 rw [aX hi] at hk;unfold fV;rw [<- hk];exact set_self h hi
section
variable {d0 d1 s k:D} {t:Int} {n:Nat} (S:Sx s k n)
include S
theorem axV (hR:L 1550 [enc d0,enc d1,enc s,enc k,t]=some [0]):L 1850 [enc d0,enc d1,enc s,enc k,t]=some [enc s,enc k,0,0,0,0,0,0]:=by
 by_cases hr:t<0\/(k.l.length:Int)<=t
 ·rcases akV S.st hr with h|⟨h,he⟩
  ·have K:dY (stE d0 d1 s k t) JM= .out [enc s,enc k,0,0,0,0,0,0]:=by
    refine bC [.eq (a0 9050 QD) Q0,.eq rV Qa,MC,MB] [] (ou [E8,W9,Qa,Qa,Qa,Qa,Qa,Qa]) (by simp only [zz,h,hR]<;>omega) (by kernel_rfl) ?_;simp only [zz,h]
   rw [aP,Pm];exact congrArg (fin L) K
  ·subst he
   have K:dY (stE d0 d1 s (.i 1) t) JM= .out [enc s,enc (.i 1),0,0,0,0,0,0]:=by refine bC [.eq (a0 9050 QD) Q0,.eq rV Q0,MC,MB] [.eq rV Qa] (ou [E8,Qh,Qa,Qa,Qa,Qa,Qa,Qa]) (by simp only [zz,h,hR]<;>omega) (by kernel_rfl) ?_;simp only [zz,h]
   rw [aP,Pm];exact congrArg (fin L) K
 ·obtain⟨i,rfl⟩ : ∃i:Nat,t=(i:Int):=⟨t.toNat,by omega⟩;have hi:i<k.l.length:=by omega
  obtain⟨a,lc,w,o,g,tr,T⟩:=jI S.wk _ (aIZ hi);have h:=Ut S.st hi T;have hs:fV k (i:Int) ⟨a,lc,w,o,g,tr⟩ = k:=Z8 (BM S.wk (by omega)).sh (by omega) (by omega) (by rw [aX hi,T.is]);simp only [fV,KT.d,dU,fZ] at hs;have ha:Dv lc=3\/Dv lc=4:=by unfold Dv; split<;>simp
  have K:dY (stE d0 d1 s k (i:Int)) JM= .out [enc s,enc k,0,0,0,0,0,0]:=by
   rcases ha with ha|ha
   ·rw [ha] at h;refine bC [.eq (a0 9050 QD) Q0,.eq rV wS,MC,MB] [.eq rV Qa,.eq rV Q0,.eq rV nK] (ou [E8,Qpw,Qa,Qa,Qa,Qa,Qa,Qa]) (by simp only [zz,h,hR]<;>omega) (by kernel_rfl) ?_;simp only [zz,h,hs]
   ·rw [ha] at h;refine bC [.eq (a0 9050 QD) Q0,.eq rV tC,MC,MB] [.eq rV Qa,.eq rV Q0,.eq rV nK,.eq rV wS] (ou [E8,Qpw,Qa,Qa,Qa,Qa,Qa,Qa]) (by simp only [zz,h,hR]<;>omega) (by kernel_rfl) ?_;simp only [zz,h,hs]
  rw [aP,Pm];exact congrArg (fin L) K
end
structure Rs (d0 d1 s k:D) (t:Int) (x:KT):Prop where
 c:Cd d0 d1
 r:Rt d0 d1 t x
 hk:k.at t=x.d
 ht:t<(k.l.length:Int)
 yes:L 1550 [enc d0,enc d1,enc s,enc k,t]=some [1]
theorem aBL {d0 d1 s k:D} {t:Int} {n:Nat} (S:Sx s k n) (hn:n<17592186043904) (h0:Wd (.sl 3) d0) (h1:Wd (.sl 4) d1):L 1550 [enc d0,enc d1,enc s,enc k,t]=some [0]\/∃x,Rs d0 d1 s k t x:=by
 obtain⟨ys,hL,b,rfl,hb⟩:=NP (k:=k) h0 h1 (S.g.few (by omega)).rows h1.len t;rcases hb with ⟨rfl,_⟩|⟨rfl,t0,t1,M⟩
 ·exact .inl hL
 ·refine .inr ?_;obtain⟨hle,hO⟩:=M.2;obtain⟨i,rfl⟩ : ∃i:Nat,t=(i:Int):=⟨t.toNat,by omega⟩;have hi:i<k.l.length:=by omega
  have hd:i<d1.l.length:=by omega
  obtain⟨a,lc,w,o,g,tr,T⟩:=jI S.wk _ (aIZ hi);have ok:=hO i hi;unfold OkK at ok;rw [T.is] at ok;simp only [zg,aIY,n_i] at ok;refine⟨⟨a,lc,w,o,g,tr⟩,(MR.code h0 h1 (S.g.few (by omega)).rows M).1,⟨by omega,by omega,?_,T.hl,T.hg⟩,by rw [aX hi,T.is],by omega,hL⟩;rw [aX hd];exact ok
section
variable {d0 d1 s k:D} {t:Int} {n:Nat} {x:KT} (S:Sx s k n) (R:Rs d0 d1 s k t x)
include S R
theorem Rs.cp:L 9050 [t,enc s,enc k]=some [Dv x.lc,t,enc s,enc k,x.a,enc x.lc,x.w,x.o,x.g,x.tr]:=by
 have t0:=R.r.t0;have ht:=R.ht;obtain⟨i,rfl⟩ : ∃i:Nat,t=(i:Int):=⟨t.toNat,by omega⟩;have hi:i<k.l.length:=by omega
 obtain⟨a,lc,w,o,g,tr,T⟩:=jI S.wk _ (aIZ hi);have h:=Ut S.st hi T;have e:=R.hk;rw [aX hi,T.is] at e;simp only [KT.d,dU,fZ,D.p.injEq,D.i.injEq,and_true] at e;obtain⟨rfl,rfl,rfl,rfl,rfl,rfl⟩:=e;exact h
theorem Rs.self:dL (dZ k.l t (.p (.i x.a) (.p x.lc (.p (.i x.w) (.p (.i x.o) (.p (.i x.g) (.p (.i x.tr) (.i 0))))))))=k:=by
 have hl:0<k.l.length:=by have:=R.r.t0; have:=R.ht; omega
 exact Z8 (BM S.wk hl).sh R.r.t0 R.ht R.hk
theorem aiG (ho:fB d1 t x=1):L 1850 [enc d0,enc d1,enc s,enc k,t]=some [enc s,enc k,0,0,0,0,0,4]:=by
 have h:=R.cp S;have hs:=R.self S;have hR:=R.yes;have hO:=sO (s:=s) R.hk R.ht R.r;rw [ho] at hO;have ha:Dv x.lc=3\/Dv x.lc=4:=by unfold Dv; split<;>simp
 have K:dY (stE d0 d1 s k t) JM= .out [enc s,enc k,0,0,0,0,0,4]:=by
  rcases ha with ha|ha
  ·rw [ha] at h;refine bC [.eq (a0 9050 QD) Q0,.eq rV wS,MC,.eq (a0 1650 UF) Q0] [.eq rV Qa,.eq rV Q0,.eq rV nK,MB,Qpz] (ou [E8,Qpw,Qa,Qa,Qa,Qa,Qa,tC]) (by simp only [zz,h,hR,hs,hO]<;>omega) (by kernel_rfl) ?_;simp only [zz,h,hs]
  ·rw [ha] at h;refine bC [.eq (a0 9050 QD) Q0,.eq rV tC,MC,.eq (a0 1650 UF) Q0] [.eq rV Qa,.eq rV Q0,.eq rV nK,.eq rV wS,MB,Qpz] (ou [E8,Qpw,Qa,Qa,Qa,Qa,Qa,tC]) (by simp only [zz,h,hR,hs,hO]<;>omega) (by kernel_rfl) ?_;simp only [zz,h,hs]
 rw [aP,Pm];exact congrArg (fin L) K
theorem ZX (ho:fB d1 t x=0) (hn:low (gQ d1 t x) 4=0):L 1850 [enc d0,enc d1,enc s,enc k,t]=some [enc s,enc (fV k t (gW (Ins d1 t x) x)),0,0,0,0,0,1]:=by
 have h:=R.cp S;have hs:=R.self S;have hR:=R.yes;have hO:=sO (s:=s) R.hk R.ht R.r;have hN:=Ae (s:=s) R.c R.hk R.ht R.r;have Lc:=FK R.r ho hn;rw [ho] at hO
 have K:dY (stE d0 d1 s k t) JM= .out [enc s,enc (fV k t (gW (Ins d1 t x) x)),0,0,0,0,0,1]:=by
  have hw:(gW (Ins d1 t x) x).w=x.w/\(gW (Ins d1 t x) x).o=x.o/\(gW (Ins d1 t x) x).g=x.g/\(gW (Ins d1 t x) x).tr=x.tr:=by
   unfold gW
   repeat' split
   all_goals exact⟨rfl,rfl,rfl,rfl⟩
  by_cases hp:0<x.lc.l.length
  ·have ha:Dv x.lc=3:=aIR hp;rw [ha] at h;have hl:=X0 (s:=s) R.c R.ht R.r Lc;refine bC [.eq (a0 9050 QD) Q0,.eq rV wS,MC,.eq (a0 1650 UF) Q0,Qpz,.eq (a0 1750 UF) Q0,Qp0,.eq (a0 14000 Qp1) Q0,.eq (rr 14000 Qp1 0) Qa] [.eq rV Qa,.eq rV Q0,.eq rV nK,MB] (ou [E8,.op .set W9 (cn (mk bD) (cn (mk (rr 14000 Qp1 12)) (cn (rr 14000 Qp1 13) Qpv))),Qa,Qa,Qa,Qa,Qa,Q0]) (by simp only [zz,h,hR,hs,hO,hN,hn,hl]<;>omega) (by kernel_rfl) ?_;simp only [zz,h,hs,hl,fV,KT.d,dU,fZ,hw]
  ·have ha:Dv x.lc=4:=aIQ hp;rw [ha] at h;obtain⟨hl,hc⟩:=XZ (s:=s) R.c R.ht R.r Lc (by omega);refine bC [.eq (a0 9050 QD) Q0,.eq rV tC,MC,.eq (a0 1650 UF) Q0,Qpz,.eq (a0 1750 UF) Q0,Qp0,.eq (a0 14050 Qp1) Q0,.eq (rr 14050 Qp1 0) Qa] [.eq rV Qa,.eq rV Q0,.eq rV nK,.eq rV wS,MB] (ou [E8,.op .set W9 (cn (mk bD) (cn (mk (rr 14050 Qp1 12)) (cn Qpq Qpv))),Qa,Qa,Qa,Qa,Qa,Q0]) (by simp only [zz,h,hR,hs,hO,hN,hn,hl]<;>omega) (by kernel_rfl) ?_;simp only [zz,h,hs,hl,fV,KT.d,dU,fZ,hw,hc]
 rw [aP,Pm];exact congrArg (fin L) K
theorem ZW {op obj arg tries e1 e2 e3 e4 e5 oc:Int} {s':D} (ho:fB d1 t x=0) (hn:gQ d1 t x= [op,obj,arg,tries,1]) (A:Tried d0 d1 s t op obj arg tries n s' e1 e2 e3 e4 e5 oc) :
 L 1850 [enc d0,enc d1,enc s,enc k,t]=some [enc s',enc (fV k t (jX (Ins d1 t x) x op e2 e3 e4 oc)),e1,e2,e3,e4,e5,oc]:=by
 have h:=R.cp S;have hs:=R.self S;have hR:=R.yes;have hO:=sO (s:=s) R.hk R.ht R.r;have hN:=Ae (s:=s) R.c R.hk R.ht R.r;rw [ho] at hO;rw [hn] at hN
 have hx:x.w=0->x.a<(Nc d1 t:Int):=fun w0=>by unfold fB at ho;rw [aIR w0] at ho;have:=R.r.ok.2.1;unfold Nc at ho ⊢;split at ho<;>omega
 have hE:evT e1 e2 e3 e4 e5 oc= [e1,e2,e3,e4,e5]:=by
  unfold evT;split
  ·rename_i h0;obtain⟨_,rfl,rfl,rfl,rfl,rfl⟩:=A.no h0;rfl
  ·rfl
 have K:dY (stE d0 d1 s k t) JM= .out [enc s',enc (fV k t (jX (Ins d1 t x) x op e2 e3 e4 oc)),e1,e2,e3,e4,e5,oc]:=by
  by_cases hp:0<x.lc.l.length
  ·have ha:Dv x.lc=3:=aIR hp;rw [ha] at h;have hl:=Xm R.c R.ht R.r A.eq (fun h=>(A.no h).1) hx;rw [hE] at hl;simp only [aI8,aI1] at hl;refine bC [.eq (a0 9050 QD) Q0,.eq rV wS,MC,.eq (a0 1650 UF) Q0,Qpz,.eq (a0 1750 UF) Q0,.eq (a0 14500 rW) Q0,.eq (rr 14500 rW 0) Qa] [.eq rV Qa,.eq rV Q0,.eq rV nK,MB,Qp0] (ou [rr 14500 rW 22,.op .set W9 (cn (mk bD) (cn (mk (rr 14500 rW 23)) (cn (rr 14500 rW 24) (cn (mk (rr 14500 rW 25)) (cn (mk (rr 14500 rW 26)) (cn (mk (rr 14500 rW 27)) (cn (mk (rr 14500 rW 28)) jK))))))),rr 14500 rW 16,rr 14500 rW 17,rr 14500 rW 18,rr 14500 rW 19,rr 14500 rW 20,rr 14500 rW 21]) (by simp only [zz,h,hR,hs,hO,hN,hl]<;>omega) (by kernel_rfl) ?_;simp only [zz,h,hs,hN,hl,fV,KT.d,dU,fZ]
  ·have ha:Dv x.lc=4:=aIQ hp;rw [ha] at h;obtain⟨hl,hc⟩:=Xl R.c R.ht R.r A.eq (fun h=>(A.no h).1) hx (by omega);rw [hE] at hl;simp only [aI8,aI1] at hl;refine bC [.eq (a0 9050 QD) Q0,.eq rV tC,MC,.eq (a0 1650 UF) Q0,Qpz,.eq (a0 1750 UF) Q0,.eq (a0 14550 rW) Q0,.eq (rr 14550 rW 0) Qa] [.eq rV Qa,.eq rV Q0,.eq rV nK,.eq rV wS,MB,Qp0] (ou [rr 14550 rW 22,.op .set W9 (cn (mk bD) (cn (mk (rr 14550 rW 23)) (cn Qpq (cn (mk (rr 14550 rW 24)) (cn (mk (rr 14550 rW 25)) (cn (mk (rr 14550 rW 26)) (cn (mk (rr 14550 rW 27)) jK))))))),rr 14550 rW 16,rr 14550 rW 17,rr 14550 rW 18,rr 14550 rW 19,rr 14550 rW 20,rr 14550 rW 21]) (by simp only [zz,h,hR,hs,hO,hN,hl]<;>omega) (by kernel_rfl) ?_;simp only [zz,h,hs,hN,hl,fV,KT.d,dU,fZ,hc]
 rw [aP,Pm];exact congrArg (fin L) K
end
theorem Tot.jmp {j k:Nat} {xs ys:List Int} {t:T Lf} {p:List Int->Prop} (e:S.tree j=t) (h:dY (bT L (low xs)) t= .jump k ys) (q:Tot k ys p):Tot j xs p:=by refine Tot.of ?_;rw [e,h];exact .jump q
theorem Tot.ret {j:Nat} {xs ys:List Int} {t:T Lf} {p:List Int->Prop} (e:S.tree j=t) (h:dY (bT L (low xs)) t= .out ys) (q:p ys):Tot j xs p:=by refine Tot.of ?_;rw [e,h];exact .out q
theorem RG (m:Nat) (hm:m<=60) (ih: ∀(k n:Int) (s kids:D),Wd .str s->Wd (.sl 6) kids->Tot 150 [k,enc s,n,enc kids,(m:Int)] one) (x3 x4 x5:Int) (kids:D) (hk:Wd (.sl 6) kids) :
 ∀(j i:Nat) (x1:Int),i+j=kids.l.length->Tot 151 [((m+1:Nat):Int),x1,(i:Int),x3,x4,x5,enc kids] one
 |0,i,x1,hi=>Tot.ret aAJ (ys:=[x1]) (bC [] [.lt Qo Qfc] (ou [Qb]) (by simp only [zz]<;>omega) (by kernel_rfl) (by simp only [zz])) ⟨x1,rfl⟩
 |j+1,i,x1,hi=>by
  have hl:=hk.len;have hil:i<kids.l.length:=by omega
  have hw:=aZ (n:=i) (by omega);obtain⟨k,s,n,ks,he,_,hs,_,hks⟩:=Ec hk hil;have ha:kids.at (i:Int)=dL [.i k,s,.i n,ks]:=by rw [aX hil]; exact he
  obtain⟨ys,abC,z,rfl⟩:=ih k n s ks hs hks;have hw2:IntKind.i64.wrap (((m+1:Nat):Int)-1)=(m:Int):=by rw [lW (by omega) (by omega)]; omega
  by_cases hx:10000<x1
  ·exact Tot.ret aAJ (ys:=[x1]) (bC [.lt Qo Qfc,.lt (.lit 10000) Qb] [] (ou [Qb]) (by simp only [zz]<;>omega) (by kernel_rfl) (by simp only [zz])) ⟨x1,rfl⟩
  ·exact Tot.jmp aAJ (bC [.lt Qo Qfc,.eq (a0 150 Qfe) Q0] [.lt (.lit 10000) Qb,uS] (ju 151 [Qf,wr (.add Qb (rr 150 Qfe 0)),kH,Qm,bD,bK,cZ]) (by simp only [zz,ha,zg,hw2,abC]<;>omega) (by kernel_rfl) (by simp only [zz,ha,zg,hw2,abC,hw]<;>rfl)) (RG m hm ih x3 x4 x5 kids hk j (i+1) (IntKind.i64.wrap (x1+z)) (by omega))
theorem XA: ∀(m:Nat),m<=60->∀(k n:Int) (s kids:D),Wd .str s->Wd (.sl 6) kids->Tot 150 [k,enc s,n,enc kids,(m:Int)] one
 |0,_,k,n,s,kids,_,_=>Tot.ret aE5 (ys:=[10000]) (bC [Qfa] [] (ou [.lit 10000]) (by simp only [zz]<;>omega) (by kernel_rfl) (by simp only [zz])) ⟨_,rfl⟩
 |m+1,hm,k,n,s,kids,hs,hk=>Tot.jmp aE5 (ys:=[((m+1:Nat):Int),_,(0:Nat),k,enc s,n,enc kids]) (bC [] [Qfa] (ju 151 [bD,wr (.add Q0 (wr (.quo Qc Qfb))),Qa,Qf,Qb,Qo,Qm]) (by simp only [zz]<;>omega) (by kernel_rfl) (by simp only [pO,List.map,aY,Nat.reduceLT,aQ,aT]<;>rfl)) (RG m (by omega) (XA m (by omega)) k (enc s) n kids hk kids.l.length 0 _ (by omega))
section
variable {d0 d1:D} (h1:Wd (.sl 4) d1)
include h1
theorem OL (x1 x2 x3:Int) (QK:D) (ha:Wd (.sl 6) QK) (q: ∀x0,Tot 102 [x0,x1,IntKind.i64.wrap (x2+1),x3,enc d0,enc d1] FQ): ∀(j i:Nat) (x0:Int),i+j=QK.l.length->Tot 103 [x0,x1,x2,x3,enc QK,(QK.l.length:Int),(i:Int),enc d0,enc d1] FQ
 |0,i,x0,hi=>Tot.jmp aE6 (bC [] [.lt cZ bK] (ju 102 [Qf,Qb,kH,Qm,dX,fF]) (by simp only [zz]<;>omega) (by kernel_rfl) (by simp only [zz])) (q x0)
 |j+1,i,x0,hi=>by
  have hl:=ha.len;have hil:i<QK.l.length:=by omega
  have hw:=aZ (n:=i) (by omega);obtain⟨k,s,n,ks,he,_,hs,_,hks⟩:=Ec ha hil;have hat:QK.at (i:Int)=dL [.i k,s,.i n,ks]:=by rw [aX hil]; exact he
  obtain⟨ys,abC,z,rfl⟩:=XA 60 (by omega) k n s ks hs hks;have abC:L 150 [k,enc s,n,enc ks,60]=some [z]:=abC;exact Tot.jmp aE6 (bC [.lt cZ bK,.lt cZ IG,.eq (a0 150 Qe9) Q0] [Qe7] (ju 103 [wr (.add Qf (rr 150 Qe9 0)),Qb,Qo,Qm,bD,bK,wr (.add cZ Q0),dX,fF]) (by simp only [zz,hat,zg,abC]<;>omega) (by kernel_rfl) (by simp only [zz,hat,zg,abC,hw]<;>rfl)) (OL x1 x2 x3 QK ha q j (i+1) (IntKind.i64.wrap (x0+z)) (by omega))
theorem ajX (i:Nat) (hi:i<d1.l.length) (q: ∀x0,Tot 101 [x0,(d1.l.length:Int),((i+1:Nat):Int),enc d0,enc d1] FQ): ∀(j k:Nat) (x0:Int),(∀nm' lc cd,d1.l[i]=dL [nm',lc,cd]->k+j=cd.l.length)->Tot 102 [x0,(i:Int),(k:Int),(d1.l.length:Int),enc d0,enc d1] FQ:=by
 have hl:=h1.len;have hw:=aZ (n:=i) (by omega);obtain⟨nm',lc,cd,he,_,_,hcd⟩:=Gg h1 hi;have hat:d1.at (i:Int)=dL [nm',lc,cd]:=by rw [aX hi]; exact he
 have hcl:=hcd.len;intro j
 induction j with
 |zero=> intro k x0 hk;have hk:=hk _ _ _ he;exact Tot.jmp aAK (bC [.lt Qb (ln bK)] [Qe2,.lt Qo (ln (ce 2 Zd))] (ju 101 [Qf,Qm,vX,bD,bK]) (by simp only [zz,hat,zg]<;>omega) (by kernel_rfl) (by simp only [zz,hw]<;>rfl)) (q x0)
 |succ j ih=>
  intro k x0 hk;have hk':=hk _ _ _ he;by_cases h6:6000<x0
  ·exact Tot.jmp aAK (bC [.lt Qb (ln bK),.lt Qo (ln (ce 2 Zd)),.lt (.lit 6000) Qf] [Qe2] (ju 101 [Qf,Qm,vX,bD,bK]) (by simp only [zz,hat,zg]<;>omega) (by kernel_rfl) (by simp only [zz,hw]<;>rfl)) (q x0)
  ·have hkl:k<cd.l.length:=by omega
   have hw2:=aZ (n:=k) (by omega);obtain⟨a,b,c,e,f,g,QK,hin,_,_,_,_,_,_,has⟩:=aaY hcd hkl;have aIc:cd.at (k:Int)=dL [.i a,.i b,.i c,.i e,.i f,.i g,QK]:=by rw [aX hkl]; exact hin
   refine Tot.jmp aAK (bC [.lt Qb (ln bK),.lt Qo (ln (ce 2 Zd))] [Qe2,.lt (.lit 6000) Qf,uS] (ju 103 [Qf,Qb,Qo,Qm,Qe6,ln Qe6,Qa,bD,bK]) (by simp only [zz,hat,zg]<;>omega) (by kernel_rfl) (by simp only [zz,hat,aIc,zg]<;>rfl)) (OL h1 (i:Int) (k:Int) (d1.l.length:Int) QK has (fun x0=>?_) QK.l.length 0 x0 (by omega));rw [hw2];exact ih (k+1) x0 fun nm' lc cd he=>by have:=hk nm' lc cd he; omega
theorem OJ: ∀(j i:Nat) (x0:Int),i+j=d1.l.length->Tot 101 [x0,(d1.l.length:Int),(i:Int),enc d0,enc d1] FQ
 |0,i,x0,hi=>by
  by_cases h6:6000<x0
  ·exact Tot.ret aAL (bC [.lt (.lit 6000) Qf] [wV] (ou [Q0]) (by simp only [zz]<;>omega) (by kernel_rfl) (by simp only [zz])) Aj
  ·exact Tot.ret aAL (bC [] [wV,.lt (.lit 6000) Qf] (ou [Qa]) (by simp only [zz]<;>omega) (by kernel_rfl) (by simp only [zz])) Ak
 |j+1,i,x0,hi=>by
  have hil:i<d1.l.length:=by omega
  obtain⟨nm',lc,cd,he,_,_,hcd⟩:=Gg h1 hil;refine Tot.jmp aAL (ys:=[_,(i:Int),((0:Nat):Int),(d1.l.length:Int),enc d0,enc d1]) (bC [wV,Qdk] [uS] (ju 102 [wr (.add Qf (wr (.add (ln Qdm) (ln (ce 2 Qdl))))),Qo,Qa,Qb,Qm,bD]) (by simp only [zz]<;>omega) (by kernel_rfl) (by simp only [zz]<;>rfl)) (ajX h1 i hil (fun x0=>OJ j (i+1) x0 (by omega)) cd.l.length 0 _ fun n' l' c' he'=>?_);rw [he] at he';have:=PI he';simp only [List.cons.injEq,and_true] at this;rw [this.2.2];omega
theorem ajW:Tot 100 [enc d0,enc d1] FQ:=
 Tot.jmp e100 (ys:=[_,(d1.l.length:Int),((0:Nat):Int),enc d0,enc d1]) (bC [] [] (ju 101 [wr (.add sZ Qc),Qc,Qa,Qf,Qb]) (by simp only [zz]<;>omega) (by kernel_rfl) (by simp only [zz]<;>rfl)) (OJ h1 d1.l.length 0 _ (by omega))
end
def nU (x:D):D:=dL [.i 0,if (x.hd 1).l.length=0 then .i 2 else dL (List.replicate (x.hd 1).l.length (.i 0)),.i 0,.i 0,.i 0,.i 0]
def eY (d0:D):D:=if d0.l.length=0 then .i 1 else dL (d0.l.map jY)
def iT (d1:D):D:=if d1.l.length=0 then .i 1 else dL (d1.l.map nU)
theorem Xi {l:List D} (h: ∀x∈l,∃a lc w o g tr,Kt x a lc w o g tr) (hn:l≠[]) (hl:l.length<=2199023255488):Wd (.sl 8) (dL l):=by
 have e:(l.map fun x=>x.l).map dL=l:=by
  rw [aKf]
  conv=>rhs; rw [<- aKH l]
  apply aKo;intro x hx;obtain⟨a,lc,w,o,g,tr,T⟩:=h x hx;rw [T.is];rfl
 rw [<- e];refine .many 8 [.int .i64,.sl 0,.int .u8,.int .i64,.int .i64,.int .i64] _ rfl (by simpa using hn) (by have:wZ 8=64:=rfl; rw [this,aJD]; omega) (fun r hr=>?_) fun r hr j d c h1 h2=>?_
 ·obtain⟨x,hx,rfl⟩:=aJh.1 hr;obtain⟨a,lc,w,o,g,tr,T⟩:=h x hx;rw [T.is];rfl
 ·obtain⟨x,hx,rfl⟩:=aJh.1 hr;obtain⟨a,lc,w,o,g,tr,T⟩:=h x hx;rw [T.is,aW] at h1
  match j with
  |0=>simp at h1 h2; subst h1 h2; exact .int _ _ T.ha
  |1=>simp at h1 h2; subst h1 h2; exact T.hl
  |2=>simp at h1 h2; subst h1 h2; exact .int _ _ T.hw
  |3=>simp at h1 h2; subst h1 h2; exact .int _ _ T.ho
  |4=>simp at h1 h2; subst h1 h2; exact .int _ _ T.hg
  |5=>simp at h1 h2; subst h1 h2; exact .int _ _ T.ht
  |j+6=>simp at h1
theorem amG (x:D) (h:(x.hd 1).l.length<=17592186043904): ∃a lc w o g tr,Kt (nU x) a lc w o g tr:=by
 have z:iW .i64 0:=⟨by omega,by omega⟩;refine⟨0,_,0,0,0,0,rfl,z,?_,⟨by omega,by omega⟩,z,z,z⟩;split
 ·exact .non 0
 ·rename_i hn;refine zK (fun y hy=> ⟨0,(List.mem_replicate.1 hy).2,z⟩) (fun he=>?_) (by simpa using h);have:=congrArg List.length he;simp only [aJ4,aI7] at this;omega
theorem FI {d1:D} (h1:Wd (.sl 4) d1): ∀x∈d1.l,(x.hd 1).l.length<=8796093021952:=by intro x hx;obtain⟨i,hi,rfl⟩:=aKi hx;obtain⟨nm',lc,cd,he,_,hlc,_⟩:=Gg h1 hi;rw [he];simp only [zg,aIY];have:=hlc.room;have h3:wZ 2=16:=rfl;rw [h3] at this;omega
theorem Np {d0 d1:D} (h0:Wd (.sl 3) d0) (h1:Wd (.sl 4) d1) (ok:xR d0 d1):Sx (eY d0) (iT d1) 0:=by
 refine⟨?_,?_,?_,?_⟩
 ·unfold eY;split
  ·exact⟨.nil 7,fun x hx=>by simp [D.l] at hx⟩
  ·refine⟨Rf (fun x hx=>?_) (fun he=>?_) (by rw [aJD]; have:=ok.1; omega),fun x hx=>?_⟩
   ·obtain⟨y,hy,rfl⟩:=aJh.1 hx;obtain⟨kd,nm',ln,s1,s2,he,_,hnn,_⟩:=h0.decl y hy;rw [he];refine⟨-1,_,0,0,.i 1,.i 1,rfl,⟨by omega,by omega⟩,?_,.inl rfl,⟨by omega,by omega⟩,.nil 0,.nil 0⟩;split
    ·exact hnn
    ·exact⟨by omega,by omega⟩
   ·have:=congrArg List.length he;simp only [aJD,aI7] at this;omega
   ·rw [aW] at hx;obtain⟨y,hy,rfl⟩:=aJh.1 hx;exact⟨aIV 0,aIV 0⟩
 ·unfold iT;split
  ·exact .nil 8
  ·refine Xi (fun x hx=>?_) (fun he=>?_) (by rw [aJD]; have:=ok.2.1; omega)
   ·obtain⟨y,hy,rfl⟩:=aJh.1 hx;exact amG y (by have:=FI h1 y hy; omega)
   ·have:=congrArg List.length he;simp only [aJD,aI7] at this;omega
 ·unfold eY;split
  ·intro h; cases h
  ·intro h;have:=congrArg (fun d=>d.l.length) h;simp only [aW,aJD,wY,aI7] at this;omega
 ·unfold iT;split
  ·intro h; cases h
  ·intro h;have:=congrArg (fun d=>d.l.length) h;simp only [aW,aJD,wY,aI7] at this;omega
theorem J6 (d1:D) (h1:Wd (.sl 4) d1) (hlen:d1.l.length<=16) (s:D): ∀(k i:Nat) (acc:List D),i+k=d1.l.length->acc.length=i->
 L 1452 [enc d1,(d1.l.length:Int),(i:Int),enc s,enc (dL acc)]=some [enc s,enc (dL (acc++(d1.l.drop i).map nU)),0]
 |0,i,acc,hi,ha=>by
  have c1: ¬(i:Int)<(d1.l.length:Int):=by omega
  rw [aP,atT,aJJ (by omega)];simp only [Xu,zz,c1,aK,List.map_nil,aJC]
 |k+1,i,acc,hi,ha=>by
  have hil:i<d1.l.length:=by omega
  have hd:d1.l.drop i=d1.l[i]::d1.l.drop (i+1):=aJq hil;have ih:=J6 d1 h1 hlen s k (i+1) (acc++ [nU d1.l[i]]) (by omega) (by simp [ha]);have c1:(i:Int)<(d1.l.length:Int):=by omega
  have c2: ¬((i:Int)<0):=by omega
  have w:=aZ (n:=i) (by omega);have c3:(acc.length:Int)<2199023255551:=by omega
  have hb:=FI h1 _ (aIZ hil);have c4:((((d1.l[i]).hd 1).l.length:Nat):Int)<17592186044416:=by omega
  have e2:acc++(nU d1.l[i]::(d1.l.drop (i+1)).map nU)=acc++ [nU d1.l[i]]++(d1.l.drop (i+1)).map nU:=by simp
  rw [hd,aJd,e2,<- ih,aP,atT];by_cases hz:((d1.l[i]).hd 1).l.length=0
  ·have hz':((((d1.l[i]).hd 1).l.length:Nat):Int)=0:=by omega
   have et:nU d1.l[i]= .p (.i 0) (.p (.i 2) (.p (.i 0) (.p (.i 0) (.p (.i 0) (.p (.i 0) (.i 0)))))):=by unfold nU; rw [aIR hz]; rfl
   rw [et];simp only [Xu,zz,c1,c2,w,aX hil,hz',c3,aW,aH]
  ·have hz': ¬((((d1.l[i]).hd 1).l.length:Nat):Int)=0:=by omega
   have et:nU d1.l[i]= .p (.i 0) (.p (dL (List.replicate ((d1.l[i]).hd 1).l.length (.i 0))) (.p (.i 0) (.p (.i 0) (.p (.i 0) (.p (.i 0) (.i 0)))))):=by unfold nU; rw [aIQ hz]; rfl
   rw [et];simp only [Xu,zz,c1,c2,w,aX hil,hz',c3,c4,aW,aJm,aH]
theorem XY (d1:D) (h1:Wd (.sl 4) d1) (hlen:d1.l.length<=16) (s:D):L 1451 [enc d1,(d1.l.length:Int),enc s]=some [enc s,enc (iT d1),0]:=by
 by_cases hn:d1.l.length=0
 ·have c1: ¬(0:Int)<(d1.l.length:Int):=by omega
  have e:iT d1= .i 1:=by unfold iT; rw [aIR hn]
  rw [aP,atU,e];simp only [Xv,zz,c1,aK]
 ·have hp:0<d1.l.length:=by omega
  have c1:(0:Int)<(d1.l.length:Int):=by omega
  have e:iT d1=dL (d1.l.map nU):=by unfold iT; rw [aIQ hn]
  have ih:=J6 d1 h1 hlen s (d1.l.length-1) 1 [nU (d1.l[0]'hp)] (by omega) rfl
  have e1:[nU (d1.l[0]'hp)]++(d1.l.drop 1).map nU=d1.l.map nU:=by
   conv=>rhs; rw [<- aJT (l:=d1.l),aJq hp]
   rfl
  rw [e1,<- e] at ih;have a0:d1.at 0=d1.l[0]'hp:=aX (i:=0) hp;have hb:=FI h1 _ (aIZ hp);have c4:((((d1.l[0]'hp).hd 1).l.length:Nat):Int)<17592186044416:=by omega
  rw [<- ih,aP,atU];by_cases hz:((d1.l[0]'hp).hd 1).l.length=0
  ·have hz':((((d1.l[0]'hp).hd 1).l.length:Nat):Int)=0:=by omega
   have et:dL [nU (d1.l[0]'hp)]= .p (.p (.i 0) (.p (.i 2) (.p (.i 0) (.p (.i 0) (.p (.i 0) (.p (.i 0) (.i 0))))))) (.i 0):=by unfold nU; rw [aIR hz]; rfl
   rw [et];simp only [Xv,zz,c1,a0,hz',wY,aI1,dU,fZ,aH,aJk]
  ·have hz': ¬((((d1.l[0]'hp).hd 1).l.length:Nat):Int)=0:=by omega
   have et:dL [nU (d1.l[0]'hp)]= .p (.p (.i 0) (.p (dL (List.replicate ((d1.l[0]'hp).hd 1).l.length (.i 0))) (.p (.i 0) (.p (.i 0) (.p (.i 0) (.p (.i 0) (.i 0))))))) (.i 0):=by unfold nU; rw [aIQ hz]; rfl
   rw [et];simp only [Xv,zz,c1,a0,hz',c4,wY,aI1,dU,fZ,aJm,aH,aJk]
theorem Tf {d0 d1:D} (h1:Wd (.sl 4) d1) (hc:L 450 [enc d0,enc d1]=some [0]) (ok:xR d0 d1):L 1450 [enc d0,enc d1]=some [enc (eY d0),enc (iT d1),0]:=by
 have h3:L 300 [enc d0,enc d1]=some [enc (eY d0)]:=by
  by_cases hn:d0.l.length=0
  ·have e:eY d0= .i 1:=by unfold eY; rw [aIR hn]
   rw [e];exact avW hc (.inr hn)
  ·have e:eY d0=dL (d0.l.map jY):=by unfold eY; rw [aIQ hn]
   rw [e];exact avX hc ok.1 (by omega)
 have K:dY (bT L (low [enc d0,enc d1])) aeQ= .jump 1451 [enc d1,(d1.l.length:Int),enc (eY d0)]:=by refine bC [Qf4,Qf5,.eq (a0 300 KJ) Q0] [] (ju 1451 [Qb,Qc,rr 300 KJ 0]) (by simp only [zz,hc,h3]<;>omega) (by kernel_rfl) ?_;simp only [zz,h3]
 rw [aP,atW];exact (congrArg (fin L) K).trans (XY d1 h1 ok.2.1 _)
theorem Td {d0 d1:D} {c:Int} (hc:L 450 [enc d0,enc d1]=some [c]) (h:c≠0):L 1450 [enc d0,enc d1]=some [enc (.i 1),enc (.i 1),c]:=by
 have K:dY (bT L (low [enc d0,enc d1])) aeQ= .out [enc (.i 1),enc (.i 1),c]:=by refine bC [Qf4] [Qf5] (ou [Qh,Qh,rr 450 KJ 0]) (by simp only [zz,hc]<;>omega) (by kernel_rfl) ?_;simp only [zz,hc]
 rw [aP,atW];exact congrArg (fin L) K
theorem jO {k:D} {t:Int} (t0:0<=t) (ht:t<(k.l.length:Int)) (x:KT):(fV k t x).at t=x.d:=by obtain⟨i,rfl⟩ : ∃i:Nat,t=(i:Int):=⟨t.toNat,by omega⟩;rw [lJ,aW,yZ (by omega)];rfl
theorem iG (k:D) (t:Int) (x:KT):(fV k t x).l.length=k.l.length:=by rw [aW,dQ]
theorem ajJ {d1:D} {t:Int} {x:KT} (ho: ¬fB d1 t x=1) (h: ¬low (gQ d1 t x) 4=0): ∃op obj arg tr,gQ d1 t x= [op,obj,arg,tr,1]:=by
 unfold fB at ho;unfold gQ at h ⊢;by_cases w0:x.w=0
 ·rw [aIR w0] at ho h ⊢;by_cases a0:x.a=(Nc d1 t:Int)
  ·rw [aIR a0] at ho;omega
  ·rw [aIQ a0] at h ⊢;by_cases h1:((Ins d1 t x).hd 0).n=1
   ·rw [aIR h1];exact⟨_,_,_,_,rfl⟩
   ·rw [aIQ h1] at h ⊢;by_cases h2:((Ins d1 t x).hd 0).n=2
    ·rw [aIR h2];exact⟨_,_,_,_,rfl⟩
    ·rw [aIQ h2] at h;exact absurd rfl h
 ·rw [aIQ w0];exact⟨_,_,_,_,rfl⟩
theorem GI (d1:D) (t:Int) (x:KT):fB d1 t x=0\/fB d1 t x=1:=by
 unfold fB;split
 ·split
  ·exact .inr rfl
  ·exact .inl rfl
 ·exact .inl rfl
theorem azB {d0 d1:D} {t:Int} {x:KT} (C:Cd d0 d1) (R:Rt d0 d1 t x) (hd0:d0.l.length<=64) {op obj arg tr b:Int} (hn:gQ d1 t x= [op,obj,arg,tr,b]):iW .u8 op/\iW .i64 obj/\iW .i64 arg:=by
 have z8:iW .u8 0:=⟨by omega,by omega⟩;have z:iW .i64 0:=⟨by omega,by omega⟩;have ok:=R.ok;unfold gQ at hn;by_cases w0:x.w=0
 ·rw [aIR w0] at hn;by_cases a0:x.a=(Nc d1 t:Int)
  ·rw [aIR a0] at hn;simp only [List.cons.injEq] at hn;obtain⟨rfl,rfl,rfl,_⟩:=hn;exact⟨z8,z,z⟩
  ·have hlt:x.a<(Nc d1 t:Int):=by have:=ok.2.1; unfold Nc at a0 ⊢; omega
   have F:=C.inf R hlt;rw [aIQ a0] at hn;by_cases h1:((Ins d1 t x).hd 0).n=1
   ·rw [aIR h1] at hn;simp only [List.cons.injEq] at hn;obtain⟨rfl,rfl,rfl,_⟩:=hn;exact⟨F.op,F.ob,aA2 F.ar R.ints⟩
   ·rw [aIQ h1] at hn;by_cases h2:((Ins d1 t x).hd 0).n=2
    ·rw [aIR h2] at hn;simp only [List.cons.injEq] at hn;obtain⟨rfl,rfl,rfl,_⟩:=hn;exact⟨⟨by omega,by omega⟩,F.ob,z⟩
    ·rw [aIQ h2] at hn;simp only [List.cons.injEq] at hn;obtain⟨rfl,rfl,rfl,_⟩:=hn;exact⟨z8,z,z⟩
 ·rw [aIQ w0] at hn;simp only [List.cons.injEq] at hn;obtain⟨rfl,rfl,rfl,_⟩:=hn;obtain⟨_,_,_,_,_,hw⟩:=ok;exact⟨⟨by omega,by omega⟩,⟨by omega,by omega⟩,R.hg⟩
theorem awR {lc:D} (h:Wd (.sl 0) lc) {z v:Int} (h0:0<=z) (h1:z<(lc.l.length:Int)) (hv:iW .i64 v):Wd (.sl 0) (dL (dZ lc.l z (.i v))):=by
 have:=h.room;have h3:wZ 0=8:=rfl;rw [h3] at this;have hs:=dQ lc.l z (.i v);refine zK (fun y hy=>?_) (fun he=>?_) (by rw [hs]; omega)
 ·rcases yU hy with h'|rfl
  ·exact (h.el1 rfl y h').i
  ·exact⟨v,rfl,hv⟩
 ·rw [he] at hs;simp only [aI7] at hs;omega
theorem adB {k:D} (hk:Wd (.sl 8) k) {t:Int} {x:KT} (h: ∃a lc w o g tr,Kt x.d a lc w o g tr) (hp:0<k.l.length):Wd (.sl 8) (fV k t x):=by
 have hf:=hk.room;have h3:wZ 8=64:=rfl;rw [h3] at hf;have hs:=dQ k.l t x.d;refine Xi (fun y hy=>?_) (fun he=>?_) (by rw [hs]; omega)
 ·rcases yU hy with h'|rfl
  ·exact jI hk y h'
  ·exact h
 ·rw [he] at hs;simp only [aI7] at hs;omega
section
variable {d0 d1 s k:D} {t:Int} {n:Nat} {x:KT}
theorem X4 {x:KT} (ha:iW .i64 x.a) (hl:Wd (.sl 0) x.lc) (hw:iW .u8 x.w) (ho:iW .i64 x.o) (hg:iW .i64 x.g) (ht:iW .i64 x.tr): ∃a lc w o g tr,Kt x.d a lc w o g tr:=⟨_,_,_,_,_,_,rfl,ha,hl,hw,ho,hg,ht⟩
theorem Rt.kt (C:Cd d0 d1) (R:Rt d0 d1 t x): ∃a lc w o g tr,Kt x.d a lc w o g tr:=by obtain⟨a0,a1,_,t0,t1,hw⟩:=R.ok;have hd:=C.ok.1;have hnc:=(C.code R.t0 R.t1).len;exact X4 ⟨by omega,by omega⟩ R.hl ⟨by omega,by omega⟩ ⟨by omega,by omega⟩ R.hg ⟨by omega,by omega⟩
theorem amB (C:Cd d0 d1) (R:Rt d0 d1 t x) (hx:x.w=0->x.a<(Nc d1 t:Int)) {op e2 e3 e4 oc:Int} (h3:iW .i64 e3) (h4:iW .i64 e4): ∃a lc w o g tr,Kt (jX (Ins d1 t x) x op e2 e3 e4 oc).d a lc w o g tr:=by
 obtain⟨a0,a1,hln,t0,t1,hw⟩:=R.ok;have hd:=C.ok.1;have hnc:=(C.code R.t0 R.t1).len;have ka:iW .i64 x.a:=⟨by omega,by omega⟩;have kw:iW .u8 x.w:=⟨by omega,by omega⟩;have ko:iW .i64 x.o:=⟨by omega,by omega⟩;have kt:iW .i64 x.tr:=⟨by omega,by omega⟩;have z:iW .i64 0:=⟨by omega,by omega⟩;have z8: ∀v:Int,v=0\/v=24\/v=25->iW .u8 v:=fun v h=> ⟨by omega,by omega⟩;unfold jX;split
 ·split
  ·exact X4 ka R.hl kw ko R.hg (by
    show iW .i64 (if 4611686018427387904<x.tr+1 then 4611686018427387904 else x.tr+1)
    split<;>exact⟨by omega,by omega⟩)
  ·exact X4 ka R.hl kw ko R.hg kt
 ·split
  ·rename_i w0;have F:=C.inf R (hx w0);have ok:=F.ok;have h1:=hx w0;unfold Nc at h1;unfold OkI at ok;have k1:iW .i64 (x.a+1):=⟨by omega,by omega⟩;refine X4 ?_ ?_ ?_ ?_ ?_ z
   ·show iW .i64 (if _ then _ else _);split
    ·exact F.to
    ·exact k1
   ·show Wd (.sl 0) (if _ then _ else _);split
    ·rename_i hc;refine awR R.hl (by omega) ?_ h4;have:=hc.1;omega
    ·exact R.hl
   ·show iW .u8 (if _ then _ else _);split
    ·split
     ·exact z8 _ (by omega)
     ·exact z8 _ (by omega)
    ·exact z8 _ (by omega)
   ·show iW .i64 (if _ then _ else _);split
    ·exact h3
    ·exact ko
   ·show iW .i64 (if _ then _ else _);split
    ·exact h4
    ·exact R.hg
  ·exact X4 ka R.hl (z8 _ (.inl rfl)) z z z
theorem aeT {k:D} (hp:0<k.l.length) (t:Int) (x:KT):fV k t x≠.i 2:=fun he=>by have:=iG k t x;rw [he] at this;have e:(D.i 2).l.length=0:=rfl;omega
theorem alZ (S:Sx s k n) (C:Cd d0 d1) (R:Rt d0 d1 t x) (ht:t<(k.l.length:Int)) (hx:x.w=0->x.a<(Nc d1 t:Int)) {op obj arg tries e1 e2 e3 e4 e5 oc:Int} {s':D} (A:Tried d0 d1 s t op obj arg tries n s' e1 e2 e3 e4 e5 oc) :
 Sx s' (fV k t (jX (Ins d1 t x) x op e2 e3 e4 oc)) (n+1):=by
 have hp:0<k.l.length:=by have:=R.t0; omega
 exact⟨A.gs,adB S.wk (amB C R hx A.e3 A.e4) hp,A.n2 S.n2s,aeT hp _ _⟩
theorem avZ (R:Rt d0 d1 t x) (ho:fB d1 t x=0):x.w=0->x.a<(Nc d1 t:Int):=fun w0=>by unfold fB at ho;rw [aIR w0] at ho;have:=R.ok.2.1;unfold Nc at ho ⊢;split at ho<;>omega
end
theorem Tm: ∀(l:List D) (k v k':D),pF (CO l k v) k'=if k=k' then some v else pF l k'
 |[],k,v,k'=>by
  simp only [CO,pF];by_cases h:k=k'
  ·rw [aIR h]; exact aIR h
  ·rw [aIQ h]; exact aIQ h
 |d::l,k,v,k'=>by
  simp only [CO];by_cases h:YT d=k
  ·rw [aIR h];simp only [pF];by_cases h2:k=k'
   ·rw [aIR h2]; exact aIR h2
   ·rw [aIQ h2,aIQ (fun h3=>h2 (h.symm.trans h3))]; exact aIQ h2
  ·rw [aIQ h];simp only [pF,Tm l k v k'];by_cases h2:YT d=k'
   ·rw [aIR h2,aIQ (fun h3=>h (h2.trans h3.symm)),aIR h2]
   ·rw [aIQ h2,aIQ h2]
def xP (m:Int) (l:List D):Prop:=(∀x∈l,0<=x.n/\x.n<m)/\(l.map D.n).Nodup
def KN (N o dn:Int) (rl vl:Nat):Prop:=(N<0->(vl:Int)=0)/\(0<=N->(vl:Int)<=N)/\(o<0\/(rl:Int)=0/\dn=0)
def acV (s:D) (l:List D):Prop:= ∀n:Int,(pF s.l (.i n)=none/\n∉l.map D.n)\/(pF s.l (.i n)=some (.i 1)/\n∈l.map D.n)
theorem aoL {s x:D} {l:List D} (h:acV s l):acV (dL (CO s.l (.i x.n) (.i 1))) (l++ [x]):=fun n=>by
 rw [aW,Tm,aKb];by_cases hn:x.n=n
 ·rw [aIR (by rw [hn])];exact .inr ⟨rfl,aKX _ (by simp [hn])⟩
 ·rw [aIQ (fun h=>hn (by simpa using h))];rcases h n with ⟨h1,h2⟩|⟨h1,h2⟩
  ·refine .inl ⟨h1,fun h3=>?_⟩;rcases aJE.1 h3 with h3|h3
   ·exact h2 h3
   ·simp only [List.map,aI3,aJG,or_false] at h3;exact hn h3.symm
  ·exact .inr ⟨h1,aLr _ h2⟩
theorem LP {P Q:Prop} {ys:List Int} (h:P) (hQ:isB Q ys):isB (P/\Q) ys:=by
 obtain⟨b,rfl,h1|h1⟩:=hQ
 ·exact⟨b,rfl,.inl ⟨h1.1,fun q=>h1.2 q.2⟩⟩
 ·exact⟨b,rfl,.inr ⟨h1.1,h,h1.2⟩⟩
theorem Ai {P Q:Prop} (h: ¬P):isB (P/\Q) [0]:=Bo fun q=>h q.1
theorem XF (m:Int) (r:D) (hl:r.l.length<=140737488351232) (k nm' N x7 x8 o c dn g:Int) (v:D): ∀(j i:Nat) (seen:D),i+j=r.l.length->acV seen (r.l.take i)->xP m (r.l.take i)->
 Tot 501 [m,enc r,(r.l.length:Int),(i:Int),k,nm',N,x7,x8,o,c,dn,g,enc v,enc seen] (isB (xP m r.l/\KN N o dn r.l.length v.l.length))
 |0,i,seen,hi,_,hR=>by
  have c1: ¬(i:Int)<(r.l.length:Int):=by omega
  rw [aJI (by omega)] at hR;refine Tot.of ?_;unfold KN;rw [akP];simp only [Xq,zz,c1]
  repeat' first
   |exact .out (LP hR (Bo (by omega)))
   |exact .out (LP hR (X9 (by omega)))
   |refine .ite (fun _=>?_) (fun _=>?_)
 |j+1,i,seen,hi,hS,hR=>by
  have hil:i<r.l.length:=by omega
  have c1:(i:Int)<(r.l.length:Int):=by omega
  have c2: ¬((i:Int)<0):=by omega
  have w:=aZ (n:=i) (by omega);have ht:r.l.take (i+1)=r.l.take i++ [r.l[i]]:=by rw [List.take_add_one,aI6 hil]; rfl
  have hmem:r.l[i]∈r.l:=aIZ hil;have ih:=fun h=>XF m r hl k nm' N x7 x8 o c dn g v j (i+1) (dL (CO seen.l (.i (r.l[i]).n) (.i 1))) (by omega) (by rw [ht]; exact aoL hS) h;refine Tot.of ?_;rw [akP];rcases hS (r.l[i]).n with ⟨h1,h2⟩|⟨h1,h2⟩
  ·simp only [Xq,zz,c1,c2,w,aX hil,h1,Option.isSome_none,aI9];refine .ite (fun q=> .out (Ai fun R=>?_)) (fun q=> .ite (fun q2=>?_) (fun q2=> .out (Ai fun R=>?_)))
   ·have:=R.1 _ hmem;omega
   ·refine .jump (ih ?_);rw [ht];refine⟨fun x hx=>?_,?_⟩
    ·rcases aJE.1 hx with hx|hx
     ·exact hR.1 x hx
     ·simp only [aI3,aJG,or_false] at hx;subst hx;exact⟨by omega,q2⟩
    ·rw [aKb,aLs];refine⟨hR.2,by simp,fun a ha b hb=>?_⟩;simp only [List.map,aI3,aJG,or_false] at hb;subst hb;intro he;subst he;exact h2 ha
   ·have:=R.1 _ hmem;omega
  ·simp only [Xq,zz,c1,c2,w,aX hil,h1,aC]
   have nd: ¬xP m r.l:=fun R=>by
    have hn:=R.2;have e:r.l=r.l.take i++r.l[i]::r.l.drop (i+1):=by rw [<- aJq hil,aJ2]
    rw [e,aKb,aLs] at hn;exact hn.2.2 _ h2 _ (by rw [aJd]; exact List.mem_cons_self) rfl
   refine .ite (fun q=> .out (Ai nd)) (fun q=> .ite (fun q2=> .out (Ai nd)) (fun q2=> .out (Ai nd)))
theorem aiS (m:Int) (r:D) (hl:r.l.length<=140737488351232) (k nm' N x7 x8 o c dn g:Int) (v:D) :
 Tot 501 [m,enc r,(r.l.length:Int),0,k,nm',N,x7,x8,o,c,dn,g,enc v,enc (.i 0)] (isB (xP m r.l/\KN N o dn r.l.length v.l.length)):=
 XF m r hl k nm' N x7 x8 o c dn g v r.l.length 0 (.i 0) (by omega) (fun n=> .inl ⟨rfl,by simp⟩) ⟨by simp,by simp⟩
def wU (k N c:Int):Prop:=k=9\/(k=3/\0<=c/\c<=N)\/(k=5/\0<=c/\c<=IntKind.i64.wrap (N-1))\/(k=7/\0<=c/\c<=1099511627776)\/(k≠3/\k≠5/\k≠7/\k≠9/\c=0)
theorem azD (k x1 N x3 x4 c:Int): ∃a b:Int,L 650 [k,x1,N,x3,x4]=some [a,b]/\(b=0/\wU k N c\/b=1/\(wU k N c↔0<=c/\c<=a)):=by
 have:Tot 650 [k,x1,N,x3,x4] (fun ys=> ∃a b:Int,ys= [a,b]/\(b=0/\wU k N c\/b=1/\(wU k N c↔0<=c/\c<=a))):=by
  unfold wU;refine Tot.of ?_;rw [aAE];simp only [amN,zz]
  repeat' first
   |exact .out ⟨_,_,rfl,by omega⟩
   |refine .ite (fun _=>?_) (fun _=>?_)
 obtain⟨ys,h,a,b,rfl,h2⟩:=this;exact⟨a,b,h,h2⟩
def UK (k N m o c dn g:Int) (rl vl:Nat):Prop:=
 wU k N c/\-1<=o/\o<m/\0<=g/\g<=4611686018427387904/\(0<=o->k=1\/k=2\/k=6)/\(0<(rl:Int)->k=4\/k=2)/\(0<(vl:Int)->k=8)/\(dn≠0->k=6)/\(0<g->k=5)
def acU (k N m o c dn g:Int) (r v:D):Prop:=UK k N m o c dn g r.l.length v.l.length/\xP m r.l/\KN N o dn r.l.length v.l.length
set_option maxHeartbeats 4000000 in
theorem aoF (k x1 N x3 x4 m o c dn g:Int) (r v:D) (hl:r.l.length<=140737488351232):Tot 500 [k,x1,N,x3,x4,o,c,dn,g,enc r,enc v,m] (isB (acU k N m o c dn g r v)):=by
 unfold acU UK;obtain⟨a,b,hM,hb⟩:=azD k x1 N x3 x4 c;have ih:=aiS m r hl k x1 N x3 x4 o c dn g v;refine Tot.of ?_;rw [aAF];generalize wU k N c=H at *;by_cases b0:b=0
 ·subst b0
  have hH:H:=by
   rcases hb with h|h
   ·exact h.2
   ·omega
  simp only [aiE,zz,hM]
  repeat' first
   |exact .out (Ai (by omega))
   |exact .jump (let ⟨ys,hL,hB⟩:=ih; ⟨ys,hL,LP ⟨hH,by omega,by omega,by omega,by omega,by omega,by omega,by omega,by omega,by omega⟩ hB⟩)
   |refine .ite (fun _=>?_) (fun _=>?_)
 ·have hH:H↔0<=c/\c<=a:=by
   rcases hb with h|h
   ·omega
   ·exact h.2
  simp only [aiE,zz,hM,aIQ b0]
  repeat' first
   |exact .out (Ai fun h=>by first |omega|(have:=hH.1 h.1; omega))
   |exact .jump (let ⟨ys,hL,hB⟩:=ih; ⟨ys,hL,LP ⟨hH.2 ⟨by omega,by omega⟩,by omega,by omega,by omega,by omega,by omega,by omega,by omega,by omega,by omega⟩ hB⟩)
   |refine .ite (fun _=>?_) (fun _=>?_)
theorem azL {P:Prop} {j:Nat} {xs:List Int} (h:Tot j xs (isB P)):L j xs=some [1]↔P:=by
 obtain⟨ys,hL,b,rfl,hb⟩:=h;rw [hL];simp only [aIS,List.cons.injEq,and_true];rcases hb with ⟨h1,h2⟩|⟨h1,h2⟩
 ·exact⟨fun h=>by omega,fun h=>absurd h h2⟩
 ·exact⟨fun _=>h2,fun _=>h1⟩
theorem aoG {d x:D} {m:Nat} {o c dn g:Int} {r v:D} (T:Tg x o c dn g r v) (hl:r.l.length<=140737488351232):Snd d x m↔acU (d.hd 0).n (d.hd 2).n (m:Int) o c dn g r v:=by
 have h:=azL (aoF (d.hd 0).n (enc (d.hd 1)) (d.hd 2).n (enc (d.hd 3)) (d.hd 4).n (m:Int) o c dn g r v hl)
 have e:(if dn=0 then (0:Int) else 1)=dn:=by rcases T.hd with rfl|rfl<;>rfl
 unfold Snd axY;rw [T.is];simp only [zg,aIY,n_i,e];exact h
theorem Vd {m:Int} {l l':List D} (h:xP m l) (hs:l'.Sublist l):xP m l':=⟨fun x hx=>h.1 x (hs.subset hx),h.2.sublist (hs.map _)⟩
theorem ayH (m:Int):xP m []:=⟨by simp,by simp⟩
theorem XE {m t:Int} {l:List D} (h:xP m l) (hn: ∀x∈l,x.n≠t) (t0:0<=t) (t1:t<m):xP m (l++ [.i t]):=by
 refine⟨fun x hx=>?_,?_⟩
 ·rcases aJE.1 hx with hx|hx
  ·exact h.1 x hx
  ·simp only [aI3,aJG,or_false] at hx;subst hx;exact⟨t0,t1⟩
 ·rw [aKb,aLs];refine⟨h.2,by simp,fun a ha b hb=>?_⟩;simp only [List.map,aI3,aJG,or_false,n_i] at hb;subst hb;obtain⟨x,hx,rfl⟩:=aJh.1 ha;exact hn x hx
theorem aDk {m t:Int} {l:List D} (h:xP m l) (t0:0<=t) (t1:t<m):xP m (wo t l++ [.i t]):=
 XE (Vd h List.filter_sublist) (fun x hx=>by simpa using (aJU.1 hx).2) t0 t1
theorem ayI {m:Int} {l:List D} (h:xP m l) (k:Nat):xP m (l.take k++l.drop (k+1)):=by rw [<- List.eraseIdx_eq_take_drop_succ];exact Vd h (List.eraseIdx_sublist _ _)
theorem NZ {r:D} {t:Int} (h:place r t<0): ∀x∈r.l,x.n≠t:=by
 rcases tZ r t with ⟨_,h2⟩|⟨k,_,h1,_⟩
 ·exact h2
 ·omega
def alD (k N m:Int):Act->Prop
 | .res o c dn g r v _ _ _=>acU k N m o c dn g r v
 |_=>True
theorem alD.ite {k N m:Int} {p:Prop} [Decidable p] {a b:Act} (ha:p->alD k N m a) (hb: ¬p->alD k N m b):alD k N m (if p then a else b):=by
 by_cases h:p
 ·rw [aIR h]; exact ha h
 ·rw [aIQ h]; exact hb h
theorem Ov {op k:Int} (h0:0<=op) (hk:kindOf op=k) (h1:1<=k) :
 (op=1\/op=2\/op=3\/op=4)/\k=1\/(op=5\/op=6\/op=7\/op=8)/\k=2\/(op=9\/op=10\/op=11)/\k=3\/(op=12\/op=13\/op=14\/op=24)/\k=4\/(op=15\/op=25)/\k=5\/(op=16\/op=26)/\k=6\/(op=17\/op=18\/op=19)/\k=7\/(op=20\/op=21)/\k=8\/(op=22\/op=23)/\k=9:=by
 unfold kindOf at hk;by_cases h27:op<27
 ·have:op=0\/op=1\/op=2\/op=3\/op=4\/op=5\/op=6\/op=7\/op=8\/op=9\/op=10\/op=11\/op=12\/op=13\/op=14\/op=15\/op=16\/op=17\/op=18\/op=19\/op=20\/op=21\/op=22\/op=23\/op=24\/op=25\/op=26:=by omega
  rcases this with rfl|rfl|rfl|rfl|rfl|rfl|rfl|rfl|rfl|rfl|rfl|rfl|rfl|rfl|rfl|rfl|rfl|rfl|rfl|rfl|rfl|rfl|rfl|rfl|rfl|rfl|rfl
  all_goals simp at hk
  all_goals subst hk
  all_goals first |omega|simp
 ·rw [aIQ h27] at hk;omega
section
variable {d0 x:D} {k N m mo th op arg tries o c dn g:Int} {r v:D}
set_option maxHeartbeats 8000000 in
theorem aA7 (T:Tg x o c dn g r v) (S:acU k N m o c dn g r v) (hop:0<=op) (hk:kindOf op=k) (hO:OkO d0 k N) (t0:0<=th) (t1:th<m) (hm:m<=16):alD k N m (act N mo th op arg tries o c dn g r v):=by
 obtain⟨P,R,E⟩:=S;have hc1:=T.hc.1;have hc2:=T.hc.2;have hg1:=T.hg.1;have hd:=T.hd;have pr:=jC r th;have pn:=fun h=>NZ (r:=r) (t:=th) h;have rs:=fun h=>XE R (NZ (r:=r) (t:=th) h) t0 t1;have rw':=aDk R t0 t1
 have rd:=ayI R (place r th).toNat
 have r1:=Vd R (List.drop_sublist 1 r.l);obtain⟨k1,k2,_,kn,k5,_⟩:=hO;unfold UK wU at P;unfold KN at E;have hcs:=Ov hop hk k1;rcases hcs with ⟨h|h|h|h,hk'⟩|⟨h|h|h|h,hk'⟩|⟨h|h|h,hk'⟩|⟨h|h|h|h,hk'⟩|⟨h|h,hk'⟩|⟨h|h,hk'⟩|⟨h|h|h,hk'⟩|⟨h|h,hk'⟩|⟨h|h,hk'⟩
 all_goals
  subst h;subst hk';simp only [act,Int.reduceEq,if_true,if_false,reduceIte]
  repeat' first
   |exact trivial
   |refine alD.ite (fun _=>?_) (fun _=>?_)
 all_goals
  refine⟨?_,?_,?_⟩
  ·clear rs rw' rd r1 pn;unfold UK wU
   try simp only [aW,gI,wY,aJa,aI5,aI7,aJt,IntKind.wrap_i64,true_or,or_true,true_and,and_true,implies_true,true_implies] at *
   omega
  ·try simp only [aW,gI,wY]
   first
    |exact R
    |exact rs (by omega)
    |exact rw'
    |exact rd
    |exact r1
    |exact ayH _
  ·unfold KN
   try simp only [aW,gI,wY,aJa,aI5,aI7,aJt,aJc,IntKind.wrap_i64,true_or,or_true,true_and,and_true,implies_true,true_implies] at *
   omega
end
structure aIN (d0 d1 s k:D) (t:Int) (n:Nat) (s' k':D) (e1 e2 e3 e4 e5 oc:Int):Prop where
 eq:L 1850 [enc d0,enc d1,enc s,enc k,t]=some [enc s',enc k',e1,e2,e3,e4,e5,oc]
 sx:Sx s' k' (n+1)
 ls:s'.l.length=s.l.length
 lk:k'.l.length=k.l.length
section
variable {d0 d1 s k:D} {n:Nat} (S:Sx s k n) (hn:n<17592186043904) (h0:Wd (.sl 3) d0) (h1:Wd (.sl 4) d1)
include S hn h0 h1
theorem aDB {t:Int} {x:KT} (R:Rs d0 d1 s k t x) (ho:fB d1 t x=0) (ha:low (gQ d1 t x) 4=0):Sx s (fV k t (gW (Ins d1 t x) x)) n:=by
 have hp:0<k.l.length:=by have:=R.r.t0; have:=R.ht; omega
 exact⟨S.g,adB S.wk ((G6 R.c R.ht R.r (FK R.r ho ha)).1.kt R.c) hp,S.n2s,aeT hp _ _⟩
end
def XK (x n:Int):Int:=if x.tmod n<0 then x.tmod n+n else x.tmod n
theorem Xo {x n:Int} (h:0<n): -n<x.tmod n/\x.tmod n<n:=by have h1:=aKs x h;have h2:=aKs (-x) h;rw [Int.neg_tmod] at h2;omega
theorem ajA {x n:Int} (h:0<n):0<=XK x n/\XK x n<n:=by have:=Xo (x:=x) h;unfold XK;split<;>omega
theorem aiZ {x n:Int} (h:0<n) (hb:n<=140737488351232):(IntKind.i64.wrap (x.tmod n+n)).tmod n=XK x n:=by
 have h1:=Xo (x:=x) h;rw [lW (by omega) (by omega)];unfold XK;split
 ·exact Int.tmod_eq_of_lt (by omega) (by omega)
 ·rw [Int.tmod_eq_emod_of_nonneg (by omega),Int.add_emod_right];exact Int.emod_eq_of_lt (by omega) (by omega)
inductive Y8 (d0 d1 s:D) (t op obj arg tries:Int):D->Int->Int->Int->Int->Int->Int->Prop
 |no:Y8 d0 d1 s t op obj arg tries s 0 0 0 0 0 0
 |mis (A:Acc d0 d1 s t op obj):Y8 d0 d1 s t op obj arg tries s t 27 obj (IntKind.i64.wrap op) 0 2
 |res (A:Acc d0 d1 s t op obj) (o c dn g:Int) (r v:D) (o' c' IU g':Int) (r' v':D) (m:Option Int) (a oc:Int) (T:Tg (s.at obj) o c dn g r v)
  (h:act (Mx d0 obj) (Mo d0 s obj) t op arg tries o c dn g r v= .res o' c' IU g' r' v' m a oc):Y8 d0 d1 s t op obj arg tries (Cm s obj (Mx d0 obj) (.res o' c' IU g' r' v' m a oc)) t op obj a 0 oc
section
variable {d0 d1 s s':D} {t op obj arg tries e1 e2 e3 e4 e5 oc:Int} {n:Nat}
theorem Zz (h0:Wd (.sl 3) d0) (h1:Wd (.sl 4) d1) (G:Gs s n) (hn:n<17592186043904) (hop:iW .u8 op) (A:Tried d0 d1 s t op obj arg tries n s' e1 e2 e3 e4 e5 oc):Y8 d0 d1 s t op obj arg tries s' e1 e2 e3 e4 e5 oc:=by
 have hf:=G.few (by omega:n<17592186044415);have hA:=A.eq;by_cases h:Acc d0 d1 s t op obj
 ·obtain⟨_,o,c,dn,g,r,v,T,hL⟩:=zO (arg:=arg) (tries:=tries) h0 h1 G.wd hf hop h;rw [GN] at hL;rw [hA] at hL
  cases hB:act (Mx d0 obj) (Mo d0 s obj) t op arg tries o c dn g r v with
  |blk=> rw [hB] at hL;simp only [evA,aIS,List.cons.injEq,and_true] at hL;obtain⟨q,rfl,rfl,rfl,rfl,rfl,rfl⟩:=hL;have q:=lN q;subst q;exact .no
  |mis=> rw [hB] at hL;simp only [evA,aIS,List.cons.injEq,and_true] at hL;obtain⟨q,rfl,rfl,rfl,rfl,rfl,rfl⟩:=hL;have q:=lN q;subst q;exact .mis h
  |res o' c' IU g' r' v' m a oc'=> rw [hB] at hL;simp only [evA,aIS,List.cons.injEq,and_true] at hL;obtain⟨q,rfl,rfl,rfl,rfl,rfl,rfl⟩:=hL;have q:=lN q;subst q;exact .res h o c dn g r v o' c' IU g' r' v' m _ _ T hB
 ·have hL:=MK (arg:=arg) (tries:=tries) h0 h1 G.wd hf hop h;rw [hA] at hL;simp only [aIS,List.cons.injEq,and_true] at hL;obtain⟨q,rfl,rfl,rfl,rfl,rfl,rfl⟩:=hL;have q:=lN q;subst q;exact .no
end
section
variable {d0 d1 s:D} {n:Nat} (h0:Wd (.sl 3) d0) (h1:Wd (.sl 4) d1) (G:Gs s n) (hn:n<17592186044000)
include h0 h1 G hn
theorem DN (R:L 350 [enc d0,enc d1,enc s]=some [1]):L 450 [enc d0,enc d1]=some [0]/\xR d0 d1/\s.l.length=d0.l.length:=by obtain⟨b,hb,_,hi⟩:=nX h0 h1 (G.few (by omega)).rows;rw [R] at hb;simp only [aIS,List.cons.injEq,and_true] at hb;obtain⟨hC,hle,_⟩:=hi.1 hb.symm;exact⟨hC,NJ h0 h1 (G.few (by omega)) R⟩
theorem Va (R:L 350 [enc d0,enc d1,enc s]=some [1]) {i:Int} (i0:0<=i) (i1:i<(s.l.length:Int)) {o c dn g:Int} {r v:D} (T:Tg (s.at i) o c dn g r v):acU ((d0.at i).hd 0).n ((d0.at i).hd 2).n (d1.l.length:Int) o c dn g r v:=by
 obtain⟨b,hb,_,hi⟩:=nX h0 h1 (G.few (by omega)).rows;rw [R] at hb;simp only [aIS,List.cons.injEq,and_true] at hb;obtain⟨_,hle,hs⟩:=hi.1 hb.symm;obtain⟨k,rfl⟩ : ∃k:Nat,i=(k:Int):=⟨i.toNat,by omega⟩;have hk:k<s.l.length:=by omega
 have h:=hs k hk;rw [aX hk] at T;have hrow:=G.rows _ (aIZ hk);rw [T.is] at hrow;have hl:r.l.length<=140737488351232:=by have:=hrow.1; have:r.l.length<=n:=this; omega
 rw [aoG T hl] at h;rw [aX (by omega:k<d0.l.length)];exact h
theorem aFR (hC:L 450 [enc d0,enc d1]=some [0]) (hle:s.l.length=d0.l.length) (h: ∀i:Nat,i<s.l.length->∃o c dn g r v,Tg (s.at (i:Int)) o c dn g r v/\acU ((d0.at (i:Int)).hd 0).n ((d0.at (i:Int)).hd 2).n (d1.l.length:Int) o c dn g r v):L 350 [enc d0,enc d1,enc s]=some [1]:=by
 obtain⟨b,hb,_,hi⟩:=nX h0 h1 (G.few (by omega)).rows;rw [hb,hi.2 ⟨hC,hle,fun k hk=>?_⟩];obtain⟨o,c,dn,g,r,v,T,P⟩:=h k hk;rw [aX hk] at T;rw [aX (by omega:k<d0.l.length)] at P;have hrow:=G.rows _ (aIZ hk);rw [T.is] at hrow;have hl:r.l.length<=140737488351232:=by have:=hrow.1; have:r.l.length<=n:=this; omega
 exact (aoG T hl).2 P
end
theorem agG {s:D} {n:Nat} (G:Gs s n) {i:Int} (i0:0<=i) (i1:i<(s.l.length:Int)): ∃o c dn g r v,Tg (s.at i) o c dn g r v/\r.l.length<=n/\v.l.length<=n:=by
 obtain⟨k,rfl⟩ : ∃k:Nat,i=(k:Int):=⟨i.toNat,by omega⟩;have hk:k<s.l.length:=by omega
 obtain⟨o,c,dn,g,r,v,T⟩:=ML (G.wd.thing _ (aIZ hk));have hrow:=G.rows _ (aIZ hk);rw [T.is] at hrow;exact⟨o,c,dn,g,r,v,by rw [aX hk]; exact T,hrow.1,hrow.2⟩
def alE (th:Int):Act->Prop
 | .res _ _ _ _ _ _ m _ _=> ∀q,m=some q->q= -1\/q=th
 |_=>True
theorem alE.ite {th:Int} {p:Prop} [Decidable p] {a b:Act} (ha:alE th a) (hb:alE th b):alE th (if p then a else b):=by
 split
 ·exact ha
 ·exact hb
theorem aHA {M mo th op arg tries o c dn g:Int} {r v:D}:alE th (act M mo th op arg tries o c dn g r v):=by
 have e1: ∀q:Int,(none:Option Int)=some q->q= -1\/q=th:=fun q h=>by simp at h
 have e2: ∀q:Int,some (-1:Int)=some q->q= -1\/q=th:=fun q h=>by simp only [aIS] at h; exact .inl h.symm
 have e3: ∀q:Int,some th=some q->q= -1\/q=th:=fun q h=>by simp only [aIS] at h; exact .inr h.symm
 unfold act
 repeat' refine alE.ite ?_ ?_
 all_goals first
  |trivial
  |exact e1
  |exact e2
  |exact e3
theorem WS {s:D} {i:Nat} {x:D} (h:s.l[i]?=some x):s.at (i:Int)=x:=by rw [lJ,h]; rfl
section
variable {d0 d1 s:D} {t op obj arg tries:Int} {n:Nat} (h0:Wd (.sl 3) d0) (h1:Wd (.sl 4) d1) (G:Gs s n) (hn:n<17592186043904) (hop:iW .u8 op) (ht:iW .i64 t) (ha:iW .i64 arg)
include h0 h1 G hn hop ht ha
theorem aiT (A:Acc d0 d1 s t op obj) {o c dn g:Int} {r v:D} (T:Tg (s.at obj) o c dn g r v) {o' c' IU g':Int} {r' v':D} {m:Option Int} {a oc:Int}
 (h:act (Mx d0 obj) (Mo d0 s obj) t op arg tries o c dn g r v= .res o' c' IU g' r' v' m a oc):L 350 [enc d0,enc d1,enc (Cm s obj (Mx d0 obj) (.res o' c' IU g' r' v' m a oc))]=some [1]:=by
 obtain⟨hC,ok,hle⟩:=DN h0 h1 G (by omega) A.r;have a0:=A.o0;have a1:=A.o1;obtain⟨i,rfl⟩ : ∃i:Nat,obj=(i:Int):=⟨obj.toNat,by omega⟩;have hi:i<s.l.length:=by omega
 have hO:=ok.2.2 _ (Vu (d:=d0) a0 (by omega))
 have hrv:r.l.length<=n/\v.l.length<=n:=by
  have hrow:=G.rows _ (aIZ hi);have e:s.l[i]=dL [.i o,.i c,.i dn,.i g,r,v]:=by rw [<- aX hi]; exact T.is
  rw [e] at hrow;exact hrow
 have hS:=Va h0 h1 G (by omega) A.r a0 a1 T;have hS':=aA7 (d0:=d0) (mo:=Mo d0 s (i:Int)) (tries:=tries) (arg:=arg) (th:=t) T hS hop.1 A.k hO A.t0 A.t1 (by have:=ok.2.1; omega);have hK:=awG (M:=Mx d0 (i:Int)) (mo:=Mo d0 s (i:Int)) (op:=op) (tries:=tries) T (n:=n) hrv.1 hrv.2 (by omega) ht ha;have hQ:=aHA (M:=Mx d0 (i:Int)) (mo:=Mo d0 s (i:Int)) (th:=t) (op:=op) (arg:=arg) (tries:=tries) (o:=o) (c:=c) (dn:=dn) (g:=g) (r:=r) (v:=v)
 have hN:m=none\/op=12\/op=24:=by
  by_cases h2:op=12\/op=24
  ·exact .inr h2
  ·have:=Uy (M:=Mx d0 (i:Int)) (mo:=Mo d0 s (i:Int)) (th:=t) (op:=op) (arg:=arg) (tries:=tries) (o:=o) (c:=c) (dn:=dn) (g:=g) (r:=r) (v:=v) (by omega) (by omega);rw [h] at this;exact .inl this
 rw [h] at hS' hK hQ
 have hM:NoM (.res o' c' IU g' r' v' m a oc)\/0<=Mx d0 (i:Int)/\Mx d0 (i:Int)<(s.l.length:Int)/\Mx d0 (i:Int)≠(i:Int):=by
  rcases hN with h2|h2
  ·exact .inl h2
  ·exact .inr (P9 h0 h1 G.wd (G.few (by omega)) hop A h2)
 have G':=afA G hK a0 a1 (hM.imp id fun h=> ⟨h.1,h.2.1⟩);have hl:=NW s (i:Int) (Mx d0 (i:Int)) (.res o' c' IU g' r' v' m a oc)
 have hd:(if IU=0 then (0:Int) else 1)=IU:=by rcases hK.2.2.1 with rfl|rfl<;>rfl
 refine aFR h0 h1 G' (by omega) hC (by rw [hl]; exact hle) fun j hj=>?_;rw [hl] at hj;by_cases hji:j=i
 ·subst hji
  have e:(Cm s (j:Int) (Mx d0 (j:Int)) (.res o' c' IU g' r' v' m a oc)).at (j:Int)=dL [.i o',.i c',.i IU,.i g',r',v']:=by refine WS ?_;unfold Cm;rw [aW,hd];exact yZ (by cases m with |none=>exact hj|some q=>rw [dQ]; exact hj)
  exact⟨o',c',IU,g',r',v',⟨e,hK.1,hK.2.1,hK.2.2.1,hK.2.2.2.1,hK.2.2.2.2.1,hK.2.2.2.2.2.2.1⟩,hS'⟩
 ·by_cases hjm:NoM (.res o' c' IU g' r' v' m a oc)\/(j:Int)≠Mx d0 (i:Int)
  ·have e:(Cm s (i:Int) (Mx d0 (i:Int)) (.res o' c' IU g' r' v' m a oc)).at (j:Int)=s.at (j:Int):=by
    rw [lJ,lJ,apB (by omega) hjm]
   obtain⟨o2,c2,dn2,g2,r2,v2,T2,_,_⟩:=agG G (i:=(j:Int)) (by omega) (by omega);exact⟨o2,c2,dn2,g2,r2,v2,by rw [e]; exact T2,Va h0 h1 G (by omega) A.r (by omega) (by omega) T2⟩
  ·have hj1:(j:Int)=Mx d0 (i:Int):=Decidable.byContradiction fun hne=>hjm (.inr hne)
   cases m with
   |none=>exact absurd (.inl rfl) hjm
   |some q=>
    obtain⟨o2,c2,dn2,g2,r2,v2,T2,_,_⟩:=agG G (i:=(j:Int)) (by omega) (by omega);have P2:=Va h0 h1 G (by omega) A.r (by omega) (by omega) T2
    have hk1:((d0.at (j:Int)).hd 0).n=1:=by
     have h4:((d0.at (i:Int)).hd 0).n=4:=by
      rw [<- A.k];rcases hN with h2|h2|h2
      ·simp at h2
      ·rw [h2]; rfl
      ·rw [h2]; rfl
     obtain⟨_,_,m3⟩:=hO.2.2.2.2.2 h4;rw [hj1];exact m3
    have e:(Cm s (i:Int) (Mx d0 (i:Int)) (.res o' c' IU g' r' v' (some q) a oc)).at (j:Int)=dL [.i q,.i c2,.i dn2,.i g2,r2,v2]:=by refine WS ?_;unfold Cm;rw [aW,lY (by omega),<- hj1,yZ (by omega),T2.is];rfl
    refine⟨q,c2,dn2,g2,r2,v2,⟨e,hK.2.2.2.2.2.2.2.2.1 q rfl,T2.hc,T2.hd,T2.hg,T2.hr,T2.hv⟩,?_⟩;have t0:=A.t0;have t1:=A.t1;have hq:=hQ q rfl;rw [hk1] at P2 ⊢;obtain⟨p,q2,q3⟩:=P2;unfold UK wU at p;unfold KN at q3;refine⟨?_,q2,?_⟩
    ·unfold UK wU;omega
    ·unfold KN;omega
end
def alC (op:Int):Act->Prop
 | .res _ _ _ _ _ _ _ _ oc=>oc=2\/oc=3/\(op=12\/op=15)
 |_=>True
theorem alC.ite {op:Int} {p:Prop} [Decidable p] {a b:Act} (ha:p->alC op a) (hb: ¬p->alC op b):alC op (if p then a else b):=by
 by_cases h:p
 ·rw [aIR h]; exact ha h
 ·rw [aIQ h]; exact hb h
theorem aHz {M mo th op arg tries o c dn g:Int} {r v:D}:alC op (act M mo th op arg tries o c dn g r v):=by
 unfold act
 repeat' first
  |trivial
  |exact .inl rfl
  |exact .inr ⟨rfl,.inl (by assumption)⟩
  |exact .inr ⟨rfl,.inr (by assumption)⟩
  |refine alC.ite (fun _=>?_) (fun _=>?_)
section
variable {d0 d1 s s' k:D} {t op obj arg tries e1 e2 e3 e4 e5 oc:Int} {n:Nat} {x:KT}
theorem amA (C:Cd d0 d1) (R:Rt d0 d1 t x) (hx:x.w=0->x.a<(Nc d1 t:Int)) (hle:s.l.length=d0.l.length) (h3:iW .i64 e3) (h4:iW .i64 e4) (T:Y8 d0 d1 s t op obj arg tries s' e1 e2 e3 e4 e5 oc):Rt d0 d1 t (jX (Ins d1 t x) x op e2 e3 e4 oc):=by
 obtain⟨a',lc',w',o',g',tr',hK⟩:=amB (op:=op) (e2:=e2) (oc:=oc) C R hx h3 h4;have hd:=hK.is;simp only [KT.d,dU,fZ,D.p.injEq,D.i.injEq,and_true] at hd;obtain⟨e_a,e_l,e_w,e_o,e_g,e_t⟩:=hd
 have hw3:oc=3->0<=e3/\e3<(d0.l.length:Int)/\(e2=15/\((d0.at e3).hd 0).n=5\/e2≠15/\((d0.at e3).hd 0).n=4):=by
  intro ho
  cases T with
  |no=>omega
  |mis A=>omega
  |res A o c dn g r v o' c' IU g' r' v' m a oc T h=>
   have hW:=aHz (M:=Mx d0 obj) (mo:=Mo d0 s obj) (th:=t) (op:=op) (arg:=arg) (tries:=tries) (o:=o) (c:=c) (dn:=dn) (g:=g) (r:=r) (v:=v);rw [h] at hW;have hk:=A.k;have:=A.o0;have:=A.o1;refine⟨A.o0,by omega,?_⟩;rcases hW with hW|⟨_,hW|hW⟩
   ·omega
   ·subst hW;exact .inr ⟨by omega,by rw [<- hk]; rfl⟩
   ·subst hW;exact .inl ⟨rfl,by rw [<- hk]; rfl⟩
 refine⟨R.t0,R.t1,?_,by rw [e_l]; exact hK.hl,by rw [e_g]; exact hK.hg⟩;obtain⟨a0,a1,hln,tr0,tr1,hw⟩:=R.ok;unfold jX;by_cases o0:oc=0
 ·rw [aIR o0];split
  ·refine⟨a0,a1,hln,?_,?_,hw⟩
   ·show 0<=(if 4611686018427387904<x.tr+1 then (4611686018427387904:Int) else x.tr+1);split<;>omega
   ·show (if 4611686018427387904<x.tr+1 then (4611686018427387904:Int) else x.tr+1)<=4611686018427387904;split<;>omega
  ·exact⟨a0,a1,hln,tr0,tr1,hw⟩
 ·rw [aIQ o0];by_cases w0:x.w=0
  ·rw [aIR w0];have c4:=hx w0;have F:=C.inf R c4;have ok:=F.ok;unfold OkI at ok;unfold Nc at c4;have hxo:x.o=0/\x.g=0:=by omega
   refine⟨?_,?_,?_,aKm _,by show (0:Int)<=4611686018427387904; omega,?_⟩
   ·show (0:Int)<=(if ((Ins d1 t x).hd 0).n=1/\((Ins d1 t x).hd 1).n=16/\¬(e2=16/\e4=1) then ((Ins d1 t x).hd 4).n else x.a+1);split
    ·rename_i hc;obtain⟨c1,c2,_⟩:=hc;omega
    ·omega
   ·show (if ((Ins d1 t x).hd 0).n=1/\((Ins d1 t x).hd 1).n=16/\¬(e2=16/\e4=1) then ((Ins d1 t x).hd 4).n else x.a+1)<=(((d1.at t).hd 2).l.length:Int);split
    ·rename_i hc;obtain⟨c1,c2,_⟩:=hc;unfold Nc at ok;omega
    ·omega
   ·show ((if ((Ins d1 t x).hd 0).n=1/\¬((Ins d1 t x).hd 3).n<0 then dL (dZ x.lc.l ((Ins d1 t x).hd 3).n (.i e4)) else x.lc).l.length:Int)=_;split
    ·rw [aW,dQ]; exact hln
    ·exact hln
   ·show (if oc=3 then (if e2=15 then (25:Int) else 24) else 0)=0/\(if oc=3 then e3 else x.o)=0/\(if oc=3/\e2=15 then e4 else x.g)=0\/(if oc=3 then (if e2=15 then (25:Int) else 24) else 0)=24/\0<=(if oc=3 then e3 else x.o)/\(if oc=3 then e3 else x.o)<(d0.l.length:Int)/\((d0.at (if oc=3 then e3 else x.o)).hd 0).n=4\/(if oc=3 then (if e2=15 then (25:Int) else 24) else 0)=25/\0<=(if oc=3 then e3 else x.o)/\(if oc=3 then e3 else x.o)<(d0.l.length:Int)/\((d0.at (if oc=3 then e3 else x.o)).hd 0).n=5;by_cases ho:oc=3
    ·obtain⟨q0,q1,q2⟩:=hw3 ho;rcases q2 with ⟨q2,q3⟩|⟨q2,q3⟩
     ·simp only [ho,q2,if_true,true_and,and_self];exact .inr (.inr ⟨q0,q1,q3⟩)
     ·simp only [ho,q2,if_true,if_false,true_and,and_false];exact .inr (.inl ⟨q0,q1,q3⟩)
    ·simp only [ho,if_false,false_and,hxo,true_and,and_self,true_or]
  ·rw [aIQ w0];exact⟨a0,a1,hln,aKm _,by show (0:Int)<=4611686018427387904; omega,.inl ⟨rfl,rfl,rfl⟩⟩
end
inductive EZ (d0 d1 s k:D) (t:Int) (n:Nat):D->D->Int->Int->Int->Int->Int->Int->Prop
 |no (h:L 1550 [enc d0,enc d1,enc s,enc k,t]=some [0]):EZ d0 d1 s k t n s k 0 0 0 0 0 0
 |over (x:KT) (R:Rs d0 d1 s k t x) (ho:fB d1 t x=1):EZ d0 d1 s k t n s k 0 0 0 0 0 4
 |loc (x:KT) (R:Rs d0 d1 s k t x) (ho:fB d1 t x=0) (ha:low (gQ d1 t x) 4=0):EZ d0 d1 s k t n s (fV k t (gW (Ins d1 t x) x)) 0 0 0 0 0 1
 |tri (x:KT) (R:Rs d0 d1 s k t x) (ho:fB d1 t x=0) (op obj arg tr:Int) (hq:gQ d1 t x= [op,obj,arg,tr,1]) (k1:iW .u8 op) (k2:iW .i64 obj) (k3:iW .i64 arg) (hti:iW .i64 t) (s':D) (e1 e2 e3 e4 e5 oc:Int)
  (A:Tried d0 d1 s t op obj arg tr n s' e1 e2 e3 e4 e5 oc) (T:Y8 d0 d1 s t op obj arg tr s' e1 e2 e3 e4 e5 oc):EZ d0 d1 s k t n s' (fV k t (jX (Ins d1 t x) x op e2 e3 e4 oc)) e1 e2 e3 e4 e5 oc
section
variable {d0 d1 s k:D} {n:Nat} (S:Sx s k n) (hn:n<17592186043904) (h0:Wd (.sl 3) d0) (h1:Wd (.sl 4) d1)
include S hn h0 h1
theorem ZY (t:Int): ∃s' k' e1 e2 e3 e4 e5 oc,L 1850 [enc d0,enc d1,enc s,enc k,t]=some [enc s',enc k',e1,e2,e3,e4,e5,oc]/\EZ d0 d1 s k t n s' k' e1 e2 e3 e4 e5 oc:=by
 rcases aBL (t:=t) S hn h0 h1 with h|⟨x,R⟩
 ·exact⟨s,k,0,0,0,0,0,0,axV S h,.no h⟩
 ·rcases GI d1 t x with ho|ho
  ·by_cases ha:low (gQ d1 t x) 4=0
   ·exact⟨_,_,0,0,0,0,0,1,ZX S R ho ha,.loc x R ho ha⟩
   ·obtain⟨op,obj,arg,tr,hq⟩:=ajJ (by omega) ha;obtain⟨k1,k2,k3⟩:=azB R.c R.r R.c.ok.1 hq
    have hti:iW .i64 t:=by have:=R.r.t0;have:=R.r.t1;have:=h1.len;exact⟨by omega,by omega⟩
    obtain⟨s',e1,e2,e3,e4,e5,oc,A⟩:=try_any (tries:=tr) h0 h1 S.g hn hti k1 k2 k3;exact⟨s',_,e1,e2,e3,e4,e5,oc,ZW S R ho hq A,.tri x R ho op obj arg tr hq k1 k2 k3 hti s' e1 e2 e3 e4 e5 oc A (Zz h0 h1 S.g hn k1 A)⟩
  ·exact⟨s,k,0,0,0,0,0,4,aiG S R ho,.over x R ho⟩
theorem Xz {t:Int} {s' k':D} {e1 e2 e3 e4 e5 oc:Int} (H:EZ d0 d1 s k t n s' k' e1 e2 e3 e4 e5 oc):Sx s' k' (n+1)/\s'.l.length=s.l.length/\k'.l.length=k.l.length:=by
 cases H with
 |no h=>exact⟨S.mono (aJN n),rfl,rfl⟩
 |over x R ho=>exact⟨S.mono (aJN n),rfl,rfl⟩
 |loc x R ho ha=>exact⟨(aDB S hn h0 h1 R ho ha).mono (aJN n),rfl,iG _ _ _⟩
 |tri x R ho op obj arg tr hq k1 k2 k3 hti s' e1 e2 e3 e4 e5 oc A T=>exact⟨alZ S R.c R.r R.ht (avZ R.r ho) A,A.len,iG _ _ _⟩
omit h0 h1 in
theorem aaN {t:Int} {x:KT} {s':D} (M:MR d0 d1 s k) (R:Rt d0 d1 t x) (ht:t<(k.l.length:Int)) (hs:L 350 [enc d0,enc d1,enc s']=some [1]):MR d0 d1 s' (fV k t x):=by
 obtain⟨_,hle,hO⟩:=M;refine⟨hs,(iG k t x).trans hle,fun i hi=>?_⟩;have hi':i<k.l.length:=by rw [iG] at hi; exact hi
 have t0:=R.t0;obtain⟨j,rfl⟩ : ∃j:Nat,t=(j:Int):=⟨t.toNat,by omega⟩;by_cases hij:i=j
 ·subst hij
  have e:(fV k (i:Int) x).l[i]=x.d:=by rw [<- aX hi];exact jO (by omega) ht x
  have ok:=R.ok;rw [aX (by omega:i<d1.l.length)] at ok;unfold OkK;rw [e];simp only [KT.d,zg,aIY,n_i];exact ok
 ·have e:(fV k (j:Int) x).l[i]=k.l[i]:=by
   have h:=lY (l:=k.l) (z:=(j:Int)) (y:=x.d) (k:=i) (by omega)
   have h2:(fV k (j:Int) x).l[i]?=k.l[i]?:=by show (dL (dZ k.l (j:Int) x.d)).l[i]?=_;rw [aW];exact h
   rw [aI6 hi,aI6 hi'] at h2;simpa using h2
  rw [e];exact hO i hi'
theorem aoD {t:Int} {s' k':D} {e1 e2 e3 e4 e5 oc:Int} (M:MR d0 d1 s k) (H:EZ d0 d1 s k t n s' k' e1 e2 e3 e4 e5 oc):MR d0 d1 s' k':=by
 cases H with
 |no h=>exact M
 |over x R ho=>exact M
 |loc x R ho ha=>exact aaN S hn M (G6 R.c R.ht R.r (FK R.r ho ha)).1 R.ht M.1
 |tri x R ho op obj arg tr hq k1 k2 k3 hti s' e1 e2 e3 e4 e5 oc A T=>
  have hle:=(DN h0 h1 S.g (by omega) M.1).2.2;have hR:=amA R.c R.r (avZ R.r ho) hle A.e3 A.e4 T;refine aaN S hn M hR R.ht ?_
  cases T with
  |no=>exact M.1
  |mis A'=>exact M.1
  |res A' o c dn g r v o' c' IU g' r' v' m a oc T' h=>exact aiT h0 h1 S.g hn k1 hti k3 A' T' h
end
theorem MR.thr {d0 d1 s k:D} {n:Nat} (S:Sx s k n) (hn:n<17592186043904) (h0:Wd (.sl 3) d0) (h1:Wd (.sl 4) d1) (M:MR d0 d1 s k) {t:Int} (t0:0<=t) (t1:t<(d1.l.length:Int)): ∃x,Rs d0 d1 s k t x:=by
 obtain⟨ys,hL,b,rfl,hb⟩:=NP (k:=k) h0 h1 (S.g.few (by omega)).rows h1.len t;rcases hb with ⟨_,hb⟩|⟨rfl,_⟩
 ·exact absurd ⟨t0,t1,M⟩ hb
 ·rcases aBL (t:=t) S hn h0 h1 with h|h
  ·rw [hL] at h;simp at h
  ·exact h
def EJ (s:D) (t:Int) (x:KT):Int:=if x.w=24 then (if place ((s.at x.o).hd 4) t<0 then 0 else 1) else if x.w=25 then (if x.g<((s.at x.o).hd 3).n then 0 else 1) else 0
def akW (d1 s:D) (t:Int) (x:KT):Int:=if fB d1 t x=1 then 0 else if EJ s t x=0 then 1 else 0
section
variable {d0 d1 s k:D} {t:Int} {n:Nat} {x:KT} (S:Sx s k n) (hn:n<17592186043904) (R:Rs d0 d1 s k t x) (hle:s.l.length=d0.l.length)
include S hn R hle
theorem Ux:L 2850 [enc s,enc k,t]=some [EJ s t x]:=by
 have hk:=R.hk;have ht:=R.ht;have c1: ¬t<0:=by have:=R.r.t0; omega
 have hw:=R.r.ok.2.2.2.2.2;rw [aP,aCl];unfold EJ
 have q:(x.w=24\/x.w=25)->((s.at x.o).hd 4).l.length<=140737488351232/\¬x.o<0/\x.o<(s.l.length:Int):=fun h=>by
  have o0:0<=x.o/\x.o<(s.l.length:Int):=by omega
  obtain⟨o,c,dn,g,r,v,T,hr,_⟩:=agG S.g o0.1 o0.2;rw [T.is];exact⟨by simp only [zg,aIY]; omega,by omega,o0.2⟩
 by_cases w4:x.w=24
 ·obtain⟨hl,o0,o1⟩:=q (.inl w4);have hh:=has_is ((s.at x.o).hd 4) t hl;by_cases hp:place ((s.at x.o).hd 4) t<0
  ·rw [aIR hp] at hh;simp only [MS,zz,hk,c1,ht,zg,w4,o0,o1,hh,hp,aK,if_true]
  ·rw [aIQ hp] at hh;simp only [MS,zz,hk,c1,ht,zg,w4,o0,o1,hh,hp,aK,if_true,if_false,aC]
 ·by_cases w5:x.w=25
  ·obtain⟨hl,o0,o1⟩:=q (.inr w5);by_cases hp:x.g<((s.at x.o).hd 3).n
   ·simp only [MS,zz,hk,c1,ht,zg,w5,o0,o1,hp,aK,if_true,if_false,Int.reduceEq]
   ·simp only [MS,zz,hk,c1,ht,zg,w5,o0,o1,hp,aK,if_true,if_false,Int.reduceEq]
  ·simp only [MS,zz,hk,c1,ht,zg,w4,w5,aK,if_false]
theorem Uj:L 2900 [enc d0,enc d1,enc s,enc k,t]=some [akW d1 s t x]:=by
 have hk:=R.hk;have ht:=R.ht;have c1: ¬t<0:=by have:=R.r.t0; omega
 have c2:=R.r.t1;have hA:=Ux S hn R hle;rw [aP,aCk];unfold akW fB Nc
 have a01:EJ s t x=0\/EJ s t x=1:=by
  unfold EJ
  repeat' split
  all_goals simp
 by_cases w0:x.w=0
 ·by_cases a0:x.a=(((d1.at t).hd 2).l.length:Int)
  ·simp only [MQ,zz,hk,c1,c2,ht,zg,w0,a0,aK,if_true]
  ·rcases a01 with h|h
   ·rw [h] at hA;simp only [MQ,zz,hk,c1,c2,ht,zg,w0,a0,hA,h,aK,if_true,if_false,Int.reduceEq]
   ·rw [h] at hA;simp only [MQ,zz,hk,c1,c2,ht,zg,w0,a0,hA,h,aK,if_true,if_false,Int.reduceEq]
 ·rcases a01 with h|h
  ·rw [h] at hA;simp only [MQ,zz,hk,c1,c2,ht,zg,w0,hA,h,aK,if_true,if_false,Int.reduceEq]
  ·rw [h] at hA;simp only [MQ,zz,hk,c1,c2,ht,zg,w0,hA,h,aK,if_true,if_false,Int.reduceEq]
end
noncomputable def Bg (d0 d1 s k:D) (u:Int):Int:=low ((L 2900 [enc d0,enc d1,enc s,enc k,u]).getD []) 0
def IB (cnt:Int->Int) (c:D) (t:Int):Prop:=cnt t≠0/\∀u:Nat,u<c.l.length->((c.at (u:Int)).n<(c.at t).n\/(c.at (u:Int)).n=(c.at t).n/\(u:Int)<t)->cnt (u:Int)=0
section
variable {d0 d1 s k c:D} {t:Int} (hc: ∀u:Int,0<=u->u<(c.l.length:Int)->∃z:Int,L 2900 [enc d0,enc d1,enc s,enc k,u]=some [z]) (t0:0<=t) (t1:t<(c.l.length:Int)) (hb:c.l.length<=140737488351232)
include hc t0 t1 hb
theorem Rk: ∀(j i:Nat),i+j=c.l.length->∃b:Int,L 2951 [t,enc c,(c.l.length:Int),(i:Int),enc d0,enc d1,enc s,enc k]=some [b]/\(b=0\/b=1)/\
 (b=1↔∀u:Nat,i<=u->u<c.l.length->((c.at (u:Int)).n<(c.at t).n\/(c.at (u:Int)).n=(c.at t).n/\(u:Int)<t)->Bg d0 d1 s k (u:Int)=0)
 |0,i,hi=>by
  have c1: ¬(i:Int)<(c.l.length:Int):=by omega
  refine⟨1,?_,.inr rfl,fun _ u h h'=>by omega,fun _=>rfl⟩;rw [aP,Kw];simp only [Gm,zz,c1,aK]
 |j+1,i,hi=>by
  have c1:(i:Int)<(c.l.length:Int):=by omega
  have c2: ¬((i:Int)<0):=by omega
  have c3: ¬(t<0):=by omega
  have w:=aZ (n:=i) (by omega);obtain⟨b,ih,hb2,hiff⟩:=Rk j (i+1) (by omega);obtain⟨z,hz⟩:=hc (i:Int) (by omega) c1
  have hzl:Bg d0 d1 s k (i:Int)=z:=by unfold Bg;rw [hz];rfl
  have pass:(((c.at (i:Int)).n<(c.at t).n\/(c.at (i:Int)).n=(c.at t).n/\(i:Int)<t)->z=0)->(b=1↔∀u:Nat,i<=u->u<c.l.length->((c.at (u:Int)).n<(c.at t).n\/(c.at (u:Int)).n=(c.at t).n/\(u:Int)<t)->Bg d0 d1 s k (u:Int)=0):=fun hp=>by
   rw [hiff];refine⟨fun h u hu hl ha=>?_,fun h u hu hl ha=>h u (by omega) hl ha⟩;by_cases hui:u=i
   ·subst hui;rw [hzl];exact hp ha
   ·exact h u (by omega) hl ha
  have stop:((c.at (i:Int)).n<(c.at t).n\/(c.at (i:Int)).n=(c.at t).n/\(i:Int)<t)->z≠0->((0:Int)=1↔∀u:Nat,i<=u->u<c.l.length->((c.at (u:Int)).n<(c.at t).n\/(c.at (u:Int)).n=(c.at t).n/\(u:Int)<t)->Bg d0 d1 s k (u:Int)=0):=fun ha hne=>
   ⟨fun h=>by omega,fun h=>absurd (hzl.symm.trans (h i (aIV _) (by omega) ha)) hne⟩
  by_cases l1:(c.at (i:Int)).n<(c.at t).n
  ·by_cases z0:z=0
   ·refine⟨b,?_,hb2,pass fun _=>z0⟩;rw [aP,Kw];simp only [Gm,zz,c1,c2,c3,t1,w,l1,hz,z0,aH,ih]
   ·refine⟨0,?_,.inl rfl,stop (.inl l1) z0⟩;rw [aP,Kw];simp only [Gm,zz,c1,c2,c3,t1,w,l1,hz,aIQ z0,aK]
  ·by_cases l2:(c.at (i:Int)).n=(c.at t).n
   ·by_cases l3:(i:Int)<t
    ·by_cases z0:z=0
     ·refine⟨b,?_,hb2,pass fun _=>z0⟩;rw [aP,Kw];simp only [Gm,zz,c1,c2,c3,t1,w,aIQ l1,aIR l2,l3,hz,z0,aH,ih]
     ·refine⟨0,?_,.inl rfl,stop (.inr ⟨l2,l3⟩) z0⟩;rw [aP,Kw];simp only [Gm,zz,c1,c2,c3,t1,w,aIQ l1,aIR l2,l3,hz,aIQ z0,aK]
    ·refine⟨b,?_,hb2,pass fun h=>by omega⟩;rw [aP,Kw];simp only [Gm,zz,c1,c2,c3,t1,w,aIQ l1,aIR l2,aIQ l3,aH,ih]
   ·refine⟨b,?_,hb2,pass fun h=>by omega⟩;rw [aP,Kw];simp only [Gm,zz,c1,c2,c3,t1,w,aIQ l1,aIQ l2,aH,ih]
theorem awV: ∃b:Int,L 2950 [enc d0,enc d1,enc s,enc k,enc c,t]=some [b]/\(b=0\/b=1)/\(b=1↔IB (Bg d0 d1 s k) c t):=by
 obtain⟨b,hL,hb2,hiff⟩:=Rk hc t0 t1 hb c.l.length 0 (by omega);obtain⟨z,hz⟩:=hc t t0 t1
 have hzl:Bg d0 d1 s k t=z:=by unfold Bg;rw [hz];rfl
 unfold IB;rw [hzl];rw [aJy] at hL;by_cases z0:z=0
 ·refine⟨0,?_,.inl rfl,fun h=>by omega,fun h=>absurd z0 h.1⟩;rw [aP,asZ];simp only [aeA,zz,hz,z0,aK]
 ·refine⟨b,?_,hb2,hiff.trans ⟨fun h=> ⟨z0,fun u hu ha=>h u (aJY _) hu ha⟩,fun h u _ hu ha=>h.2 u hu ha⟩⟩;rw [aP,asZ];simp only [aeA,zz,hz,aIQ z0,aH,hL]
end
theorem XV (c:D) (hb:c.l.length<=140737488351232): ∀(j i:Nat),i+j=c.l.length->∃b:Int,L 16051 [enc c,(c.l.length:Int),(i:Int)]=some [b]/\(b<0↔∀u:Nat,i<=u->u<c.l.length->0<=(c.at (u:Int)).n)
 |0,i,hi=>by
  have c1: ¬(i:Int)<(c.l.length:Int):=by omega
  refine⟨-1,?_,fun _ u h h'=>by omega,fun _=>by omega⟩;rw [aP,Wv];simp only [MX,zz,c1,aK]
 |j+1,i,hi=>by
  have c1:(i:Int)<(c.l.length:Int):=by omega
  have c2: ¬((i:Int)<0):=by omega
  have w:=aZ (n:=i) (by omega);obtain⟨b,ih,hiff⟩:=XV c hb j (i+1) (by omega);by_cases hz:(c.at (i:Int)).n<0
  ·refine⟨(i:Int),?_,fun h=>by omega,fun h=>?_⟩
   ·rw [aP,Wv];simp only [MX,zz,c1,c2,hz,aK]
   ·have:=h i (aIV _) (by omega);omega
  ·refine⟨b,?_,hiff.trans ⟨fun h u hu hl=>?_,fun h u hu hl=>h u (by omega) hl⟩⟩
   ·rw [aP,Wv];simp only [MX,zz,c1,c2,aIQ hz,w,aH,ih]
   ·by_cases hui:u=i
    ·subst hui; omega
    ·exact h u (by omega) hl
def KR (d0 d1 s k c:D):Prop:=c.l.length=d1.l.length/\(∀u:Nat,u<c.l.length->0<=(c.at (u:Int)).n)/\MR d0 d1 s k
theorem Tv {d0 d1 s k c:D} (h0:Wd (.sl 3) d0) (h1:Wd (.sl 4) d1) (hr:Fp s) (hb:c.l.length<=140737488351232):Tot 2750 [enc d0,enc d1,enc s,enc k,enc c] (isB (KR d0 d1 s k c)):=by
 obtain⟨ys,hM,m,rfl,hm⟩:=S9 h0 h1 hr h1.len (k:=k);obtain⟨b,hL,hiff⟩:=XV c hb c.l.length 0 (by omega);rw [aJy] at hL
 have h50:L 16050 [enc c]=some [b]:=by rw [aP,atN];simp only [ZF,zz,aH,hL]
 have h00:L 16000 [enc c]=some [if b<0 then 0 else 1]:=by
  rw [aP,atO];by_cases hb0:b<0
  ·simp only [UW,zz,h50,hb0,aK,if_true]
  ·simp only [UW,zz,h50,hb0,aK,if_false]
 unfold KR;refine Tot.of ?_;rw [aCm];by_cases hl:(c.l.length:Int)=(d1.l.length:Int)
 ·by_cases hb0:b<0
  ·rw [aIR hb0] at h00;simp only [Xr,zz,hl,h00,hM];have hall:=fun u hu=>hiff.1 hb0 u (aJY _) hu;refine .ite (fun h=> .out (Bo fun q=>?_)) (fun h=> .out (X9 ⟨by omega,hall,?_⟩))
   ·rcases hm with ⟨_,hm⟩|⟨h',_⟩
    ·exact hm q.2.2
    ·omega
   ·rcases hm with ⟨h',_⟩|⟨_,hm⟩
    ·exact absurd h' h
    ·exact hm
  ·rw [aIQ hb0] at h00;simp only [Xr,zz,hl,h00,aC];exact .out (Bo fun q=>hb0 (hiff.2 fun u _ hu=>q.2.1 u hu))
 ·simp only [Xr,zz,aIQ hl];exact .out (Bo fun q=>hl (by have:=q.1; omega))
def EqN (a b:D):Prop:=a.l.length=b.l.length/\∀(i:Nat),(a.at (i:Int)).n=(b.at (i:Int)).n
structure KEq (x y:D):Prop where
 c0:(x.hd 0).n=(y.hd 0).n
 c1:EqN (x.hd 1) (y.hd 1)
 c2:(x.hd 2).n=(y.hd 2).n
 c3:(x.hd 3).n=(y.hd 3).n
 c4:(x.hd 4).n=(y.hd 4).n
 c5:(x.hd 5).n=(y.hd 5).n
theorem EqN.rfl' (a:D):EqN a a:=⟨rfl,fun _=>rfl⟩
theorem KEq.rfl' (a:D):KEq a a:=⟨rfl,EqN.rfl' _,rfl,rfl,rfl,rfl⟩
def apY (k:D):Prop:=k.l.length<=140737488351232/\∀i:Nat,((k.at (i:Int)).hd 1).l.length<=140737488351232
section
variable {s k s' k':D} (hl:k.l.length=k'.l.length) (hq: ∀i:Nat,KEq (k.at (i:Int)) (k'.at (i:Int))) (hb:apY k)
include hl hq hb
theorem Gw: ∀(j i:Nat),i+j=k.l.length->L 2051 [(k.l.length:Int),(i:Int),enc s,enc k,enc s',enc k']=some [1]
 |0,i,hi=>by
  have c1: ¬(i:Int)<(k.l.length:Int):=by omega
  rw [aP,atE];simp only [aeF,zz,c1,aK]
 |j+1,i,hi=>by
  have c1:(i:Int)<(k.l.length:Int):=by omega
  have c2: ¬((i:Int)<0):=by omega
  have c3:(i:Int)<(k'.l.length:Int):=by omega
  have b1:=hb.1;have w:=aZ (n:=i) (by omega);have ih:=Gw j (i+1) (by omega);have q:=hq i;obtain⟨q1,q2⟩:=q.c1;have b2:=hb.2 i
  have lp: ∀(j' i':Nat),i'+j'=((k.at (i:Int)).hd 1).l.length->L 2052 [(k.l.length:Int),(i:Int),(((k.at (i:Int)).hd 1).l.length:Int),(i':Int),enc s,enc k,enc s',enc k',((k.at (i:Int)).hd 0).n,enc ((k.at (i:Int)).hd 1),((k.at (i:Int)).hd 2).n,((k.at (i:Int)).hd 3).n,((k.at (i:Int)).hd 4).n,((k.at (i:Int)).hd 5).n,((k'.at (i:Int)).hd 0).n,enc ((k'.at (i:Int)).hd 1),((k'.at (i:Int)).hd 2).n,((k'.at (i:Int)).hd 3).n,((k'.at (i:Int)).hd 4).n,((k'.at (i:Int)).hd 5).n]=some [1]:=by
   intro j'
   induction j' with
   |zero=>
    intro i' hi';have d1: ¬(i':Int)<(((k.at (i:Int)).hd 1).l.length:Int):=by omega
    rw [aP,atD];simp only [aeE,zz,d1,w,aH,ih]
   |succ j' ihj=>
    intro i' hi';have d1:(i':Int)<(((k.at (i:Int)).hd 1).l.length:Int):=by omega
    have d2: ¬((i':Int)<0):=by omega
    have d3:(i':Int)<(((k'.at (i:Int)).hd 1).l.length:Int):=by omega
    have w':=aZ (n:=i') (by omega);have h':=ihj (i'+1) (by omega);have hn:=q2 i';rw [aP,atD];simp only [aeE,zz,d1,d2,d3,w',hn,aH];exact h'
  have l0:=lp ((k.at (i:Int)).hd 1).l.length 0 (by omega);have q1':(((k.at (i:Int)).hd 1).l.length:Int)=(((k'.at (i:Int)).hd 1).l.length:Int):=by omega
  simp only [q.c0,q.c2,q.c3,q.c4,q.c5,q1',aJy] at l0;rw [aP,atE];simp only [aeF,zz,c1,c2,c3,q.c0,q.c2,q.c3,q.c4,q.c5,q1',aH];exact l0
theorem aiQ (hs:L 200 [enc s,enc s']=some [1]):L 2050 [enc s,enc k,enc s',enc k']=some [1]:=by
 have h:=Gw (s:=s) (s':=s') hl hq hb k.l.length 0 (by omega);have hl':(k.l.length:Int)=(k'.l.length:Int):=by omega
 rw [aJy] at h;rw [aP,aCo];simp only [anL,zz,hs,aC,hl',aH];rw [hl'] at h;exact h
end
theorem aiP {s:D} (hlen:s.l.length<=140737488351232) (hr:Vb s):L 200 [enc s,enc s]=some [1]:=by obtain⟨c,h1,_,h3⟩:=aiO s s hlen hr;rw [h1,h3.2 ⟨rfl,fun k h1 h2 _=> ⟨rfl,rfl,Iff.rfl,rfl,⟨rfl,fun _ _ _ _=>rfl⟩,⟨rfl,fun _ _ _ _=>rfl⟩⟩⟩]
theorem Sx.aHW {s k:D} {n:Nat} (S:Sx s k n):apY k:=by
 refine⟨S.wk.len,fun i=>?_⟩;by_cases hi:i<k.l.length
 ·obtain⟨a,lc,w,o,g,tr,T⟩:=jI S.wk _ (aIZ hi);rw [aX hi,T.is,eP];exact T.hl.len
 ·rw [lJ,aJH (by omega)];show ((D.i 0).hd 1).l.length<=_;simp [D.hd,D.l]
theorem Sx.same {s k:D} {n:Nat} (S:Sx s k n) (hn:n<17592186043904):L 2050 [enc s,enc k,enc s,enc k]=some [1]:=
 aiQ rfl (fun _=>KEq.rfl' _) S.aHW (aiP S.g.wd.len (fun x hx=>by have:=S.g.rows x hx; omega))
section
variable {k c:D} (hk:Tk k) (hc:Wd (.sl 0) c)
include hk hc
theorem afV (x:Int): ∀(j i:Nat) (acc:List D),i+j=k.l.length->acc.length=i->L 3055 [enc k,(k.l.length:Int),(i:Int),x,enc c,enc (dL acc)]=some [enc (.i 1),enc (dL (acc++k.l.drop i)),enc c]
 |0,i,acc,hi,ha=>by
  have c1: ¬(i:Int)<(k.l.length:Int):=by omega
  rw [aJJ (by omega),aJC,aP,asU];rcases bF hc with rfl|rfl|⟨r1,r2⟩
  ·simp only [JJ,zz,c1,len1,len2,nH,iP,aK]
  ·simp only [JJ,zz,c1,len1,len2,nH,iP,aK]
  ·simp only [JJ,zz,c1,r1,r2,aK]
 |j+1,i,acc,hi,ha=>by
  have hil:i<k.l.length:=by omega
  have hf:=hk.few;have c1:(i:Int)<(k.l.length:Int):=by omega
  have c2: ¬((i:Int)<0):=by omega
  have c4:(acc.length:Int)<2199023255551:=by omega
  have w:=aZ (n:=i) (by omega);obtain⟨a,lc,w',o,g,tr,T⟩:=jI hk.wd _ (aIZ hil);have he:=T.is;have ih:=afV x j (i+1) (acc++ [k.l[i]]) (by omega) (by rw [aJa,ha]; rfl);rw [aJO,aI8,aI1,<- aJq hil] at ih;rw [he] at ih;simp only [dU,fZ] at ih;rw [aP,asU];rcases bF T.hl with rfl|rfl|⟨r1,r2⟩
  ·simp only [JJ,zz,c1,c2,c4,w,aX hil,he,eP,aW,aI0,aIX,aIY,len1,len2,nH,iP,aH];exact ih
  ·simp only [JJ,zz,c1,c2,c4,w,aX hil,he,eP,aW,aI0,aIX,aIY,len1,len2,nH,iP,aH];exact ih
  ·simp only [JJ,zz,c1,c2,c4,w,aX hil,he,eP,aW,aI0,aIX,aIY,len1,len2,nH,iP,aH,r1,r2];exact ih
theorem afU (x:Int) (y:Int): ∀(j i:Nat) (acc:List D),i+j=k.l.length->acc.length=i->L 3056 [enc k,(k.l.length:Int),(i:Int),x,enc c,y,enc (dL acc)]=some [y,enc (dL (acc++k.l.drop i)),enc c]
 |0,i,acc,hi,ha=>by
  have c1: ¬(i:Int)<(k.l.length:Int):=by omega
  rw [aJJ (by omega),aJC,aP,asT];rcases bF hc with rfl|rfl|⟨r1,r2⟩
  ·simp only [JI,zz,c1,len1,len2,nH,iP,aK]
  ·simp only [JI,zz,c1,len1,len2,nH,iP,aK]
  ·simp only [JI,zz,c1,r1,r2,aK]
 |j+1,i,acc,hi,ha=>by
  have hil:i<k.l.length:=by omega
  have hf:=hk.few;have c1:(i:Int)<(k.l.length:Int):=by omega
  have c2: ¬((i:Int)<0):=by omega
  have c4:(acc.length:Int)<2199023255551:=by omega
  have w:=aZ (n:=i) (by omega);obtain⟨a,lc,w',o,g,tr,T⟩:=jI hk.wd _ (aIZ hil);have he:=T.is;have ih:=afU x y j (i+1) (acc++ [k.l[i]]) (by omega) (by rw [aJa,ha]; rfl);rw [aJO,aI8,aI1,<- aJq hil] at ih;rw [he] at ih;simp only [dU,fZ] at ih;rw [aP,asT];rcases bF T.hl with rfl|rfl|⟨r1,r2⟩
  ·simp only [JI,zz,c1,c2,c4,w,aX hil,he,eP,aW,aI0,aIX,aIY,len1,len2,nH,iP,aH];exact ih
  ·simp only [JI,zz,c1,c2,c4,w,aX hil,he,eP,aW,aI0,aIX,aIY,len1,len2,nH,iP,aH];exact ih
  ·simp only [JI,zz,c1,c2,c4,w,aX hil,he,eP,aW,aI0,aIX,aIY,len1,len2,nH,iP,aH,r1,r2];exact ih
end
section
variable {k c:D} (hk0:k.l.length=0->k= .i 1) (hk1:0<k.l.length->Tk k) (hc:Wd (.sl 0) c)
include hk0 hk1 hc
theorem azH (x:Int):L 3053 [enc k,(k.l.length:Int),x,enc c]=some [enc (.i 1),enc k,enc c]:=by
 by_cases hz:k.l.length=0
 ·obtain rfl:k= .i 1:=hk0 hz;rw [aP,asW];rcases bF hc with rfl|rfl|⟨r1,r2⟩
  ·simp only [JL,zz,len1,len2,nH,iP,aK]
  ·simp only [JL,zz,len1,len2,nH,iP,aK]
  ·simp only [JL,zz,len1,nH,r1,r2,aK]
 ·have hp:0<k.l.length:=by omega
  have hk:=hk1 hp;have c1:(0:Int)<(k.l.length:Int):=by omega
  obtain⟨a,lc,w',o,g,tr,T⟩:=jI hk.wd _ (aIZ hp);have he:=T.is;have ih:=afV hk hc x (k.l.length-1) 1 [k.l[0]] (by omega) rfl;rw [aI8,aI1,<- aJq hp,aJT,<- hk.sh] at ih;rw [he] at ih;simp only [dU,fZ] at ih;have a0:k.at 0=k.l[0]:=aX (i:=0) hp;rw [aP,asW];rcases bF T.hl with rfl|rfl|⟨r1,r2⟩
  ·simp only [JL,zz,c1,a0,he,eP,aW,wY,aI1,aI0,aIX,len1,len2,nH,iP,aH];exact ih
  ·simp only [JL,zz,c1,a0,he,eP,aW,wY,aI1,aI0,aIX,len1,len2,nH,iP,aH];exact ih
  ·simp only [JL,zz,c1,a0,he,eP,aW,wY,aI1,aI0,aIX,r1,r2,aH];exact ih
theorem azG (x:Int) (y:Int):L 3054 [enc k,(k.l.length:Int),x,enc c,y]=some [y,enc k,enc c]:=by
 by_cases hz:k.l.length=0
 ·obtain rfl:k= .i 1:=hk0 hz;rw [aP,asV];rcases bF hc with rfl|rfl|⟨r1,r2⟩
  ·simp only [JK,zz,len1,len2,nH,iP,aK]
  ·simp only [JK,zz,len1,len2,nH,iP,aK]
  ·simp only [JK,zz,len1,nH,r1,r2,aK]
 ·have hp:0<k.l.length:=by omega
  have hk:=hk1 hp;have c1:(0:Int)<(k.l.length:Int):=by omega
  obtain⟨a,lc,w',o,g,tr,T⟩:=jI hk.wd _ (aIZ hp);have he:=T.is;have ih:=afU hk hc x y (k.l.length-1) 1 [k.l[0]] (by omega) rfl;rw [aI8,aI1,<- aJq hp,aJT,<- hk.sh] at ih;rw [he] at ih;simp only [dU,fZ] at ih;have a0:k.at 0=k.l[0]:=aX (i:=0) hp;rw [aP,asV];rcases bF T.hl with rfl|rfl|⟨r1,r2⟩
  ·simp only [JK,zz,c1,a0,he,eP,aW,wY,aI1,aI0,aIX,len1,len2,nH,iP,aH];exact ih
  ·simp only [JK,zz,c1,a0,he,eP,aW,wY,aI1,aI0,aIX,len1,len2,nH,iP,aH];exact ih
  ·simp only [JK,zz,c1,a0,he,eP,aW,wY,aI1,aI0,aIX,r1,r2,aH];exact ih
end
section
variable {s k c:D} (hs:Th s)
include hs
theorem aqD: ∀(j i:Nat) (acc:List D),i+j=s.l.length->acc.length=i->L 3052 [enc s,(s.l.length:Int),(i:Int),enc k,enc c,enc (dL acc)]=L 3054 [enc k,(k.l.length:Int),enc s,enc c,enc (dL (acc++s.l.drop i))]
 |0,i,acc,hi,ha=>by
  have c1: ¬(i:Int)<(s.l.length:Int):=by omega
  rw [aJJ (by omega),aJC,aP,asX];simp only [adY,zz,c1,aH]
 |j+1,i,acc,hi,ha=>by
  have hil:i<s.l.length:=by omega
  have hf:=hs.few;have c1:(i:Int)<(s.l.length:Int):=by omega
  have c2: ¬((i:Int)<0):=by omega
  have c4:(acc.length:Int)<1759218604440:=by omega
  have w:=aZ (n:=i) (by omega);obtain⟨o,c',dn,g,r,v,he,_,_,hd,_,hr,hv⟩:=hs.wd.thing _ (aIZ hil);have ih:=aqD j (i+1) (acc++ [s.l[i]]) (by omega) (by rw [aJa,ha]; rfl);rw [aJO,aI8,aI1,<- aJq hil] at ih;rw [he] at ih;simp only [dU,fZ] at ih;rw [aP,asX];rcases hd with rfl|rfl<;>rcases bF hr with rfl|rfl|⟨r1,r2⟩ <;>rcases bF hv with rfl|rfl|⟨v1,v2⟩
  all_goals
   simp only [adY,zz,c1,c2,c4,w,aX hil,he,eP,aW,aI0,aIX,len1,len2,nH,iP]
   try simp only [r1,r2,zz]
   try simp only [v1,v2,zz]
   try simp only [aH,if_true,aC,if_false]
   exact ih
end
section
variable {s k c:D} (hs0:s.l.length=0->s= .i 1) (hs1:0<s.l.length->Th s) (hk0:k.l.length=0->k= .i 1) (hk1:0<k.l.length->Tk k) (hc:Wd (.sl 0) c)
include hs0 hs1 hk0 hk1 hc
theorem aaV:L 3050 [enc s,enc k,enc c]=some [enc s,enc k,enc c]:=by
 have h:L 3051 [enc s,(s.l.length:Int),enc k,enc c]=some [enc s,enc k,enc c]:=by
  by_cases hz:s.l.length=0
  ·have c1: ¬(0:Int)<(s.l.length:Int):=by omega
   have h:=azH hk0 hk1 hc (enc s);rw [aP,asY];simp only [adZ,zz,c1,aH];rw [h,hs0 hz]
  ·have hp:0<s.l.length:=by omega
   have hs:=hs1 hp;have c1:(0:Int)<(s.l.length:Int):=by omega
   obtain⟨o,c',dn,g,r,v,he,_,_,hd,_,hr,hv⟩:=hs.wd.thing _ (aIZ hp);have ih:=aqD (k:=k) (c:=c) hs (s.l.length-1) 1 [s.l[0]] (by omega) rfl;rw [aI8,aI1,<- aJq hp,aJT,<- hs.sh,azG hk0 hk1 hc] at ih;rw [he] at ih;simp only [dU,fZ] at ih;have a0:s.at 0=s.l[0]:=aX (i:=0) hp;rw [aP,asY];rcases hd with rfl|rfl<;>rcases bF hr with rfl|rfl|⟨r1,r2⟩ <;>rcases bF hv with rfl|rfl|⟨v1,v2⟩
   all_goals
    simp only [adZ,zz,c1,a0,he,eP,aW,wY,aI1,aI0,aIX,len1,len2,nH,iP]
    try simp only [r1,r2,zz]
    try simp only [v1,v2,zz]
    try simp only [aH,if_true,aC,if_false]
    exact ih
 rw [aP,aCj];simp only [anH,zz,aH];exact h
end
theorem Sx.aF9 {s k c:D} {n:Nat} (S:Sx s k n) (hc:Wd (.sl 0) c):L 3050 [enc s,enc k,enc c]=some [enc s,enc k,enc c]:=by
 refine aaV (fun h=>?_) (fun h=>BO S.g.wd h) (fun h=>?_) (fun h=>BM S.wk h) hc
 ·rcases S.g.wd.sh with h1|h1|⟨_,h2⟩
  ·exact h1
  ·exact absurd h1 S.n2s
  ·exact absurd (aLE.1 h) h2
 ·rcases S.wk.sh with h1|h1|⟨_,h2⟩
  ·exact h1
  ·exact absurd h1 S.n2k
  ·exact absurd (aLE.1 h) h2
def bump (c:D) (u n:Int):D:=dL (dZ c.l u (.i (if (c.at u).n<n then n else (c.at u).n)))
theorem uO (c:D) (u n:Int):(bump c u n).l.length=c.l.length:=by unfold bump; rw [aW,dQ]
def wkB (n:Int):List D->D->D
 |[],c=>c
 |x::l,c=>wkB n l (bump c x.n n)
def wkA (o g n:Int):List D->Nat->D->D
 |[],_,c=>c
 |x::l,i,c=>wkA o g n l (i+1) (if (x.hd 2).n=25/\(x.hd 3).n=o/\(x.hd 4).n=g then bump c (i:Int) n else c)
def QJ (s s' k':D) (e2 e3 e4:Int) (c:D) (n:Int):D:=
 if e2=13 then (if 0<e4 then bump c (IntKind.i64.wrap (e4-1)) n else c)
 else if e2=14 then wkB n ((s.at e3).hd 4).l c
 else if e2=15 then (if e4<((s'.at e3).hd 3).n then wkA e3 e4 n k'.l 0 c else c)
 else c
section
variable {x0 x1 x2 x3 x4 x5 x6 x7 x8 x9 n:Int} {m:Nat}
theorem Xh (r:D) (hr: ∀x∈r.l,0<=x.n/\x.n<(m:Int)) (hb:r.l.length<=140737488351232): ∀(j i:Nat) (c:D),i+j=r.l.length->c.l.length=m->
 L 15001 [x0,x1,x2,x3,x4,x5,x6,x7,x8,x9,n,enc r,(r.l.length:Int),(i:Int),enc c]=some [0,x0,x1,x2,x3,x4,x5,x6,x7,x8,x9,n,enc (wkB n (r.l.drop i) c)]
 |0,i,c,hi,hc=>by
  have c1: ¬(i:Int)<(r.l.length:Int):=by omega
  rw [aJJ (by omega),aP,acG];simp only [MZ,zz,c1,aK,wkB]
 |j+1,i,c,hi,hc=>by
  have hil:i<r.l.length:=by omega
  have c1:(i:Int)<(r.l.length:Int):=by omega
  have c2: ¬((i:Int)<0):=by omega
  have w:=aZ (n:=i) (by omega);obtain⟨r0,r1⟩:=hr _ (aIZ hil);have c3: ¬((r.l[i]).n<0):=by omega
  have c4:(r.l[i]).n<(c.l.length:Int):=by omega
  have ih:=Xh r hr hb j (i+1) (bump c (r.l[i]).n n) (by omega) (by rw [uO]; exact hc);rw [aJq hil,wkB,aP,acG];unfold bump at ih ⊢;by_cases hz:(c.at (r.l[i]).n).n<n
  ·simp only [aIR hz] at ih ⊢;simp only [MZ,zz,c1,c2,c3,c4,aX hil,hz,w,aH];exact ih
  ·simp only [aIQ hz] at ih ⊢;simp only [MZ,zz,c1,c2,c3,c4,aX hil,hz,w,aH];exact ih
theorem BK (k:D) (hb:k.l.length<=140737488351232) (hk:k.l.length<=m): ∀(j i:Nat) (c:D),i+j=k.l.length->c.l.length=m->
 L 15002 [x0,x1,x2,enc k,x4,x5,x6,x7,x8,x9,n,(k.l.length:Int),(i:Int),enc c]=some [0,x0,x1,x2,enc k,x4,x5,x6,x7,x8,x9,n,enc (wkA x6 x7 n (k.l.drop i) i c)]
 |0,i,c,hi,hc=>by
  have c1: ¬(i:Int)<(k.l.length:Int):=by omega
  rw [aJJ (by omega),aP,acF];simp only [BP,zz,c1,aK,wkA]
 |j+1,i,c,hi,hc=>by
  have hil:i<k.l.length:=by omega
  have c1:(i:Int)<(k.l.length:Int):=by omega
  have c2: ¬((i:Int)<0):=by omega
  have c4:(i:Int)<(c.l.length:Int):=by omega
  have w:=aZ (n:=i) (by omega);rw [aJq hil,wkA,aP,acF];by_cases h2:((k.l[i]).hd 2).n=25
  ·by_cases h3:((k.l[i]).hd 3).n=x6
   ·by_cases h4:((k.l[i]).hd 4).n=x7
    ·have ih:=BK k hb hk j (i+1) (bump c (i:Int) n) (by omega) (by rw [uO]; exact hc);rw [aIR ⟨h2,h3,h4⟩];unfold bump at ih ⊢;by_cases hz:(c.at (i:Int)).n<n
     ·simp only [aIR hz] at ih ⊢;simp only [BP,zz,c1,c2,c4,aX hil,h2,h3,h4,hz,w,aH];exact ih
     ·simp only [aIQ hz] at ih ⊢;simp only [BP,zz,c1,c2,c4,aX hil,h2,h3,h4,hz,w,aH];exact ih
    ·have ih:=BK k hb hk j (i+1) c (by omega) hc;rw [aIQ (fun h=>h4 h.2.2)];simp only [BP,zz,c1,c2,aX hil,h2,h3,aIQ h4,w,aH];exact ih
   ·have ih:=BK k hb hk j (i+1) c (by omega) hc;rw [aIQ (fun h=>h3 h.2.1)];simp only [BP,zz,c1,c2,aX hil,h2,aIQ h3,w,aH];exact ih
  ·have ih:=BK k hb hk j (i+1) c (by omega) hc;rw [aIQ (fun h=>h2 h.1)];simp only [BP,zz,c1,c2,aX hil,aIQ h2,w,aH];exact ih
end
structure awH (s s' k':D) (e2 e3 e4:Int) (m:Nat):Prop where
 sig:e2=13->0<e4->0<=IntKind.i64.wrap (e4-1)/\IntKind.i64.wrap (e4-1)<(m:Int)
 brd:e2=14->0<=e3/\e3<(s.l.length:Int)/\(∀x∈((s.at e3).hd 4).l,0<=x.n/\x.n<(m:Int))/\((s.at e3).hd 4).l.length<=140737488351232
 arr:e2=15->0<=e3/\e3<(s'.l.length:Int)
 lk:k'.l.length<=m
 few:k'.l.length<=140737488351232
theorem alN {s s' k' c:D} {x1 e1 e2 e3 e4 e5 n:Int} (W:awH s s' k' e2 e3 e4 c.l.length):L 15000 [enc s,x1,enc s',enc k',e1,e2,e3,e4,e5,enc c,n]=some [0,enc s,x1,enc s',enc k',e1,e2,e3,e4,e5,enc c,n,enc (QJ s s' k' e2 e3 e4 c n)]:=by
 rw [aP,atQ];unfold QJ;by_cases h3:e2=13
 ·by_cases hp:0<e4
  ·obtain⟨w0,w1⟩:=W.sig h3 hp;have c2: ¬(IntKind.i64.wrap (e4-1)<0):=by omega
   unfold bump;by_cases hz:(c.at (IntKind.i64.wrap (e4-1))).n<n
   ·simp only [zQ,zz,h3,hp,c2,w1,hz,aK,if_true]
   ·simp only [zQ,zz,h3,hp,c2,w1,hz,aK,if_true,if_false]
  ·simp only [zQ,zz,h3,hp,aK,if_true,if_false]
 ·by_cases h4:e2=14
  ·obtain⟨b0,b1,b2,b3⟩:=W.brd h4;have c2: ¬(e3<0):=by omega
   have h:=Xh (x0:=enc s) (x1:=x1) (x2:=enc s') (x3:=enc k') (x4:=e1) (x5:=e2) (x6:=e3) (x7:=e4) (x8:=e5) (x9:=enc c) (n:=n) ((s.at e3).hd 4) b2 b3 ((s.at e3).hd 4).l.length 0 c (by omega) rfl;rw [aJT,aJy,h4] at h;simp only [zQ,zz,h4,b1,c2,aH,if_true,if_false,Int.reduceEq];exact h
  ·by_cases h5:e2=15
   ·obtain⟨b0,b1⟩:=W.arr h5;have c2: ¬(e3<0):=by omega
    by_cases hg:e4<((s'.at e3).hd 3).n
    ·have h:=BK (x0:=enc s) (x1:=x1) (x2:=enc s') (x4:=e1) (x5:=e2) (x6:=e3) (x7:=e4) (x8:=e5) (x9:=enc c) (n:=n) k' W.few W.lk k'.l.length 0 c (by omega) rfl;rw [aJT,aJy,h5] at h;simp only [zQ,zz,h5,b1,c2,hg,aH,if_true,if_false,Int.reduceEq];exact h
    ·simp only [zQ,zz,h5,b1,c2,hg,aK,if_true,if_false,Int.reduceEq]
   ·simp only [zQ,zz,h3,h4,h5,aK,if_false]
abbrev KL:Int:=9223372036854775807
abbrev tick (c:D) (t:Int):D:=dL (dZ c.l t (.i ((c.at t).n+1)))
inductive Zf (d0 d1 s k c:D) (t:Int) (n:Nat):D->D->D->Int->Int->Int->Int->Int->Int->Int->Prop
 |no (h: ¬(0<=t/\t<(d1.l.length:Int)/\KR d0 d1 s k c)):Zf d0 d1 s k c t n s k c 0 0 0 0 0 0 0
 |over (x:KT) (K:KR d0 d1 s k c) (R:Rs d0 d1 s k t x) (ho:fB d1 t x=1):Zf d0 d1 s k c t n s k c 0 0 0 0 0 4 0
 |asl (x:KT) (K:KR d0 d1 s k c) (R:Rs d0 d1 s k t x) (ho:fB d1 t x=0) (ha:EJ s t x≠0):Zf d0 d1 s k c t n s k c 0 0 0 0 0 0 0
 |wait (x:KT) (K:KR d0 d1 s k c) (R:Rs d0 d1 s k t x) (ho:fB d1 t x=0) (ha:EJ s t x=0) (hq:low (gQ d1 t x) 4≠0\/(c.at t).n=KL) (ht: ¬IB (Bg d0 d1 s k) c t):Zf d0 d1 s k c t n s k c 0 0 0 0 0 0 0
 |full (x:KT) (K:KR d0 d1 s k c) (R:Rs d0 d1 s k t x) (ho:fB d1 t x=0) (ha:EJ s t x=0) (ht:IB (Bg d0 d1 s k) c t) (hm:(c.at t).n=KL):Zf d0 d1 s k c t n s k c 0 0 0 0 0 0 131
 |go (x:KT) (K:KR d0 d1 s k c) (R:Rs d0 d1 s k t x) (ho:fB d1 t x=0) (ha:EJ s t x=0) (hq:low (gQ d1 t x) 4=0\/IB (Bg d0 d1 s k) c t) (hm:(c.at t).n≠KL) (s' k':D) (e1 e2 e3 e4 e5 oc:Int)
  (hL:L 1850 [enc d0,enc d1,enc s,enc k,t]=some [enc s',enc k',e1,e2,e3,e4,e5,oc]) (H:EZ d0 d1 s k t n s' k' e1 e2 e3 e4 e5 oc) (W:awH s s' k' e2 e3 e4 c.l.length):Zf d0 d1 s k c t n s' k' (QJ s s' k' e2 e3 e4 (tick c t) ((c.at t).n+1)) e1 e2 e3 e4 e5 oc 0
theorem ajI (d1:D) (t:Int) (x:KT): ∃a b c d e,gQ d1 t x= [a,b,c,d,e]/\(e=0\/e=1):=by
 unfold gQ;split
 ·split
  ·exact⟨_,_,_,_,_,rfl,.inl rfl⟩
  ·split
   ·exact⟨_,_,_,_,_,rfl,.inr rfl⟩
   ·split
    ·exact⟨_,_,_,_,_,rfl,.inr rfl⟩
    ·exact⟨_,_,_,_,_,rfl,.inl rfl⟩
 ·exact⟨_,_,_,_,_,rfl,.inr rfl⟩
section
variable {d0 d1 s k:D} {n:Nat} (S:Sx s k n) (hn:n<17592186043904) (h0:Wd (.sl 3) d0) (h1:Wd (.sl 4) d1)
include S hn h0 h1
theorem aaC (M:MR d0 d1 s k) {i:Int} (i0:0<=i) (i1:i<(s.l.length:Int)):(∀x∈((s.at i).hd 4).l,0<=x.n/\x.n<(d1.l.length:Int))/\((s.at i).hd 4).l.length<=140737488351232:=by obtain⟨o,c,dn,g,r,v,T,hr,_⟩:=agG S.g i0 i1;have P:=Va h0 h1 S.g (by omega) M.1 i0 i1 T;rw [T.is];simp only [zg,aIY];exact⟨P.2.1.1,by omega⟩
theorem aFp (M:MR d0 d1 s k) {t:Int} {s' k':D} {e1 e2 e3 e4 e5 oc:Int} (H:EZ d0 d1 s k t n s' k' e1 e2 e3 e4 e5 oc):awH s s' k' e2 e3 e4 d1.l.length:=by
 have hx:=Xz S hn h0 h1 H;have hlk:k.l.length=d1.l.length:=M.2.1;have hk2:=h1.len;have hle:=(DN h0 h1 S.g (by omega) M.1).2.2;refine⟨fun h13 hp=>?_,fun h14=>?_,fun h15=>?_,by omega,by omega⟩
 all_goals
  cases H with
  |no h=>omega
  |over x R ho=>omega
  |loc x R ho ha=>omega
  |tri x R ho op obj arg tr hq k1 k2 k3 hti s' e1 e2 e3 e4 e5 oc A T=>
   cases T with
   |no=>omega
   |mis A'=>omega
   |res A' o c dn g r v o' c' IU g' r' v' m a oc T' h=>
    have a0:=A'.o0;have a1:=A'.o1;obtain⟨hrow,hrl⟩:=aaC S hn h0 h1 M a0 a1
    first
     |(subst h13
       have e:act (Mx d0 e3) (Mo d0 s e3) t 13 arg tr o c dn g r v=if (r.l.length:Int)=0 then .res o c dn g r v none 0 2 else .res o c dn g (fC r (r.l.drop 1)) v none (IntKind.i64.wrap ((r.at 0).n+1)) 2:=by simp [act]
       rw [e] at h;rw [T'.is] at hrow;simp only [zg,aIY] at hrow;have hok:=(DN h0 h1 S.g (by omega) M.1).2.1.2.1;by_cases hz:(r.l.length:Int)=0
       ·rw [aIR hz] at h;simp only [Act.res.injEq] at h;omega
       ·rw [aIQ hz] at h;simp only [Act.res.injEq] at h;have h2:=h.2.2.2.2.2.2.2.1;have hm:r.at 0∈r.l:=Vu (aKm 0) (by omega);obtain⟨q0,q1⟩:=hrow _ hm;rw [lW (by omega) (by omega)] at h2;rw [<- h2,lW (by omega) (by omega)]
        omega)
     |exact⟨a0,a1,hrow,hrl⟩
     |(have:=hx.2.1
       exact⟨a0,by omega⟩)
theorem X5 {c:D} (hc:Wd (.sl 0) c) (t:Int): ∃s' k' c' e1 e2 e3 e4 e5 oc er,L 3100 [enc d0,enc d1,enc s,enc k,enc c,t]=some [enc s',enc k',enc c',e1,e2,e3,e4,e5,oc,er]/\Zf d0 d1 s k c t n s' k' c' e1 e2 e3 e4 e5 oc er:=by
 have hcp:=S.aF9 hc;have hb:=hc.len;obtain⟨ys,hK,b,rfl,hb'⟩:=Tv (k:=k) h0 h1 (S.g.few (by omega)).rows hb;by_cases t0:t<0
 ·refine⟨s,k,c,0,0,0,0,0,0,0,?_,.no fun h=>by omega⟩;rw [aP,Bz];simp only [yG,zz,t0,hcp,aK]
 ·by_cases t1:t<(d1.l.length:Int)
  ·rcases hb' with ⟨rfl,hN⟩|⟨rfl,K⟩
   ·refine⟨s,k,c,0,0,0,0,0,0,0,?_,.no fun h=>hN h.2.2⟩;rw [aP,Bz];simp only [yG,zz,t0,t1,hK,hcp,aK]
   ·obtain⟨hcl,hnn,M⟩:=K;have hle:=(DN h0 h1 S.g (by omega) M.1).2.2;obtain⟨x,R⟩:=M.thr S hn h0 h1 (by omega:0<=t) t1;have hO:=sO (s:=s) R.hk R.ht R.r;have hN:=Ae (s:=s) R.c R.hk R.ht R.r;have h15:=R.yes;have tc:t<(c.l.length:Int):=by omega
    have hA:=Ux S hn R hle;rcases GI d1 t x with ho|ho
    ·rw [ho] at hO
     have h17:L 1700 [enc d0,enc d1,enc s,enc k,t]=some [0]:=by rw [aP,YO];simp only [MW,zz,h15,hO,aC,aK]
     obtain⟨q0,q1,q2,q3,q4,hq,hq4⟩:=ajI d1 t x
     have h18:L 1800 [enc d0,enc d1,enc s,enc k,t]=some [q0,q1,q2,q3,q4]:=by
      rw [hq] at hN;rw [aP,aCu];rcases hq4 with rfl|rfl
      ·simp only [aeN,zz,h15,hN,aC,aK]
      ·simp only [aeN,zz,h15,hN,aC,aK]
     have hl4:low (gQ d1 t x) 4=q4:=by rw [hq]; rfl
     by_cases ha:EJ s t x=0
     ·obtain⟨tb,hT,aIF,hTi⟩:=awV (d0:=d0) (d1:=d1) (s:=s) (k:=k) (c:=c) (t:=t) (fun u u0 u1=>by
       obtain⟨y,Ry⟩:=M.thr S hn h0 h1 u0 (by omega)
       exact⟨_,Uj S hn Ry hle⟩) (by omega) tc hb
      rw [ha] at hA
      have hgo:(low (gQ d1 t x) 4=0\/IB (Bg d0 d1 s k) c t)->(c.at t).n≠KL->∃s' k' e1 e2 e3 e4 e5 oc,(L 1850 [enc d0,enc d1,enc s,enc k,t]=some [enc s',enc k',e1,e2,e3,e4,e5,oc]/\L 15000 [enc s,enc k,enc s',enc k',e1,e2,e3,e4,e5,enc (tick c t),(c.at t).n+1]=some [0,enc s,enc k,enc s',enc k',e1,e2,e3,e4,e5,enc (tick c t),(c.at t).n+1,enc (QJ s s' k' e2 e3 e4 (tick c t) ((c.at t).n+1))])/\
       Zf d0 d1 s k c t n s' k' (QJ s s' k' e2 e3 e4 (tick c t) ((c.at t).n+1)) e1 e2 e3 e4 e5 oc 0:=fun hq' hm=>by
       obtain⟨s',k',e1,e2,e3,e4,e5,oc,hL,H⟩:=ZY S hn h0 h1 t;have W:=aFp S hn h0 h1 M H;refine⟨s',k',e1,e2,e3,e4,e5,oc,⟨hL,alN ?_⟩,.go x ⟨hcl,hnn,M⟩ R ho ha hq' hm s' k' e1 e2 e3 e4 e5 oc hL H (by rw [hcl]; exact W)⟩;rw [aW,dQ,hcl];exact W
      have hin:iW .i64 (c.at t).n:=by obtain⟨i,rfl⟩ : ∃i:Nat,t=(i:Int):=⟨t.toNat,by omega⟩;exact alR hc i
      have hw:(c.at t).n≠KL->IntKind.i64.wrap ((c.at t).n+1)=(c.at t).n+1:=fun hm=>lW (by have:=hin.1; omega) (by have:=hin.2; unfold KL at hm; omega);have hpos:(0:Int)<(c.l.length:Int):=by omega
      have hfew:(c.l.length:Int)<17592186044416:=by have:=hc.room;have h3:wZ 0=8:=rfl;rw [h3] at this;omega
      have hat:((tick c t).at t).n=(c.at t).n+1:=by
       obtain⟨i,rfl⟩ : ∃i:Nat,t=(i:Int):=⟨t.toNat,by omega⟩
       have:(tick c (i:Int)).at (i:Int)= .i ((c.at (i:Int)).n+1):=WS (by
        show (dL (dZ c.l (i:Int) _)).l[i]?=_;rw [aW]
        exact yZ (by omega))
       rw [this];rfl
      by_cases h4:q4=0
      ·by_cases hm:(c.at t).n=KL
       ·have hm':(c.at t).n=9223372036854775807:=hm;by_cases hz:tb=0
        ·refine⟨s,k,c,0,0,0,0,0,0,0,?_,.wait x ⟨hcl,hnn,M⟩ R ho ha (.inr hm) fun h=>by have:=hTi.2 h; omega⟩;rw [aP,Bz];simp only [yG,zz,t0,t1,hK,h17,h18,tc,hA,h4,hm',hT,hz,hcp,aC,aK]
        ·refine⟨s,k,c,0,0,0,0,0,0,131,?_,.full x ⟨hcl,hnn,M⟩ R ho ha (hTi.1 (by omega)) hm⟩;rw [aP,Bz];simp only [yG,zz,t0,t1,hK,h17,h18,tc,hA,h4,hm',hT,aIQ hz,hcp,aC,aK]
       ·obtain⟨s',k',e1,e2,e3,e4,e5,oc,⟨hL,hW⟩,H⟩:=hgo (.inl (by rw [hl4]; exact h4)) hm;refine⟨s',k',_,e1,e2,e3,e4,e5,oc,0,?_,H⟩;have hm': ¬(c.at t).n=9223372036854775807:=hm;rw [aP,Bz];simp only [yG,zz,t0,t1,hK,h17,h18,tc,hA,h4,hm',hL,hpos,hfew,hw hm,hat,hW,aC,aK]
      ·by_cases hz:tb=0
       ·refine⟨s,k,c,0,0,0,0,0,0,0,?_,.wait x ⟨hcl,hnn,M⟩ R ho ha (.inl (by rw [hl4]; exact h4)) fun h=>by have:=hTi.2 h; omega⟩;rw [aP,Bz];simp only [yG,zz,t0,t1,hK,h17,h18,tc,hA,aIQ h4,hT,hz,hcp,aC,aK]
       ·have hTP:=hTi.1 (by omega);by_cases hm:(c.at t).n=KL
        ·have hm':(c.at t).n=9223372036854775807:=hm;refine⟨s,k,c,0,0,0,0,0,0,131,?_,.full x ⟨hcl,hnn,M⟩ R ho ha hTP hm⟩;rw [aP,Bz];simp only [yG,zz,t0,t1,hK,h17,h18,tc,hA,aIQ h4,hm',hT,aIQ hz,hcp,aC,aK]
        ·obtain⟨s',k',e1,e2,e3,e4,e5,oc,⟨hL,hW⟩,H⟩:=hgo (.inr hTP) hm;refine⟨s',k',_,e1,e2,e3,e4,e5,oc,0,?_,H⟩;have hm': ¬(c.at t).n=9223372036854775807:=hm;rw [aP,Bz];simp only [yG,zz,t0,t1,hK,h17,h18,tc,hA,aIQ h4,hm',hT,aIQ hz,hL,hpos,hfew,hw hm,hat,hW,aC,aK]
     ·refine⟨s,k,c,0,0,0,0,0,0,0,?_,.asl x ⟨hcl,hnn,M⟩ R ho ha⟩;obtain⟨b4,hb4⟩ : ∃b4,q4=b4:=⟨_,rfl⟩;rw [aP,Bz];simp only [yG,zz,t0,t1,hK,h17,h18,tc,hA,aIQ ha,hcp,aC,aK]
    ·rw [ho] at hO
     have h17:L 1700 [enc d0,enc d1,enc s,enc k,t]=some [1]:=by rw [aP,YO];simp only [MW,zz,h15,hO,aC,aK]
     refine⟨s,k,c,0,0,0,0,0,4,0,?_,.over x ⟨hcl,hnn,M⟩ R ho⟩;rw [aP,Bz];simp only [yG,zz,t0,t1,hK,h17,hcp,aC,aK]
  ·refine⟨s,k,c,0,0,0,0,0,0,0,?_,.no fun h=>t1 h.2.1⟩;rw [aP,Bz];simp only [yG,zz,t0,t1,hcp,aK]
end
abbrev evD (e1 e2 e3 e4 e5:Int):D:=dL [.i e1,.i e2,.i e3,.i e4,.i e5]
structure PS where
 s:D
 k:D
 l:List D
structure POk (d1:D) (p:PS) (n:Nat):Prop where
 sx:Sx p.s p.k n
 lk:p.k.l.length=d1.l.length
 ll:p.l.length<=n
theorem dr {ρ:Nat->Int} (a b:SE):(SE.rem a b).den ρ=(a.den ρ).tmod (b.den ρ):=rfl
theorem aF4:((3:Int)=2)=False:=by simp
section
variable {d0 d1:D} (h0:Wd (.sl 3) d0) (h1:Wd (.sl 4) d1)
include h0 h1
end
theorem Fh (d1:D):(iT d1).l.length=d1.l.length:=by
 unfold iT;split
 ·rename_i h; rw [h]; rfl
 ·rw [aW,aJD]
section
variable {d0 d1:D} (h0:Wd (.sl 3) d0) (h1:Wd (.sl 4) d1)
include h0 h1
end
theorem aDg:Sx (.i 1) (.i 1) 0:=⟨⟨.nil 7,fun x hx=>by simp [D.l] at hx⟩,.nil 8,by simp,by simp⟩
structure Ck (M:Int) (c:D):Prop where
 wd:Wd (.sl 0) c
 rng: ∀u:Nat,u<c.l.length->0<=(c.at (u:Int)).n/\(c.at (u:Int)).n<=M
structure Sh (B:Int) (c c':D):Prop where
 len:c'.l.length=c.l.length
 at': ∀u:Nat,u<c.l.length->(c'.at (u:Int)).n=(c.at (u:Int)).n+B
theorem WR (c:D) (u x:Int) {v:Nat} (hv:v<c.l.length):((dL (dZ c.l u (.i x))).at (v:Int)).n=if (v:Int)=u then x else (c.at (v:Int)).n:=by
 by_cases h:(v:Int)=u
 ·subst h;rw [aIR rfl,WS (s:=dL (dZ c.l (v:Int) (.i x))) (i:=v) (x:=.i x) (by rw [aW]; exact yZ hv)];rfl
 ·rw [aIQ h]
  have e:(dL (dZ c.l u (.i x))).at (v:Int)=c.at (v:Int):=by rw [lJ,lJ,aW,lY h]
  rw [e]
theorem awS {c:D} (hc:Wd (.sl 0) c) (hp:0<c.l.length) (z:Int) {v:Int} (hv:iW .i64 v):Wd (.sl 0) (dL (dZ c.l z (.i v))):=by
 have:=hc.room;have h3:wZ 0=8:=rfl;rw [h3] at this;have hs:=dQ c.l z (.i v);refine zK (fun y hy=>?_) (fun he=>?_) (by rw [hs]; omega)
 ·rcases yU hy with h|rfl
  ·exact (hc.el1 rfl y h).i
  ·exact⟨v,rfl,hv⟩
 ·rw [he] at hs;simp only [aI7] at hs;omega
theorem aeU {M:Int} {c:D} (C:Ck M c) (hp:0<c.l.length) (hM:M<=KL) (z:Int) {v:Int} (v0:0<=v) (v1:v<=M):Ck M (dL (dZ c.l z (.i v))):=by
 refine⟨awS C.wd hp z ⟨by omega,by unfold KL at hM; omega⟩,fun u hu=>?_⟩;rw [aW,dQ] at hu;rw [WR c z v hu];split
 ·exact⟨v0,v1⟩
 ·exact C.rng u hu
theorem Ck.mono {M M':Int} {c:D} (C:Ck M c) (h:M<=M'):Ck M' c:=⟨C.wd,fun u hu=>by have:=C.rng u hu; omega⟩
theorem Ck.at {M:Int} {c:D} (C:Ck M c) {t:Int} (t0:0<=t) (t1:t<(c.l.length:Int)):0<=(c.at t).n/\(c.at t).n<=M:=by obtain⟨i,rfl⟩ : ∃i:Nat,t=(i:Int):=⟨t.toNat,by omega⟩;exact C.rng i (by omega)
theorem WO {M:Int} {c:D} (C:Ck M c) (hp:0<c.l.length) (hM:M<=KL) {u n:Int} (u0:0<=u) (u1:u<(c.l.length:Int)) (n0:0<=n) (n1:n<=M):Ck M (bump c u n):=by unfold bump;have:=C.at u0 u1;refine aeU C hp hM u ?_ ?_<;>(split<;>omega)
theorem alQ {M:Int} {n:Int} (hM:M<=KL) (n0:0<=n) (n1:n<=M): ∀(l:List D) (c:D),Ck M c->0<c.l.length->(∀x∈l,0<=x.n/\x.n<(c.l.length:Int))->Ck M (wkB n l c)/\(wkB n l c).l.length=c.l.length
 |[],c,C,_,_=> ⟨C,rfl⟩
 |x::l,c,C,hp,h=>by have hx:=h x List.mem_cons_self;have e:=uO c x.n n;have:=alQ hM n0 n1 l (bump c x.n n) (WO C hp hM hx.1 hx.2 n0 n1) (by omega) (fun y hy=>by rw [e]; exact h y (aKA _ hy));rw [e] at this;exact this
theorem Zx {M:Int} {n o g:Int} (hM:M<=KL) (n0:0<=n) (n1:n<=M): ∀(l:List D) (i:Nat) (c:D),Ck M c->0<c.l.length->i+l.length<=c.l.length->Ck M (wkA o g n l i c)/\(wkA o g n l i c).l.length=c.l.length
 |[],i,c,C,_,_=> ⟨C,rfl⟩
 |x::l,i,c,C,hp,h=>by
  simp only [aI5] at h;unfold wkA;split
  ·have e:=uO c (i:Int) n;have:=Zx (o:=o) (g:=g) hM n0 n1 l (i+1) (bump c (i:Int) n) (WO C hp hM (by omega) (by omega) n0 n1) (by omega) (by omega);rw [e] at this;exact this
  ·exact Zx hM n0 n1 l (i+1) c C hp (by omega)
theorem aC4 {M:Int} {s s' k' c:D} {e2 e3 e4 n:Int} (W:awH s s' k' e2 e3 e4 c.l.length) (C:Ck M c) (hp:0<c.l.length) (hM:M<=KL) (n0:0<=n) (n1:n<=M):Ck M (QJ s s' k' e2 e3 e4 c n)/\(QJ s s' k' e2 e3 e4 c n).l.length=c.l.length:=by
 unfold QJ;split
 ·rename_i h;split
  ·rename_i h';obtain⟨w0,w1⟩:=W.sig h h';exact⟨WO C hp hM w0 w1 n0 n1,uO _ _ _⟩
  ·exact⟨C,rfl⟩
 ·split
  ·rename_i h;exact alQ hM n0 n1 _ c C hp (W.brd h).2.2.1
  ·split
   ·split
    ·exact Zx hM n0 n1 _ 0 c C hp (by have:=W.lk; omega)
    ·exact⟨C,rfl⟩
   ·exact⟨C,rfl⟩
theorem BN (c:D) (t:Int):(tick c t).l.length=c.l.length:=by rw [aW,dQ]
theorem Sh.at {B:Int} {c c':D} (h:Sh B c c') {t:Int} (t0:0<=t) (t1:t<(c.l.length:Int)):(c'.at t).n=(c.at t).n+B:=by obtain⟨i,rfl⟩ : ∃i:Nat,t=(i:Int):=⟨t.toNat,by omega⟩;exact h.at' i (by omega)
theorem aaB {d0 d1 s k:D} {t:Int} {x y:KT} (R:Rs d0 d1 s k t x) (R':Rs d0 d1 s k t y):x=y:=by have h:=R.hk.symm.trans R'.hk;simp only [KT.d,dU,fZ,D.p.injEq,D.i.injEq,and_true] at h;obtain⟨h1,h2,h3,h4,h5,h6⟩:=h;cases x; cases y;simp only at h1 h2 h3 h4 h5 h6;subst h1 h2 h3 h4 h5 h6;rfl
structure aIO (d0 d1 s k c c':D) (t:Int) (n:Nat) (B M M':Int) (s' k' cn cn':D) (e1 e2 e3 e4 e5 oc:Int):Prop where
 one:L 3100 [enc d0,enc d1,enc s,enc k,enc c,t]=some [enc s',enc k',enc cn,e1,e2,e3,e4,e5,oc,0]
 two:L 3100 [enc d0,enc d1,enc s,enc k,enc c',t]=some [enc s',enc k',enc cn',e1,e2,e3,e4,e5,oc,0]
 sh:Sh B cn cn'
 ck:Ck (M+1) cn
 ck':Ck (M'+1) cn'
 sx:Sx s' k' (n+1)
section
variable {d0 d1 s k:D} {n:Nat} (S:Sx s k n) (hn:n<17592186043904) (h0:Wd (.sl 3) d0) (h1:Wd (.sl 4) d1)
include S hn h0 h1
end
theorem qK {x y:KT} (h:x.d=y.d):x=y:=by simp only [KT.d,dU,fZ,D.p.injEq,D.i.injEq,and_true] at h;obtain⟨h1,h2,h3,h4,h5,h6⟩:=h;cases x; cases y;simp only at h1 h2 h3 h4 h5 h6;subst h1 h2 h3 h4 h5 h6;rfl
structure One (d0 d1 s k:D) (t:Int) (s' k':D) (e1 e2 e3 e4 e5 oc:Int) (x y:KT):Prop where
 hk:k.at t=x.d
 hk':k'=fV k t y
 how:(oc=0/\s'=s/\e1=0/\e2=0/\e3=0/\e4=0/\e5=0/\y= { x with tr:=y.tr }/\L 1700 [enc d0,enc d1,enc s,enc k,t]=some [0])\/
  (oc=4/\s'=s/\e1=0/\e2=0/\e3=0/\e4=0/\e5=0/\y=x/\L 1700 [enc d0,enc d1,enc s,enc k,t]=some [1])\/
  (oc=1/\s'=s/\e1=0/\e2=0/\e3=0/\e4=0/\e5=0/\L 1700 [enc d0,enc d1,enc s,enc k,t]=some [0])\/
  ((oc=2\/oc=3)/\e2≠0/\L 1700 [enc d0,enc d1,enc s,enc k,t]=some [0])
section
variable {d0 d1 s k:D} {n:Nat} (S:Sx s k n) (hn:n<17592186043904) (h0:Wd (.sl 3) d0) (h1:Wd (.sl 4) d1)
include S hn h0 h1
omit hn h0 h1 in
theorem aF7 {t:Int} (t0:0<=t) (t1:t<(k.l.length:Int)): ∃x:KT,k.at t=x.d/\fV k t x=k:=by
 obtain⟨i,rfl⟩ : ∃i:Nat,t=(i:Int):=⟨t.toNat,by omega⟩;have hi:i<k.l.length:=by omega
 obtain⟨a,lc,w,o,g,tr,T⟩:=jI S.wk _ (aIZ hi);exact⟨⟨a,lc,w,o,g,tr⟩,by rw [aX hi,T.is],Z8 (BM S.wk (by omega)).sh t0 t1 (by rw [aX hi,T.is])⟩
omit S h0 h1 in
theorem aD2 {t:Int} (h:L 1550 [enc d0,enc d1,enc s,enc k,t]=some [0]):L 1700 [enc d0,enc d1,enc s,enc k,t]=some [0]:=by rw [aP,YO];simp only [MW,zz,h,aK]
omit S h0 h1 in
theorem arJ {t:Int} {x:KT} (R:Rs d0 d1 s k t x):L 1700 [enc d0,enc d1,enc s,enc k,t]=some [fB d1 t x]:=by
 have hO:=sO (s:=s) R.hk R.ht R.r;have h:=R.yes;rw [aP,YO];rcases GI d1 t x with ho|ho
 ·rw [ho] at hO ⊢;simp only [MW,zz,h,hO,aC,aK]
 ·rw [ho] at hO ⊢;simp only [MW,zz,h,hO,aC,aK]
end
theorem lH (k:D) {t u:Int} (u0:0<=u) (h:u≠t) (x:KT):(fV k t x).at u=k.at u:=by obtain⟨i,rfl⟩ : ∃i:Nat,u=(i:Int):=⟨u.toNat,by omega⟩;show (dL (dZ k.l t x.d)).at (i:Int)=k.at (i:Int);rw [lJ,lJ,aW,lY h]
section
variable {d0 d1 s k:D} {n:Nat} (S:Sx s k n) (hn:n<17592186043900) (h0:Wd (.sl 3) d0) (h1:Wd (.sl 4) d1)
include S hn h0 h1
theorem aeY (M:MR d0 d1 s k) {t:Int} {x:KT} (t0:0<=t) (t1:t<(d1.l.length:Int)) (h:k.at t=x.d):Rs d0 d1 s k t x:=by obtain⟨y,R⟩:=M.thr S (by omega) h0 h1 t0 t1;rw [qK (h.symm.trans R.hk)];exact R
end
noncomputable abbrev foE (d0 d1 s k:D) (t n rX vJ ea eb:Int) (x:KT):Nat->Int:=bT L (low [t,n,enc d0,enc d1,enc s,enc k,rX,vJ,ea,eb,enc s,enc k,x.a,enc x.lc,x.w,x.o,x.g,x.tr])
section
variable {d0 d1 s k:D} {t:Int} {n:Nat} {rX vJ ea eb m:Int} {x:KT} (S:Sx s k n) (C:Cd d0 d1) (ht:t<(k.l.length:Int))
include S C ht
theorem akE (R:Rt d0 d1 t x) (hn: ¬20000<m) (ho:fB d1 t x=0) (ha:low (gQ d1 t x) 4=0):L 2004 [t,m,enc d0,enc d1,enc s,enc k,rX,vJ,ea,eb,enc s,enc k,x.a,enc x.lc,x.w,x.o,x.g,x.tr]=L 2004 [t,IntKind.i64.wrap (m+1),enc d0,enc d1,enc s,enc k,rX,vJ,ea,eb,enc s,enc k,(gW (Ins d1 t x) x).a,enc (gW (Ins d1 t x) x).lc,(gW (Ins d1 t x) x).w,(gW (Ins d1 t x) x).o,(gW (Ins d1 t x) x).g,(gW (Ins d1 t x) x).tr]:=by
 have hO:=sO (s:=s) (k:=fV k t x) (jO R.t0 ht x) (by rw [iG]; exact ht) R;have hN:=Ae (s:=s) (k:=fV k t x) C (jO R.t0 ht x) (by rw [iG]; exact ht) R;have Lc:=FK R ho ha;rw [ho] at hO;simp only [fV,KT.d,dU,fZ] at hO hN
 have hw:(gW (Ins d1 t x) x).w=x.w/\(gW (Ins d1 t x) x).o=x.o/\(gW (Ins d1 t x) x).g=x.g/\(gW (Ins d1 t x) x).tr=x.tr:=by
  unfold gW
  repeat' split
  all_goals exact⟨rfl,rfl,rfl,rfl⟩
 have hl:=X0 (s:=s) (k:=k) C ht R Lc
 have K:dY (foE d0 d1 s k t m rX vJ ea eb x) aeH= .jump 2004 [t,IntKind.i64.wrap (m+1),enc d0,enc d1,enc s,enc k,rX,vJ,ea,eb,enc s,enc k,(gW (Ins d1 t x) x).a,enc (gW (Ins d1 t x) x).lc,(gW (Ins d1 t x) x).w,(gW (Ins d1 t x) x).o,(gW (Ins d1 t x) x).g,(gW (Ins d1 t x) x).tr]:=by refine bC [.eq (a0 1650 uV) Q0,QM,.eq (a0 1750 uV) Q0,QL,.eq (a0 14000 Qrj) Q0,.eq (rr 14000 Qrj 0) Qa] [.lt (.lit 20000) Qb] (ju 2004 [Qf,vX,Qo,Qm,bD,bK,cZ,dX,fF,fK,jH,kP,rr 14000 Qrj 12,rr 14000 Qrj 13,qE,UH,Qfx,Qfr]) (by simp only [zz,hn,hO,hN,ha,hl]<;>omega) (by kernel_rfl) ?_;simp only [zz,hl,hw]
 rw [aP,atG];exact congrArg (fin L) K
theorem akD (R:Rt d0 d1 t x) (hn: ¬20000<m) (ho:fB d1 t x=0) {op obj arg tr trs e1 e2 e3 e4 e5 oc:Int} {s':D} (ha:gQ d1 t x= [op,obj,arg,tr,1]) (htr:trs=if rX=4/\ea=0 then 4611686018427387904 else 0)
 (A:Tried d0 d1 s t op obj arg trs n s' e1 e2 e3 e4 e5 oc):L 2004 [t,m,enc d0,enc d1,enc s,enc k,rX,vJ,ea,eb,enc s,enc k,x.a,enc x.lc,x.w,x.o,x.g,x.tr]=some (if oc≠0/\e1=t/\e2=rX/\e3=vJ/\e4=ea/\e5=eb then [enc s',enc (fV k t (jX (Ins d1 t x) x op e2 e3 e4 oc)),1] else [enc s,enc k,0]):=by
 have hcp:=Us S.st;have hO:=sO (s:=s) (k:=fV k t x) (jO R.t0 ht x) (by rw [iG]; exact ht) R;have hN:=Ae (s:=s) (k:=fV k t x) C (jO R.t0 ht x) (by rw [iG]; exact ht) R;rw [ho] at hO;rw [ha] at hN;simp only [fV,KT.d,dU,fZ] at hO hN
 have hx:x.w=0->x.a<(Nc d1 t:Int):=fun w0=>by unfold fB at ho;rw [aIR w0] at ho;have:=R.ok.2.1;unfold Nc at ho ⊢;split at ho<;>omega
 have hE:evT e1 e2 e3 e4 e5 oc= [e1,e2,e3,e4,e5]:=by
  unfold evT;split
  ·rename_i h0;obtain⟨_,rfl,rfl,rfl,rfl,rfl⟩:=A.no h0;rfl
  ·rfl
 have hl:=Xm (k:=k) C ht R A.eq (fun h=>(A.no h).1) hx;rw [hE] at hl;simp only [aI8,aI1] at hl
 have K:dY (foE d0 d1 s k t m rX vJ ea eb x) aeH= .out (if oc≠0/\e1=t/\e2=rX/\e3=vJ/\e4=ea/\e5=eb then [enc s',enc (fV k t (jX (Ins d1 t x) x op e2 e3 e4 oc)),1] else [enc s,enc k,0]):=by
  by_cases q4:rX=4
  ·by_cases qa:ea=0
   ·have et:trs=4611686018427387904:=by rw [htr,aIR ⟨q4,qa⟩]
    rw [et] at hl;by_cases o0:oc=0
    ·rw [aIQ (fun h=>h.1 o0)];refine bC [.eq (a0 1650 uV) Q0,QM,.eq (a0 1750 uV) Q0,.eq cZ tC,Zb,.eq (a0 14500 mD) Q0,.eq (rr 14500 mD 0) Qa,.eq (rr 14500 mD 21) Qa,.eq (a0 1900 [bD,bK]) Q0] [.lt (.lit 20000) Qb,QL] (ou [rr 1900 [bD,bK] 0,rr 1900 [bD,bK] 1,Qa]) (by simp only [zz,hn,hO,hN,hl,q4,qa,o0,hcp]<;>omega) (by kernel_rfl) ?_;simp only [zz,hcp]
    ·by_cases qe:e1=t/\e2=rX/\e3=vJ/\e4=ea/\e5=eb
     ·rw [aIR ⟨o0,qe⟩];refine bC [.eq (a0 1650 uV) Q0,QM,.eq (a0 1750 uV) Q0,.eq cZ tC,Zb,.eq (a0 14500 mD) Q0,.eq (rr 14500 mD 0) Qa,.and (.eq (rr 14500 mD 16) Qf) (.and (.eq (rr 14500 mD 17) cZ) (.and (.eq (rr 14500 mD 18) dX) (.and (.eq (rr 14500 mD 19) fF) (.eq (rr 14500 mD 20) fK))))] [.lt (.lit 20000) Qb,QL,.eq (rr 14500 mD 21) Qa] (ou [rr 14500 mD 22,.op .set kP (cn (mk Qf) (cn (mk (rr 14500 mD 23)) (cn (rr 14500 mD 24) (cn (mk (rr 14500 mD 25)) (cn (mk (rr 14500 mD 26)) (cn (mk (rr 14500 mD 27)) (cn (mk (rr 14500 mD 28)) jK))))))),Q0]) (by simp only [zz,hn,hO,hN,hl,q4,qa,o0,nG,qe,and_self,hcp]<;>omega) (by kernel_rfl) ?_;simp only [zz,hN,hl,fV,KT.d,dU,fZ]
     ·rw [aIQ (fun h=>qe h.2)];refine bC [.eq (a0 1650 uV) Q0,QM,.eq (a0 1750 uV) Q0,.eq cZ tC,Zb,.eq (a0 14500 mD) Q0,.eq (rr 14500 mD 0) Qa,.eq (a0 1900 [bD,bK]) Q0] [.lt (.lit 20000) Qb,QL,.eq (rr 14500 mD 21) Qa,.and (.eq (rr 14500 mD 16) Qf) (.and (.eq (rr 14500 mD 17) cZ) (.and (.eq (rr 14500 mD 18) dX) (.and (.eq (rr 14500 mD 19) fF) (.eq (rr 14500 mD 20) fK))))] (ou [rr 1900 [bD,bK] 0,rr 1900 [bD,bK] 1,Qa]) (by simp only [zz,hn,hO,hN,hl,q4,qa,o0,nG,qe,hcp]<;>omega) (by kernel_rfl) ?_;simp only [zz,hcp]
   ·have et:trs=0:=by rw [htr,aIQ (fun h=>qa h.2)]
    rw [et] at hl;by_cases o0:oc=0
    ·rw [aIQ (fun h=>h.1 o0)];refine bC [.eq (a0 1650 uV) Q0,QM,.eq (a0 1750 uV) Q0,.eq cZ tC,.eq (a0 14500 gV) Q0,.eq (rr 14500 gV 0) Qa,.eq (rr 14500 gV 21) Qa,.eq (a0 1900 [bD,bK]) Q0] [.lt (.lit 20000) Qb,QL,Zb] (ou [rr 1900 [bD,bK] 0,rr 1900 [bD,bK] 1,Qa]) (by simp only [zz,hn,hO,hN,hl,q4,qa,o0,hcp]<;>omega) (by kernel_rfl) ?_;simp only [zz,hcp]
    ·by_cases qe:e1=t/\e2=rX/\e3=vJ/\e4=ea/\e5=eb
     ·rw [aIR ⟨o0,qe⟩];refine bC [.eq (a0 1650 uV) Q0,QM,.eq (a0 1750 uV) Q0,.eq cZ tC,.eq (a0 14500 gV) Q0,.eq (rr 14500 gV 0) Qa,.and (.eq (rr 14500 gV 16) Qf) (.and (.eq (rr 14500 gV 17) cZ) (.and (.eq (rr 14500 gV 18) dX) (.and (.eq (rr 14500 gV 19) fF) (.eq (rr 14500 gV 20) fK))))] [.lt (.lit 20000) Qb,QL,Zb,.eq (rr 14500 gV 21) Qa] (ou [rr 14500 gV 22,.op .set kP (cn (mk Qf) (cn (mk (rr 14500 gV 23)) (cn (rr 14500 gV 24) (cn (mk (rr 14500 gV 25)) (cn (mk (rr 14500 gV 26)) (cn (mk (rr 14500 gV 27)) (cn (mk (rr 14500 gV 28)) jK))))))),Q0]) (by simp only [zz,hn,hO,hN,hl,q4,qa,o0,nG,qe,and_self,hcp]<;>omega) (by kernel_rfl) ?_;simp only [zz,hN,hl,fV,KT.d,dU,fZ]
     ·rw [aIQ (fun h=>qe h.2)];refine bC [.eq (a0 1650 uV) Q0,QM,.eq (a0 1750 uV) Q0,.eq cZ tC,.eq (a0 14500 gV) Q0,.eq (rr 14500 gV 0) Qa,.eq (a0 1900 [bD,bK]) Q0] [.lt (.lit 20000) Qb,QL,Zb,.eq (rr 14500 gV 21) Qa,.and (.eq (rr 14500 gV 16) Qf) (.and (.eq (rr 14500 gV 17) cZ) (.and (.eq (rr 14500 gV 18) dX) (.and (.eq (rr 14500 gV 19) fF) (.eq (rr 14500 gV 20) fK))))] (ou [rr 1900 [bD,bK] 0,rr 1900 [bD,bK] 1,Qa]) (by simp only [zz,hn,hO,hN,hl,q4,qa,o0,nG,qe,hcp]<;>omega) (by kernel_rfl) ?_;simp only [zz,hcp]
  ·have et:trs=0:=by rw [htr,aIQ (fun h=>q4 h.1)]
   rw [et] at hl;by_cases o0:oc=0
   ·rw [aIQ (fun h=>h.1 o0)];refine bC [.eq (a0 1650 uV) Q0,QM,.eq (a0 1750 uV) Q0,.eq (a0 14500 gV) Q0,.eq (rr 14500 gV 0) Qa,.eq (rr 14500 gV 21) Qa,.eq (a0 1900 [bD,bK]) Q0] [.lt (.lit 20000) Qb,QL,.eq cZ tC] (ou [rr 1900 [bD,bK] 0,rr 1900 [bD,bK] 1,Qa]) (by simp only [zz,hn,hO,hN,hl,q4,o0,hcp]<;>omega) (by kernel_rfl) ?_;simp only [zz,hcp]
   ·by_cases qe:e1=t/\e2=rX/\e3=vJ/\e4=ea/\e5=eb
    ·rw [aIR ⟨o0,qe⟩];refine bC [.eq (a0 1650 uV) Q0,QM,.eq (a0 1750 uV) Q0,.eq (a0 14500 gV) Q0,.eq (rr 14500 gV 0) Qa,.and (.eq (rr 14500 gV 16) Qf) (.and (.eq (rr 14500 gV 17) cZ) (.and (.eq (rr 14500 gV 18) dX) (.and (.eq (rr 14500 gV 19) fF) (.eq (rr 14500 gV 20) fK))))] [.lt (.lit 20000) Qb,QL,.eq cZ tC,.eq (rr 14500 gV 21) Qa] (ou [rr 14500 gV 22,.op .set kP (cn (mk Qf) (cn (mk (rr 14500 gV 23)) (cn (rr 14500 gV 24) (cn (mk (rr 14500 gV 25)) (cn (mk (rr 14500 gV 26)) (cn (mk (rr 14500 gV 27)) (cn (mk (rr 14500 gV 28)) jK))))))),Q0]) (by simp only [zz,hn,hO,hN,hl,q4,o0,nG,qe,and_self,hcp]<;>omega) (by kernel_rfl) ?_;simp only [zz,hN,hl,fV,KT.d,dU,fZ]
    ·rw [aIQ (fun h=>qe h.2)];refine bC [.eq (a0 1650 uV) Q0,QM,.eq (a0 1750 uV) Q0,.eq (a0 14500 gV) Q0,.eq (rr 14500 gV 0) Qa,.eq (a0 1900 [bD,bK]) Q0] [.lt (.lit 20000) Qb,QL,.eq cZ tC,.eq (rr 14500 gV 21) Qa,.and (.eq (rr 14500 gV 16) Qf) (.and (.eq (rr 14500 gV 17) cZ) (.and (.eq (rr 14500 gV 18) dX) (.and (.eq (rr 14500 gV 19) fF) (.eq (rr 14500 gV 20) fK))))] (ou [rr 1900 [bD,bK] 0,rr 1900 [bD,bK] 1,Qa]) (by simp only [zz,hn,hO,hN,hl,q4,o0,nG,qe,hcp]<;>omega) (by kernel_rfl) ?_;simp only [zz,hcp]
 rw [aP,atG];exact congrArg (fin L) K
theorem akC (R:Rt d0 d1 t x) (hz:x.lc.l.length=0) (hn: ¬20000<m) (ho:fB d1 t x=0) (ha:low (gQ d1 t x) 4=0):L 2005 [t,m,enc d0,enc d1,enc s,enc k,rX,vJ,ea,eb,enc s,enc k,x.a,enc x.lc,x.w,x.o,x.g,x.tr]=L 2005 [t,IntKind.i64.wrap (m+1),enc d0,enc d1,enc s,enc k,rX,vJ,ea,eb,enc s,enc k,(gW (Ins d1 t x) x).a,enc (gW (Ins d1 t x) x).lc,(gW (Ins d1 t x) x).w,(gW (Ins d1 t x) x).o,(gW (Ins d1 t x) x).g,(gW (Ins d1 t x) x).tr]:=by
 have hO:=sO (s:=s) (k:=fV k t x) (jO R.t0 ht x) (by rw [iG]; exact ht) R;have hN:=Ae (s:=s) (k:=fV k t x) C (jO R.t0 ht x) (by rw [iG]; exact ht) R;have Lc:=FK R ho ha;rw [ho] at hO;simp only [fV,KT.d,dU,fZ] at hO hN
 have hw:(gW (Ins d1 t x) x).w=x.w/\(gW (Ins d1 t x) x).o=x.o/\(gW (Ins d1 t x) x).g=x.g/\(gW (Ins d1 t x) x).tr=x.tr:=by
  unfold gW
  repeat' split
  all_goals exact⟨rfl,rfl,rfl,rfl⟩
 obtain⟨hl,hc⟩:=XZ (s:=s) (k:=k) C ht R Lc hz
 have K:dY (foE d0 d1 s k t m rX vJ ea eb x) aeG= .jump 2005 [t,IntKind.i64.wrap (m+1),enc d0,enc d1,enc s,enc k,rX,vJ,ea,eb,enc s,enc k,(gW (Ins d1 t x) x).a,enc (gW (Ins d1 t x) x).lc,(gW (Ins d1 t x) x).w,(gW (Ins d1 t x) x).o,(gW (Ins d1 t x) x).g,(gW (Ins d1 t x) x).tr]:=by refine bC [.eq (a0 1650 uV) Q0,QM,.eq (a0 1750 uV) Q0,QL,.eq (a0 14050 Qrj) Q0,.eq (rr 14050 Qrj 0) Qa] [.lt (.lit 20000) Qb] (ju 2005 [Qf,vX,Qo,Qm,bD,bK,cZ,dX,fF,fK,jH,kP,rr 14050 Qrj 12,mV,qE,UH,Qfx,Qfr]) (by simp only [zz,hn,hO,hN,ha,hl]<;>omega) (by kernel_rfl) ?_;simp only [zz,hl,hw,hc]
 rw [aP,atF];exact congrArg (fin L) K
theorem akB (R:Rt d0 d1 t x) (hz:x.lc.l.length=0) (hn: ¬20000<m) (ho:fB d1 t x=0) {op obj arg tr trs e1 e2 e3 e4 e5 oc:Int} {s':D} (ha:gQ d1 t x= [op,obj,arg,tr,1]) (htr:trs=if rX=4/\ea=0 then 4611686018427387904 else 0)
 (A:Tried d0 d1 s t op obj arg trs n s' e1 e2 e3 e4 e5 oc):L 2005 [t,m,enc d0,enc d1,enc s,enc k,rX,vJ,ea,eb,enc s,enc k,x.a,enc x.lc,x.w,x.o,x.g,x.tr]=some (if oc≠0/\e1=t/\e2=rX/\e3=vJ/\e4=ea/\e5=eb then [enc s',enc (fV k t (jX (Ins d1 t x) x op e2 e3 e4 oc)),1] else [enc s,enc k,0]):=by
 have hcp:=Us S.st;have hO:=sO (s:=s) (k:=fV k t x) (jO R.t0 ht x) (by rw [iG]; exact ht) R;have hN:=Ae (s:=s) (k:=fV k t x) C (jO R.t0 ht x) (by rw [iG]; exact ht) R;rw [ho] at hO;rw [ha] at hN;simp only [fV,KT.d,dU,fZ] at hO hN
 have hx:x.w=0->x.a<(Nc d1 t:Int):=fun w0=>by unfold fB at ho;rw [aIR w0] at ho;have:=R.ok.2.1;unfold Nc at ho ⊢;split at ho<;>omega
 have hE:evT e1 e2 e3 e4 e5 oc= [e1,e2,e3,e4,e5]:=by
  unfold evT;split
  ·rename_i h0;obtain⟨_,rfl,rfl,rfl,rfl,rfl⟩:=A.no h0;rfl
  ·rfl
 obtain⟨hl,hc⟩:=Xl (k:=k) C ht R A.eq (fun h=>(A.no h).1) hx hz;rw [hE] at hl;simp only [aI8,aI1] at hl
 have K:dY (foE d0 d1 s k t m rX vJ ea eb x) aeG= .out (if oc≠0/\e1=t/\e2=rX/\e3=vJ/\e4=ea/\e5=eb then [enc s',enc (fV k t (jX (Ins d1 t x) x op e2 e3 e4 oc)),1] else [enc s,enc k,0]):=by
  by_cases q4:rX=4
  ·by_cases qa:ea=0
   ·have et:trs=4611686018427387904:=by rw [htr,aIR ⟨q4,qa⟩]
    rw [et] at hl;by_cases o0:oc=0
    ·rw [aIQ (fun h=>h.1 o0)];refine bC [.eq (a0 1650 uV) Q0,QM,.eq (a0 1750 uV) Q0,.eq cZ tC,Zb,.eq (a0 14550 mD) Q0,.eq (rr 14550 mD 0) Qa,.eq (rr 14550 mD 21) Qa,.eq (a0 1900 [bD,bK]) Q0] [.lt (.lit 20000) Qb,QL] (ou [rr 1900 [bD,bK] 0,rr 1900 [bD,bK] 1,Qa]) (by simp only [zz,hn,hO,hN,hl,q4,qa,o0,hcp]<;>omega) (by kernel_rfl) ?_;simp only [zz,hcp]
    ·by_cases qe:e1=t/\e2=rX/\e3=vJ/\e4=ea/\e5=eb
     ·rw [aIR ⟨o0,qe⟩];refine bC [.eq (a0 1650 uV) Q0,QM,.eq (a0 1750 uV) Q0,.eq cZ tC,Zb,.eq (a0 14550 mD) Q0,.eq (rr 14550 mD 0) Qa,.and (.eq (rr 14550 mD 16) Qf) (.and (.eq (rr 14550 mD 17) cZ) (.and (.eq (rr 14550 mD 18) dX) (.and (.eq (rr 14550 mD 19) fF) (.eq (rr 14550 mD 20) fK))))] [.lt (.lit 20000) Qb,QL,.eq (rr 14550 mD 21) Qa] (ou [rr 14550 mD 22,.op .set kP (cn (mk Qf) (cn (mk (rr 14550 mD 23)) (cn mV (cn (mk (rr 14550 mD 24)) (cn (mk (rr 14550 mD 25)) (cn (mk (rr 14550 mD 26)) (cn (mk (rr 14550 mD 27)) jK))))))),Q0]) (by simp only [zz,hn,hO,hN,hl,q4,qa,o0,nG,qe,and_self,hcp]<;>omega) (by kernel_rfl) ?_;simp only [zz,hN,hl,fV,KT.d,dU,fZ,hc]
     ·rw [aIQ (fun h=>qe h.2)];refine bC [.eq (a0 1650 uV) Q0,QM,.eq (a0 1750 uV) Q0,.eq cZ tC,Zb,.eq (a0 14550 mD) Q0,.eq (rr 14550 mD 0) Qa,.eq (a0 1900 [bD,bK]) Q0] [.lt (.lit 20000) Qb,QL,.eq (rr 14550 mD 21) Qa,.and (.eq (rr 14550 mD 16) Qf) (.and (.eq (rr 14550 mD 17) cZ) (.and (.eq (rr 14550 mD 18) dX) (.and (.eq (rr 14550 mD 19) fF) (.eq (rr 14550 mD 20) fK))))] (ou [rr 1900 [bD,bK] 0,rr 1900 [bD,bK] 1,Qa]) (by simp only [zz,hn,hO,hN,hl,q4,qa,o0,nG,qe,hcp]<;>omega) (by kernel_rfl) ?_;simp only [zz,hcp]
   ·have et:trs=0:=by rw [htr,aIQ (fun h=>qa h.2)]
    rw [et] at hl;by_cases o0:oc=0
    ·rw [aIQ (fun h=>h.1 o0)];refine bC [.eq (a0 1650 uV) Q0,QM,.eq (a0 1750 uV) Q0,.eq cZ tC,.eq (a0 14550 gV) Q0,.eq (rr 14550 gV 0) Qa,.eq (rr 14550 gV 21) Qa,.eq (a0 1900 [bD,bK]) Q0] [.lt (.lit 20000) Qb,QL,Zb] (ou [rr 1900 [bD,bK] 0,rr 1900 [bD,bK] 1,Qa]) (by simp only [zz,hn,hO,hN,hl,q4,qa,o0,hcp]<;>omega) (by kernel_rfl) ?_;simp only [zz,hcp]
    ·by_cases qe:e1=t/\e2=rX/\e3=vJ/\e4=ea/\e5=eb
     ·rw [aIR ⟨o0,qe⟩];refine bC [.eq (a0 1650 uV) Q0,QM,.eq (a0 1750 uV) Q0,.eq cZ tC,.eq (a0 14550 gV) Q0,.eq (rr 14550 gV 0) Qa,.and (.eq (rr 14550 gV 16) Qf) (.and (.eq (rr 14550 gV 17) cZ) (.and (.eq (rr 14550 gV 18) dX) (.and (.eq (rr 14550 gV 19) fF) (.eq (rr 14550 gV 20) fK))))] [.lt (.lit 20000) Qb,QL,Zb,.eq (rr 14550 gV 21) Qa] (ou [rr 14550 gV 22,.op .set kP (cn (mk Qf) (cn (mk (rr 14550 gV 23)) (cn mV (cn (mk (rr 14550 gV 24)) (cn (mk (rr 14550 gV 25)) (cn (mk (rr 14550 gV 26)) (cn (mk (rr 14550 gV 27)) jK))))))),Q0]) (by simp only [zz,hn,hO,hN,hl,q4,qa,o0,nG,qe,and_self,hcp]<;>omega) (by kernel_rfl) ?_;simp only [zz,hN,hl,fV,KT.d,dU,fZ,hc]
     ·rw [aIQ (fun h=>qe h.2)];refine bC [.eq (a0 1650 uV) Q0,QM,.eq (a0 1750 uV) Q0,.eq cZ tC,.eq (a0 14550 gV) Q0,.eq (rr 14550 gV 0) Qa,.eq (a0 1900 [bD,bK]) Q0] [.lt (.lit 20000) Qb,QL,Zb,.eq (rr 14550 gV 21) Qa,.and (.eq (rr 14550 gV 16) Qf) (.and (.eq (rr 14550 gV 17) cZ) (.and (.eq (rr 14550 gV 18) dX) (.and (.eq (rr 14550 gV 19) fF) (.eq (rr 14550 gV 20) fK))))] (ou [rr 1900 [bD,bK] 0,rr 1900 [bD,bK] 1,Qa]) (by simp only [zz,hn,hO,hN,hl,q4,qa,o0,nG,qe,hcp]<;>omega) (by kernel_rfl) ?_;simp only [zz,hcp]
  ·have et:trs=0:=by rw [htr,aIQ (fun h=>q4 h.1)]
   rw [et] at hl;by_cases o0:oc=0
   ·rw [aIQ (fun h=>h.1 o0)];refine bC [.eq (a0 1650 uV) Q0,QM,.eq (a0 1750 uV) Q0,.eq (a0 14550 gV) Q0,.eq (rr 14550 gV 0) Qa,.eq (rr 14550 gV 21) Qa,.eq (a0 1900 [bD,bK]) Q0] [.lt (.lit 20000) Qb,QL,.eq cZ tC] (ou [rr 1900 [bD,bK] 0,rr 1900 [bD,bK] 1,Qa]) (by simp only [zz,hn,hO,hN,hl,q4,o0,hcp]<;>omega) (by kernel_rfl) ?_;simp only [zz,hcp]
   ·by_cases qe:e1=t/\e2=rX/\e3=vJ/\e4=ea/\e5=eb
    ·rw [aIR ⟨o0,qe⟩];refine bC [.eq (a0 1650 uV) Q0,QM,.eq (a0 1750 uV) Q0,.eq (a0 14550 gV) Q0,.eq (rr 14550 gV 0) Qa,.and (.eq (rr 14550 gV 16) Qf) (.and (.eq (rr 14550 gV 17) cZ) (.and (.eq (rr 14550 gV 18) dX) (.and (.eq (rr 14550 gV 19) fF) (.eq (rr 14550 gV 20) fK))))] [.lt (.lit 20000) Qb,QL,.eq cZ tC,.eq (rr 14550 gV 21) Qa] (ou [rr 14550 gV 22,.op .set kP (cn (mk Qf) (cn (mk (rr 14550 gV 23)) (cn mV (cn (mk (rr 14550 gV 24)) (cn (mk (rr 14550 gV 25)) (cn (mk (rr 14550 gV 26)) (cn (mk (rr 14550 gV 27)) jK))))))),Q0]) (by simp only [zz,hn,hO,hN,hl,q4,o0,nG,qe,and_self,hcp]<;>omega) (by kernel_rfl) ?_;simp only [zz,hN,hl,fV,KT.d,dU,fZ,hc]
    ·rw [aIQ (fun h=>qe h.2)];refine bC [.eq (a0 1650 uV) Q0,QM,.eq (a0 1750 uV) Q0,.eq (a0 14550 gV) Q0,.eq (rr 14550 gV 0) Qa,.eq (a0 1900 [bD,bK]) Q0] [.lt (.lit 20000) Qb,QL,.eq cZ tC,.eq (rr 14550 gV 21) Qa,.and (.eq (rr 14550 gV 16) Qf) (.and (.eq (rr 14550 gV 17) cZ) (.and (.eq (rr 14550 gV 18) dX) (.and (.eq (rr 14550 gV 19) fF) (.eq (rr 14550 gV 20) fK))))] (ou [rr 1900 [bD,bK] 0,rr 1900 [bD,bK] 1,Qa]) (by simp only [zz,hn,hO,hN,hl,q4,o0,nG,qe,hcp]<;>omega) (by kernel_rfl) ?_;simp only [zz,hcp]
 rw [aP,atF];exact congrArg (fin L) K
end
section
variable {d0 d1 s k:D} {t:Int} {n:Nat} {rX vJ ea eb:Int} (S:Sx s k n) (hn:n<17592186043904) (C:Cd d0 d1) (ht:t<(k.l.length:Int))
include S hn C ht
end
section
variable {d0 d1 s k:D} {t:Int} {n:Nat} {rX vJ ea eb:Int} (S:Sx s k n) (hn:n<17592186043904) (h0:Wd (.sl 3) d0) (h1:Wd (.sl 4) d1)
noncomputable abbrev fcE (d0 d1 s k:D) (t rX vJ ea eb:Int):Nat->Int:=bT L (low [enc d0,enc d1,enc s,enc k,t,rX,vJ,ea,eb])
include S
include hn h0 h1
end
section
variable {d0 d1:D} (h0:Wd (.sl 3) d0) (h1:Wd (.sl 4) d1)
include h0 h1
end
theorem akZ {M mo th op arg tries aC5 o c dn g:Int} {r v:D} (h:op≠4):act M mo th op arg tries o c dn g r v=act M mo th op arg aC5 o c dn g r v:=by unfold act;simp only [aIQ h]
theorem Y7 {M mo th arg tries o c dn g:Int} {r v:D}:act M mo th 4 arg tries o c dn g r v=if o<0 then .res th c dn g r v none 1 2 else if tries<arg then .blk else .res o c dn g r v none 0 2:=rfl
theorem amF {x:D} {o c dn g o' c' IU g':Int} {r v r' v':D} (T:Tg x o c dn g r v) (T':Tg x o' c' IU g' r' v'):o=o'/\c=c'/\dn=IU/\g=g'/\r=r'/\v=v':=by have h:=T.is.symm.trans T'.is;simp only [dU,fZ,D.p.injEq,D.i.injEq,and_true] at h;exact h
abbrev frT (rX ea:Int):Int:=if rX=4/\ea=0 then 4611686018427387904 else 0
section
variable {d0 d1 s s':D} {t op obj arg tr e1 e2 e3 e4 e5 oc:Int} {n:Nat} (h0:Wd (.sl 3) d0) (h1:Wd (.sl 4) d1) (G:Gs s n) (hn:n<17592186043904) (hop:iW .u8 op) (A:Tried d0 d1 s t op obj arg tr n s' e1 e2 e3 e4 e5 oc)
include h0 h1 G hn hop A
theorem ahZ (h:op≠4) (tries:Int):Tried d0 d1 s t op obj arg tries n s' e1 e2 e3 e4 e5 oc:=by
 refine⟨?_,A.no,A.oc3,A.gs,A.len,A.n2,A.e3,A.e4⟩;have hf:=G.few (by omega:n<17592186044415)
 have e:L 400 [enc d0,enc d1,enc s,t,op,obj,arg,tries]=L 400 [enc d0,enc d1,enc s,t,op,obj,arg,tr]:=by
  by_cases hA:Acc d0 d1 s t op obj
  ·obtain⟨_,o,c,dn,g,r,v,T,hL⟩:=zO (arg:=arg) (tries:=tries) h0 h1 G.wd hf hop hA;obtain⟨_,o',c',IU,g',r',v',T',hL'⟩:=zO (arg:=arg) (tries:=tr) h0 h1 G.wd hf hop hA;obtain⟨rfl,rfl,rfl,rfl,rfl,rfl⟩:=amF T T';rw [hL,hL',akZ h]
  ·rw [MK h0 h1 G.wd hf hop hA,MK h0 h1 G.wd hf hop hA]
 rw [e];exact A.eq
theorem ZA (h:op=4) (hoc:oc≠0) (hr:tr<=4611686018427387904):e2=4/\Tried d0 d1 s t op obj arg (frT e2 e4) n s' e1 e2 e3 e4 e5 oc:=by
 subst h;have hf:=G.few (by omega:n<17592186044415);have hE:=A.eq;by_cases hA:Acc d0 d1 s t 4 obj
 ·obtain⟨_,o,c,dn,g,r,v,T,hL⟩:=zO (arg:=arg) (tries:=tr) h0 h1 G.wd hf hop hA;obtain⟨_,o',c',IU,g',r',v',T',hL'⟩:=zO (arg:=arg) (tries:=frT e2 e4) h0 h1 G.wd hf hop hA;obtain⟨rfl,rfl,rfl,rfl,rfl,rfl⟩:=amF T T';rw [hE,GN,Y7] at hL;rw [GN,Y7] at hL';by_cases ho:o<0
  ·rw [aIR ho] at hL hL';rw [<- hL] at hL';simp only [evA,aIS,List.cons.injEq,and_true] at hL;obtain⟨_,_,rfl,_⟩:=hL;exact⟨rfl,hL',A.no,A.oc3,A.gs,A.len,A.n2,A.e3,A.e4⟩
  ·rw [aIQ ho] at hL hL';by_cases hta:tr<arg
   ·rw [aIR hta] at hL;simp only [evA,aIS,List.cons.injEq,and_true] at hL;exact absurd hL.2.2.2.2.2.2 hoc
   ·rw [aIQ hta] at hL;have hL2:=hL;simp only [evA,aIS,List.cons.injEq,and_true] at hL;obtain⟨_,_,rfl,_,rfl,_⟩:=hL
    have hq: ¬(frT 4 0)<arg:=by have:frT 4 0=4611686018427387904:=rfl;omega
    rw [aIQ hq,<- hL2] at hL';exact⟨rfl,hL',A.no,A.oc3,A.gs,A.len,A.n2,A.e3,A.e4⟩
 ·rw [MK h0 h1 G.wd hf hop hA] at hE;simp only [aIS,List.cons.injEq,and_true] at hE;exact absurd hE.2.2.2.2.2.2.symm hoc
theorem Xn (hoc:oc≠0) (hr:tr<=4611686018427387904):Tried d0 d1 s t op obj arg (frT e2 e4) n s' e1 e2 e3 e4 e5 oc:=by
 by_cases h:op=4
 ·exact (ZA h0 h1 G hn hop A h hoc hr).2
 ·exact ahZ h0 h1 G hn hop A h _
end
inductive uT (d1:D) (t:Int):Nat->KT->KT->Prop
 |zero (x:KT):uT d1 t 0 x x
 |succ (j:Nat) (x y:KT) (ho:fB d1 t x=0) (ha:low (gQ d1 t x) 4=0) (h:uT d1 t j (gW (Ins d1 t x) x) y):uT d1 t (j+1) x y
theorem uT.snoc {d1:D} {t:Int} {j:Nat} {x y:KT} (h:uT d1 t j x y) (ho:fB d1 t y=0) (ha:low (gQ d1 t y) 4=0):uT d1 t (j+1) x (gW (Ins d1 t y) y):=by
 induction h with
 |zero x=>exact .succ 0 x _ ho ha (.zero _)
 |succ j x y ho' ha' _ ih=>exact .succ _ x _ ho' ha' (ih ho ha)
section
variable {d0 d1 s k:D} {t:Int} {n:Nat} {rX vJ ea eb:Int} (S:Sx s k n) (C:Cd d0 d1) (ht:t<(k.l.length:Int))
include S C ht
theorem aDA {j:Nat} {x y:KT} (h:uT d1 t j x y): ∀m:Nat,m+j<=20000->Rt d0 d1 t x->L 2004 [t,(m:Int),enc d0,enc d1,enc s,enc k,rX,vJ,ea,eb,enc s,enc k,x.a,enc x.lc,x.w,x.o,x.g,x.tr]=L 2004 [t,((m+j:Nat):Int),enc d0,enc d1,enc s,enc k,rX,vJ,ea,eb,enc s,enc k,y.a,enc y.lc,y.w,y.o,y.g,y.tr]/\Rt d0 d1 t y:=by
 induction h with
 |zero x=>exact fun m _ R=> ⟨rfl,R⟩
 |succ j x y ho ha _ ih=> intro m hm R;have R':=(G6 C ht R (FK R ho ha)).1;obtain⟨q1,q2⟩:=ih (m+1) (by omega) R';rw [akE S C ht R (by omega) ho ha,aZ (n:=m) (by omega),q1,show m+1+j=m+(j+1) by omega];exact⟨rfl,q2⟩
theorem aDz {j:Nat} {x y:KT} (h:uT d1 t j x y): ∀m:Nat,m+j<=20000->Rt d0 d1 t x->x.lc.l.length=0->L 2005 [t,(m:Int),enc d0,enc d1,enc s,enc k,rX,vJ,ea,eb,enc s,enc k,x.a,enc x.lc,x.w,x.o,x.g,x.tr]=L 2005 [t,((m+j:Nat):Int),enc d0,enc d1,enc s,enc k,rX,vJ,ea,eb,enc s,enc k,y.a,enc y.lc,y.w,y.o,y.g,y.tr]/\Rt d0 d1 t y/\y.lc.l.length=0:=by
 induction h with
 |zero x=>exact fun m _ R hz=> ⟨rfl,R,hz⟩
 |succ j x y ho ha _ ih=> intro m hm R hz;obtain⟨R',hl⟩:=G6 C ht R (FK R ho ha);obtain⟨q1,q2,q3⟩:=ih (m+1) (by omega) R' (by omega);rw [akC S C ht R hz (by omega) ho ha,aZ (n:=m) (by omega),q1,show m+1+j=m+(j+1) by omega];exact⟨rfl,q2,q3⟩
end
section
variable {d0 d1 s k:D} {t:Int} {n:Nat} {rX vJ ea eb:Int} {x:KT} (S:Sx s k n) (R:Rs d0 d1 s k t x)
include S R
theorem azV (hp:0<x.lc.l.length):L 2000 [enc d0,enc d1,enc s,enc k,t,rX,vJ,ea,eb]=L 2004 [t,0,enc d0,enc d1,enc s,enc k,rX,vJ,ea,eb,enc s,enc k,x.a,enc x.lc,x.w,x.o,x.g,x.tr]:=by
 have h:=R.cp S;have hR:=R.yes;have ha:Dv x.lc=3:=aIR hp;rw [ha] at h
 have K:dY (fcE d0 d1 s k t rX vJ ea eb) aeI= .jump 2004 [t,0,enc d0,enc d1,enc s,enc k,rX,vJ,ea,eb,enc s,enc k,x.a,enc x.lc,x.w,x.o,x.g,x.tr]:=by refine bC [.eq (a0 9050 QD) Q0,.eq rV wS,MC] [.eq rV Qa,.eq rV Q0,.eq rV nK,MB] (ju 2004 Qq9) (by simp only [zz,h,hR]<;>omega) (by kernel_rfl) ?_;simp only [zz,h]
 rw [aP,atH];exact congrArg (fin L) K
theorem azU (hp:x.lc.l.length=0):L 2000 [enc d0,enc d1,enc s,enc k,t,rX,vJ,ea,eb]=L 2005 [t,0,enc d0,enc d1,enc s,enc k,rX,vJ,ea,eb,enc s,enc k,x.a,enc x.lc,x.w,x.o,x.g,x.tr]:=by
 have h:=R.cp S;have hR:=R.yes;have ha:Dv x.lc=4:=aIQ (by omega);rw [ha] at h
 have K:dY (fcE d0 d1 s k t rX vJ ea eb) aeI= .jump 2005 [t,0,enc d0,enc d1,enc s,enc k,rX,vJ,ea,eb,enc s,enc k,x.a,enc x.lc,x.w,x.o,x.g,x.tr]:=by refine bC [.eq (a0 9050 QD) Q0,.eq rV tC,MC] [.eq rV Qa,.eq rV Q0,.eq rV nK,.eq rV wS,MB] (ju 2005 Qq9) (by simp only [zz,h,hR]<;>omega) (by kernel_rfl) ?_;simp only [zz,h]
 rw [aP,atH];exact congrArg (fin L) K
theorem arI {j:Nat} {y:KT} (hj:j<=20000) (hl:uT d1 t j x y) (ho:fB d1 t y=0) {op obj arg tr e1 e2 e3 e4 e5 oc:Int} {s':D} (ha:gQ d1 t y= [op,obj,arg,tr,1]) (A:Tried d0 d1 s t op obj arg (frT rX ea) n s' e1 e2 e3 e4 e5 oc) :
 L 2000 [enc d0,enc d1,enc s,enc k,t,rX,vJ,ea,eb]=some (if oc≠0/\e1=t/\e2=rX/\e3=vJ/\e4=ea/\e5=eb then [enc s',enc (fV k t (jX (Ins d1 t y) y op e2 e3 e4 oc)),1] else [enc s,enc k,0]):=by
 by_cases hp:0<x.lc.l.length
 ·obtain⟨q1,q2⟩:=aDA (rX:=rX) (vJ:=vJ) (ea:=ea) (eb:=eb) S R.c R.ht hl 0 (by omega) R.r;rw [aJy] at q1;rw [azV S R hp,q1];exact akD S R.c R.ht q2 (by omega) ho ha rfl A
 ·obtain⟨q1,q2,q3⟩:=aDz (rX:=rX) (vJ:=vJ) (ea:=ea) (eb:=eb) S R.c R.ht hl 0 (by omega) R.r (by omega);rw [aJy] at q1;rw [azU S R (by omega),q1];exact akB S R.c R.ht q2 q3 (by omega) ho ha rfl A
end
theorem uT.det {d1:D} {t:Int} {j:Nat} {x y:KT} (h:uT d1 t j x y): ∀{i:Nat} {z:KT},uT d1 t i x z->j<=i->uT d1 t (i-j) y z:=by
 induction h with
 |zero x=>exact fun h' _=>h'
 |succ j x y ho ha _ ih=>
  intro i z h' hij
  cases h' with
  |zero=>omega
  |succ i _ _ ho' ha' h2=> have:=ih h2 (by omega);rw [show i+1-(j+1)=i-j by omega];exact this
def awI (d1:D) (t:Int) (y:KT):Prop:= ¬(fB d1 t y=0/\low (gQ d1 t y) 4=0)
theorem uT.le {d1:D} {t:Int} {j i:Nat} {x y z:KT} (h:uT d1 t j x y) (h':uT d1 t i x z) (hz:awI d1 t z):j<=i:=by
 rcases aJb i j with hlt|hge
 ·have q:=h'.det h (by omega);obtain⟨m,hm⟩ : ∃m,j-i=m+1:=⟨j-i-1,by omega⟩;rw [hm] at q
  cases q with
  |succ _ _ _ ho ha _=>exact absurd ⟨ho,ha⟩ hz
 ·exact hge
theorem uT.stop {d1:D} {t:Int} {j i:Nat} {x y z:KT} (h:uT d1 t j x y) (h':uT d1 t i x z) (hy:awI d1 t y) (hz:awI d1 t z):j=i/\y=z:=by have e:j=i:=Nat.le_antisymm (h.le h' hz) (h'.le h hy);subst e;have q:=h.det h' (aIV _);rw [aKY] at q;cases q;exact⟨rfl,rfl⟩
theorem aaR (I:D) (x:KT):(gW I x).w=x.w/\(gW I x).o=x.o/\(gW I x).g=x.g/\(gW I x).tr=x.tr:=by
 unfold gW
 repeat' split
 all_goals exact⟨rfl,rfl,rfl,rfl⟩
theorem uT.keeps {d1:D} {t:Int} {j:Nat} {x y:KT} (h:uT d1 t j x y):y.w=x.w/\y.o=x.o/\y.g=x.g/\y.tr=x.tr:=by
 induction h with
 |zero x=>exact⟨rfl,rfl,rfl,rfl⟩
 |succ j x y ho ha _ ih=> obtain⟨a,b,c,d⟩:=aaR (Ins d1 t x) x;obtain⟨a',b',c',d'⟩:=ih;exact⟨a'.trans a,b'.trans b,c'.trans c,d'.trans d⟩
theorem ahV {d1:D} {t:Int} {x:KT} (h:low (gQ d1 t x) 4=0):x.w=0:=by
 by_cases w:x.w=0
 ·exact w
 ·unfold gQ at h;rw [aIQ w] at h;simp [low] at h
theorem uT.w0 {d1:D} {t:Int} {j:Nat} {x y:KT} (h:uT d1 t j x y) (hw:x.w≠0):j=0/\y=x:=by
 cases h with
 |zero=>exact⟨rfl,rfl⟩
 |succ j _ _ ho ha _=>exact absurd (ahV ha) hw
structure ClR (J:Nat->Int) (c c':D):Prop where
 len:c.l.length=c'.l.length
 at': ∀u:Nat,u<c.l.length->(c'.at (u:Int)).n=(c.at (u:Int)).n+J u
theorem XD {J J':Nat->Int} {c c':D} (h:ClR J c c') (z v v':Int) (hJ: ∀u:Nat,(u:Int)≠z->J' u=J u) (hv: ∀u:Nat,(u:Int)=z->v'=v+J' u):ClR J' (dL (dZ c.l z (.i v))) (dL (dZ c'.l z (.i v'))):=by
 refine⟨by rw [aW,aW,dQ,dQ,h.len],fun u hu=>?_⟩;rw [aW,dQ] at hu;rw [WR c z v hu,WR c' z v' (by rw [<- h.len]; exact hu)];by_cases hz:(u:Int)=z
 ·rw [aIR hz,aIR hz,hv u hz]
 ·rw [aIQ hz,aIQ hz,h.at' u hu,hJ u hz]
theorem PY {J:Nat->Int} {c c':D} (h:ClR J c c') (u n:Int) (hJ: ∀v:Nat,(v:Int)=u->J v=0):ClR J (bump c u n) (bump c' u n):=by
 refine XD h u _ _ (fun _ _=>rfl) fun v hv=>?_;rw [hJ v hv,aLt];by_cases hl:v<c.l.length
 ·have:=h.at' v hl;rw [hJ v hv,aLt,hv] at this;rw [this]
 ·have e1:c.at u= .i 0:=by rw [<- hv,lJ,aJH (by omega)]; rfl
  have e2:c'.at u= .i 0:=by rw [<- hv,lJ,aJH (by have:=h.len; omega)]; rfl
  rw [e1,e2]
theorem acY {J:Nat->Int} {n:Int}: ∀(l:List D) {c c':D},ClR J c c'->(∀x∈l,∀v:Nat,(v:Int)=x.n->J v=0)->ClR J (wkB n l c) (wkB n l c')
 |[],_,_,h,_=>h
 |x::l,_,_,h,hJ=>acY l (PY h x.n n (hJ x (by simp))) fun y hy=>hJ y (by simp [hy])
theorem adA {J:Nat->Int} {o g n:Int}: ∀(l l':List D) (i:Nat) {c c':D},ClR J c c'->l.length=l'.length->(∀(q:Nat) (a b:D),l[q]?=some a->l'[q]?=some b->(a.hd 2).n=(b.hd 2).n/\(a.hd 3).n=(b.hd 3).n/\(a.hd 4).n=(b.hd 4).n/\((a.hd 2).n=25->J (i+q)=0))->
 ClR J (wkA o g n l i c) (wkA o g n l' i c')
 |[],[],_,_,_,h,_,_=>h
 |[],b::l',_,_,_,_,hl,_=>by simp at hl
 |a::l,[],_,_,_,_,hl,_=>by simp at hl
 |a::l,b::l',i,c,c',h,hl,hq=>by
  obtain⟨q2,q3,q4,qJ⟩:=hq 0 a b rfl rfl;unfold wkA;rw [q2,q3,q4];refine adA l l' (i+1) ?_ (by simpa using hl) fun q a' b' ha hb=>?_
  ·by_cases hm:(b.hd 2).n=25/\(b.hd 3).n=o/\(b.hd 4).n=g
   ·rw [aIR hm,aIR hm];refine PY h _ _ fun v hv=>?_;obtain rfl:v=i:=by omega
    exact qJ (by rw [q2]; exact hm.1)
   ·rw [aIQ hm,aIQ hm];exact h
  ·obtain⟨r2,r3,r4,rJ⟩:=hq (q+1) a' b' (by simpa using ha) (by simpa using hb);exact⟨r2,r3,r4,fun h=>by rw [show i+1+q=i+(q+1) by omega]; exact rJ h⟩
theorem awQ {J:Nat->Int} {s s' k k' c c':D} {e2 e3 e4 n:Int} (h:ClR J c c') (h13:e2=13->0<e4->∀v:Nat,(v:Int)=IntKind.i64.wrap (e4-1)->J v=0) (h14:e2=14->∀x∈((s.at e3).hd 4).l,∀v:Nat,(v:Int)=x.n->J v=0)
 (hl:k.l.length=k'.l.length) (hk: ∀q:Nat,q<k.l.length->((k.at (q:Int)).hd 2).n=((k'.at (q:Int)).hd 2).n/\((k.at (q:Int)).hd 3).n=((k'.at (q:Int)).hd 3).n/\((k.at (q:Int)).hd 4).n=((k'.at (q:Int)).hd 4).n/\(((k.at (q:Int)).hd 2).n=25->J q=0)) :
 ClR J (QJ s s' k e2 e3 e4 c n) (QJ s s' k' e2 e3 e4 c' n):=by
 unfold QJ;by_cases c13:e2=13
 ·rw [aIR c13,aIR c13];by_cases hp:0<e4
  ·rw [aIR hp,aIR hp];exact PY h _ _ (h13 c13 hp)
  ·rw [aIQ hp,aIQ hp];exact h
 ·rw [aIQ c13,aIQ c13];by_cases c14:e2=14
  ·rw [aIR c14,aIR c14];exact acY _ h (h14 c14)
  ·rw [aIQ c14,aIQ c14];by_cases c15:e2=15
   ·rw [aIR c15,aIR c15];split
    ·refine adA _ _ 0 h hl fun q a b ha hb=>?_;have hq:=(aJf.1 ha).1;have:=hk q hq;rw [lJ,lJ,ha,hb] at this;rw [aI2];exact this
    ·exact h
   ·rw [aIQ c15,aIQ c15];exact h
theorem ZB (d0 x:D) (m:Nat) (h:afF d0 x):Snd x (jY x) m:=by obtain⟨ys,h1,h2⟩:=aiI (x.hd 0).n (x.hd 2).n (enc (x.hd 1)) (enc (x.hd 3)) (x.hd 4).n m (fun e=>(h.2.2.2.1 (.inl e)).1) h.2.2.2.2.1;rw [h2] at h1;exact h1
theorem apS {d0 d1:D} (h0:Wd (.sl 3) d0) (h1:Wd (.sl 4) d1) (hC:L 450 [enc d0,enc d1]=some [0]) (ok:xR d0 d1):MR d0 d1 (eY d0) (iT d1):=by
 have S:=Np h0 h1 ok
 have hl:(eY d0).l=d0.l.map jY:=by
  unfold eY;split
  ·rename_i h;rw [aJx h];rfl
  ·rw [aW]
 have hk:(iT d1).l=d1.l.map nU:=by
  unfold iT;split
  ·rename_i h;rw [aJx h];rfl
  ·rw [aW]
 refine⟨?_,Fh d1,fun i hi=>?_⟩
 ·obtain⟨b,hb,_,hi⟩:=nX h0 h1 (S.g.few (by omega)).rows;rw [hb,hi.2 ⟨hC,by rw [hl,aJD],fun q hq=>?_⟩];have hq':q<d0.l.length:=by rw [hl,aJD] at hq; exact hq
  have e:(eY d0).l[q]?=some (jY d0.l[q]):=by rw [hl,aJi,aI6 hq'];rfl
  rw [aI6 hq] at e;rw [Option.some.inj e];exact ZB d0 _ _ (ok.2.2 _ (aIZ _))
 ·have hi':i<d1.l.length:=by rw [Fh] at hi; exact hi
  have e:(iT d1).l[i]?=some (nU d1.l[i]):=by rw [hk,aJi,aI6 hi'];rfl
  rw [aI6 hi] at e;rw [Option.some.inj e];refine⟨aKm _,Int.natCast_nonneg _,?_,aKm _,by show (0:Int)<=_; omega,.inl ⟨rfl,rfl,rfl⟩⟩;show ((if ((d1.l[i]).hd 1).l.length=0 then (.i 2:D) else dL (List.replicate ((d1.l[i]).hd 1).l.length (.i 0))).l.length:Int)=_;split
  ·rename_i h; rw [h]; rfl
  ·rw [aW,aJ4]
theorem Me {l:List D} {t:Int} (t0:0<=t) (ht:t<(l.length:Int)) (x:D):(dL (dZ l t x)).at t=x:=by obtain⟨i,rfl⟩ : ∃i:Nat,t=(i:Int):=⟨t.toNat,by omega⟩;rw [lJ,aW,yZ (by omega)];rfl
theorem FZ {d:D} {t:Int} {u:Nat} (h:(u:Int)≠t) (x:D):(dL (dZ d.l t x)).at (u:Int)=d.at (u:Int):=by rw [lJ,aW,lY h,lJ]
theorem aC6 {d0 d1 s s':D} {t op obj arg tr e1 e2 e3 e4 e5 oc:Int} (T:Y8 d0 d1 s t op obj arg tr s' e1 e2 e3 e4 e5 oc) (hoc:oc≠0):e1=t:=by
 cases T with
 |no=>exact absurd rfl hoc
 |mis=>rfl
 |res=>rfl
def RI (d0 s k:D):Prop:= ∀o:Nat,o<s.l.length->((d0.at (o:Int)).hd 0).n=4->∀x∈((s.at (o:Int)).hd 4).l,∀u:Nat,(u:Int)=x.n->((k.at (u:Int)).hd 2).n=24/\((k.at (u:Int)).hd 3).n=(o:Int)
theorem Ve {d0 s s' k:D} {t:Int} {x':KT} (I:RI d0 s k) (t0:0<=t) (ht:t<(k.l.length:Int)) (hl:s'.l.length=s.l.length)
 (h: ∀o:Nat,o<s.l.length->((d0.at (o:Int)).hd 0).n=4->∀y∈((s'.at (o:Int)).hd 4).l,(y.n=t/\x'.w=24/\x'.o=(o:Int))\/(y.n≠t/\y∈((s.at (o:Int)).hd 4).l)):RI d0 s' (fV k t x'):=fun o ho hk y hy u hu=>by
 rcases h o (by omega) hk y hy with ⟨q1,q2,q3⟩|⟨q1,q2⟩
 ·rw [hu,q1,jO t0 ht];exact⟨q2,q3⟩
 ·rw [lH k (by omega) (by rw [hu]; exact q1)];exact I o (by omega) hk y q2 u hu
theorem azQ (x:D) (q:D):((dL (dZ x.l 0 q)).hd 4)=x.hd 4:=by unfold D.hd;rw [aW];unfold dZ;rw [aIQ (by omega),aKu];rfl
theorem ayN {s:D} {obj M o c dn g a oc:Int} {r v:D} {m:Option Int} {i:Nat} (hi:i<s.l.length) (h0:0<=obj) (h1:obj<(s.l.length:Int)):((Cm s obj M (.res o c dn g r v m a oc)).at (i:Int)).hd 4=if (i:Int)=obj then r else (s.at (i:Int)).hd 4:=by
 unfold Cm;by_cases h:(i:Int)=obj
 ·rw [aIR h,h]
  cases m with
  |none=>rw [Me h0 h1]; rfl
  |some q=>rw [Me h0 (by rw [dQ]; exact h1)]; rfl
 ·rw [aIQ h]
  cases m with
  |none=>rw [FZ h]
  |some q=>
   have e:(dL (dZ (dZ s.l M (dL (dZ (s.at M).l 0 (.i q)))) obj (dL [.i o,.i c,.i (if dn=0 then 0 else 1),.i g,r,v]))).at (i:Int)=(dL (dZ s.l M (dL (dZ (s.at M).l 0 (.i q))))).at (i:Int):=by rw [lJ,aW,lY h,lJ,aW]
   rw [e];by_cases hM:(i:Int)=M
   ·rw [<- hM,Me (by omega) (by omega),azQ]
   ·rw [FZ hM]
theorem alO {t:Int}: ∀{l:List D} {y:D},y∈wo t l->y∈l/\y.n≠t:=by intro l y h;unfold wo at h;have:=aJU.1 h;refine⟨this.1,?_⟩;simpa using this.2
section
variable {d0 d1 s k:D} {n:Nat} (S:Sx s k n) (hn:n<17592186043800) (h0:Wd (.sl 3) d0) (h1:Wd (.sl 4) d1)
include S hn h0 h1
theorem ayJ {t:Int} {s' k':D} {e1 e2 e3 e4 e5 oc:Int} (I:RI d0 s k) (H:EZ d0 d1 s k t n s' k' e1 e2 e3 e4 e5 oc):RI d0 s' k':=by
 cases H with
 |no h=>exact I
 |over x R ho=>exact I
 |loc x R ho ha=> have hw:=ahV ha;refine Ve I R.r.t0 R.ht rfl fun o hob hk y hy=> .inr ⟨fun he=>?_,hy⟩;obtain⟨u,hu⟩ : ∃u:Nat,(u:Int)=t:=⟨t.toNat,by have:=R.r.t0; omega⟩;have:=(I o hob hk y hy u (by rw [hu,he])).1;rw [hu,R.hk] at this;have:x.w=24:=this;omega
 |tri x R ho op obj arg tr hq k1 k2 k3 hti s' e1 e2 e3 e4 e5 oc A T=>
  have t0:=R.r.t0;obtain⟨u,hu⟩ : ∃u:Nat,(u:Int)=t:=⟨t.toNat,by omega⟩
  have hw:x.w≠0->op=x.w/\obj=x.o:=fun hw=>by unfold gQ at hq;rw [aIQ hw] at hq;simp only [List.cons.injEq] at hq;exact⟨hq.1.symm,hq.2.1.symm⟩
  have hin: ∀o:Nat,o<s.l.length->((d0.at (o:Int)).hd 0).n=4->∀y∈((s.at (o:Int)).hd 4).l,y.n=t->x.w=24/\x.o=(o:Int)/\op=24/\obj=(o:Int):=fun o hob hk y hy he=>by have:=I o hob hk y hy u (by rw [hu,he]);rw [hu,R.hk] at this;have a1:x.w=24:=this.1;have a2:x.o=(o:Int):=this.2;obtain⟨b1,b2⟩:=hw (by omega);exact⟨a1,a2,by omega,by omega⟩
  cases T with
  |no=>
   refine Ve I t0 R.ht rfl fun o hob hk y hy=>?_;by_cases he:y.n=t
   ·obtain⟨a1,a2,_⟩:=hin o hob hk y hy he;refine .inl ⟨he,?_,?_⟩
    ·unfold jX; rw [aIR rfl]; split<;>exact a1
    ·unfold jX; rw [aIR rfl]; split<;>exact a2
   ·exact .inr ⟨he,hy⟩
  |mis A'=>
   refine Ve I t0 R.ht rfl fun o hob hk y hy=> .inr ⟨fun he=>?_,hy⟩;obtain⟨_,_,a3,_⟩:=hin o hob hk y hy he;obtain⟨_,q1,q2,q3,q4,q5,q6,T',hL⟩:=zO (arg:=arg) (tries:=tr) h0 h1 S.g.wd (S.g.few (by omega)) k1 A';rw [A.eq,GN] at hL;subst a3;have:act (Mx d0 e3) (Mo d0 s e3) t 24 arg tr q1 q2 q3 q4 q5 q6=if place q5 t<0 then (if Mo d0 s e3<0 then .res q1 q2 q3 q4 q5 q6 (some t) 0 2 else .blk) else .blk:=rfl;rw [this] at hL;split at hL
   ·split at hL
    ·simp only [evA,aIS,List.cons.injEq] at hL;omega
    ·simp only [evA,aIS,List.cons.injEq] at hL;omega
   ·simp only [evA,aIS,List.cons.injEq] at hL;omega
  |res A' o c dn g r v o' c' IU g' r' v' m a oc T' hB=>
   have Aw:=A'.o0;have Au:=A'.o1;refine Ve I t0 R.ht (NW _ _ _ _) fun i hi hk y hy=>?_;rw [ayN hi Aw Au] at hy;by_cases hio:(i:Int)=e3
   ·rw [aIR hio] at hy;have hrow:((s.at (i:Int)).hd 4)=r:=by rw [hio,T'.is]; rfl
    rw [hrow];have hk4:kindOf e2=4:=by rw [A'.k,<- hio]; exact hk
    have hcs:e2=12\/e2=13\/e2=14\/e2=24:=by rcases Ov k1.1 hk4 (by omega) with h|h|h|h|h|h|h|h|h<;>omega
    have nin:e2≠24->∀y∈r.l,y.n≠t:=fun h24 y hy he=>by obtain⟨_,_,a3,_⟩:=hin i hi hk y (by rw [hrow]; exact hy) he;exact h24 a3
    rcases hcs with rfl|rfl|rfl|rfl
    ·have e:act (Mx d0 e3) (Mo d0 s e3) t 12 arg tr o c dn g r v=if Mo d0 s e3=t then .res o c dn g (dL (wo t r.l++ [.i t])) v (some (-1)) 0 3 else .mis:=rfl;rw [e] at hB;split at hB
     ·simp only [Act.res.injEq] at hB;obtain⟨_,_,_,_,rfl,_,_,_,rfl⟩:=hB;rw [aW] at hy;rcases aJE.1 hy with h|h
      ·exact .inr ⟨(alO h).2,(alO h).1⟩
      ·simp only [aI3,aJG,or_false] at h;subst h
       have w0:x.w=0:=by
        by_cases w:x.w=0
        ·exact w
        ·have:=(hw w).1;have:=R.r.ok.2.2.2.2.2;omega
       refine .inl ⟨rfl,?_,?_⟩
       ·unfold jX;rw [aIQ (by omega),aIR w0];rfl
       ·unfold jX;rw [aIQ (by omega),aIR w0];exact hio.symm
     ·cases hB
    ·have e:act (Mx d0 e3) (Mo d0 s e3) t 13 arg tr o c dn g r v=if (r.l.length:Int)=0 then .res o c dn g r v none 0 2 else .res o c dn g (fC r (r.l.drop 1)) v none (IntKind.i64.wrap ((r.at 0).n+1)) 2:=rfl;rw [e] at hB
     have hsub:y∈r.l:=by
      split at hB
      ·simp only [Act.res.injEq] at hB;obtain⟨_,_,_,_,rfl,_⟩:=hB;exact hy
      ·simp only [Act.res.injEq] at hB;obtain⟨_,_,_,_,rfl,_⟩:=hB;rw [gI] at hy;exact aJv hy
     exact .inr ⟨nin (by omega) y hsub,hsub⟩
    ·have e:act (Mx d0 e3) (Mo d0 s e3) t 14 arg tr o c dn g r v= .res o c dn g (.i 1) v none (r.l.length:Int) 2:=rfl;rw [e] at hB;simp only [Act.res.injEq] at hB;obtain⟨_,_,_,_,rfl,_⟩:=hB;simp [D.l] at hy
    ·have e:act (Mx d0 e3) (Mo d0 s e3) t 24 arg tr o c dn g r v=if place r t<0 then (if Mo d0 s e3<0 then .res o c dn g r v (some t) 0 2 else .blk) else .blk:=rfl;rw [e] at hB;split at hB
     ·rename_i hp;split at hB
      ·simp only [Act.res.injEq] at hB;obtain⟨_,_,_,_,rfl,_⟩:=hB;exact .inr ⟨NZ hp y hy,hy⟩
      ·cases hB
     ·cases hB
   ·rw [aIQ hio] at hy;refine .inr ⟨fun he=>?_,hy⟩;obtain⟨_,_,_,a4⟩:=hin i hi hk y hy he;exact hio a4.symm
end
structure KS where
 s:D
 k:D
 c:D
structure Rep (d1:D) (B P:KS):Prop where
 s:P.s=B.s
 lk:P.k.l.length=d1.l.length
 bk:B.k.l.length=d1.l.length
 lc:P.c.l.length=d1.l.length
 bc:B.c.l.length=d1.l.length
 th: ∀u:Nat,u<d1.l.length->∃(X y:KT) (j:Nat),B.k.at (u:Int)=X.d/\P.k.at (u:Int)=y.d/\uT d1 (u:Int) j X y/\(P.c.at (u:Int)).n=(B.c.at (u:Int)).n+(j:Int)
structure Y9 (d0 d1:D) (n:Nat) (B P:KS) (t:Int) (x:KT) (op obj arg tr:Int) (s':D) (e1 e2 e3 e4 e5 oc:Int):Prop where
 S:Sx P.s P.k n
 hn:n<10000
 K:KR d0 d1 P.s P.k P.c
 R:Rs d0 d1 P.s P.k t x
 rep:Rep d1 B P
 ri:RI d0 P.s P.k
 hc: ∀u:Nat,u<P.c.l.length->(P.c.at (u:Int)).n<=KL
 ho:fB d1 t x=0
 ha:EJ P.s t x=0
 hq:gQ d1 t x= [op,obj,arg,tr,1]
 ht:IB (Bg d0 d1 P.s P.k) P.c t
 hm:(P.c.at t).n≠KL
 k1:iW .u8 op
 A:Tried d0 d1 P.s t op obj arg tr n s' e1 e2 e3 e4 e5 oc
 T:Y8 d0 d1 P.s t op obj arg tr s' e1 e2 e3 e4 e5 oc
noncomputable def nxB (d1:D) (B:KS) (cl t:Int) (x:KT) (op:Int) (s':D) (e2 e3 e4 oc:Int):KS:=
 ⟨s',fV B.k t (jX (Ins d1 t x) x op e2 e3 e4 oc),QJ B.s s' (fV B.k t (jX (Ins d1 t x) x op e2 e3 e4 oc)) e2 e3 e4 (dL (dZ B.c.l t (.i (cl+1)))) (cl+1)⟩
abbrev Ub (e1 e2 e3 e4 e5 oc:Int):List D:=if oc=2\/oc=3 then [evD e1 e2 e3 e4 e5] else []
theorem Eu {d1:D} {t:Int} {x:KT} {a b c e:Int} (h:gQ d1 t x= [a,b,c,e,1]):awI d1 t x:=fun q=>by rw [h] at q;have:low [a,b,c,e,1] 4=(1:Int):=rfl;omega
theorem SH {d1:D} {t:Int} {x:KT} (h:fB d1 t x=1):awI d1 t x:=fun q=>by omega
section
variable {d0 d1:D} (h0:Wd (.sl 3) d0) (h1:Wd (.sl 4) d1)
include h0 h1
theorem WJ {s k:D} {n:Nat} {t:Int} {x:KT} (S:Sx s k n) (hn:n<10000) (M:MR d0 d1 s k) (R:Rs d0 d1 s k t x):Bg d0 d1 s k t=akW d1 s t x:=by have hle:=(MR.code h0 h1 (S.g.few (by omega)).rows M).2;unfold Bg;rw [Uj S (by omega) R hle];rfl
theorem adF {n n':Nat} {B P P':KS} {t t' op obj arg tr e1 e2 e3 e4 e5 oc op' aDr arg' tr' f1 f2 f3 f4 f5 oc':Int} {x x':KT} {s' s'':D} (a:Y9 d0 d1 n B P t x op obj arg tr s' e1 e2 e3 e4 e5 oc) (a':Y9 d0 d1 n' B P' t' x' op' aDr arg' tr' s'' f1 f2 f3 f4 f5 oc') (hne:t≠t') :
 (P.c.at t).n<(P'.c.at t').n\/(P.c.at t).n=(P'.c.at t').n/\t<t':=by
 have t0:=a'.R.r.t0;have t1:=a'.R.r.t1;obtain⟨u,rfl⟩ : ∃u:Nat,t'=(u:Int):=⟨t'.toNat,by omega⟩;have hu:u<d1.l.length:=by omega
 obtain⟨X,y,j,b1,b2,b3,b4⟩:=a.rep.th u hu;obtain⟨X',y',m,b1',b2',b3',b4'⟩:=a'.rep.th u hu;have e1:=qK (b1.symm.trans b1');subst e1;have e2:=qK (b2'.symm.trans a'.R.hk);subst e2;have hst:=Eu a'.hq;have hjm:=b3.le b3' hst;have M:=a.K.2.2;have R:=aeY a.S (by have:=a.hn; omega) h0 h1 M t0 t1 b2;have hs:P.s=P'.s:=a.rep.s.trans a'.rep.s.symm
 have hcnt:Bg d0 d1 P.s P.k (u:Int)≠0:=by
  rw [WJ h0 h1 a.S a.hn M R]
  have q:fB d1 (u:Int) y=0/\EJ P.s (u:Int) y=0:=by
   rcases aJb j m with hlt|hge
   ·have d:=b3.det b3' hjm;obtain⟨i,hi⟩ : ∃i,m-j=i+1:=⟨m-j-1,by omega⟩;rw [hi] at d
    cases d with
    |succ _ _ _ ho ha _=> refine⟨ho,?_⟩;have w:=ahV ha;unfold EJ;rw [aIQ (by omega),aIQ (by omega)]
   ·have e:m=j:=by omega
    subst e;have d:=b3.det b3' (aIV _);rw [aKY] at d;cases d;rw [hs];exact⟨a'.ho,a'.ha⟩
  unfold akW;rw [aIQ (by omega),aIR q.2];omega
 have hT:=a.ht.2 u (by rw [a.rep.lc]; exact hu);have h3: ¬((P.c.at (u:Int)).n<(P.c.at t).n\/(P.c.at (u:Int)).n=(P.c.at t).n/\(u:Int)<t):=fun h=>hcnt (hT h);omega
theorem aA6 {n n':Nat} {B P P':KS} {t t' op obj arg tr e1 e2 e3 e4 e5 oc op' aDr arg' tr' f1 f2 f3 f4 f5 oc':Int} {x x':KT} {s' s'':D} (a:Y9 d0 d1 n B P t x op obj arg tr s' e1 e2 e3 e4 e5 oc) (a':Y9 d0 d1 n' B P' t' x' op' aDr arg' tr' s'' f1 f2 f3 f4 f5 oc') :
 Ub e1 e2 e3 e4 e5 oc=Ub f1 f2 f3 f4 f5 oc'/\nxB d1 B (P.c.at t).n t x op s' e2 e3 e4 oc=nxB d1 B (P'.c.at t').n t' x' op' s'' f2 f3 f4 oc':=by
 have ht:t=t':=by
  by_cases h:t=t'
  ·exact h
  ·have q:=adF h0 h1 a a' h;have q':=adF h0 h1 a' a (Ne.symm h);omega
 subst ht;have t0:=a.R.r.t0;have t1:=a.R.r.t1;obtain⟨u,rfl⟩ : ∃u:Nat,t=(u:Int):=⟨t.toNat,by omega⟩;obtain⟨X,y,j,b1,b2,b3,b4⟩:=a.rep.th u (by omega);obtain⟨X',y',m,b1',b2',b3',b4'⟩:=a'.rep.th u (by omega);obtain rfl:=qK (b1.symm.trans b1');obtain rfl:=qK (b2.symm.trans a.R.hk);obtain rfl:=qK (b2'.symm.trans a'.R.hk);obtain⟨rfl,rfl⟩:=b3.stop b3' (Eu a.hq) (Eu a'.hq);have hs:P.s=P'.s:=a.rep.s.trans a'.rep.s.symm;have hq:=a.hq.symm.trans a'.hq;simp only [List.cons.injEq,and_true] at hq;obtain⟨rfl,rfl,rfl,rfl⟩:=hq;have hA:=a.A.eq;rw [hs,a'.A.eq] at hA;simp only [aIS,List.cons.injEq,and_true] at hA;obtain⟨q,rfl,rfl,rfl,rfl,rfl,rfl⟩:=hA;obtain rfl:=lN q;rw [b4,b4'];exact⟨rfl,rfl⟩
end
theorem acX (n:Int): ∀(l:List D) (c:D),(wkB n l c).l.length=c.l.length
 |[],_=>rfl
 |x::l,c=>(acX n l _).trans (uO _ _ _)
theorem acZ (o g n:Int): ∀(l:List D) (i:Nat) (c:D),(wkA o g n l i c).l.length=c.l.length
 |[],_,_=>rfl
 |x::l,i,c=>by
  unfold wkA;rw [acZ o g n l];split
  ·exact uO _ _ _
  ·rfl
theorem Lj (s s' k:D) (e2 e3 e4:Int) (c:D) (n:Int):(QJ s s' k e2 e3 e4 c n).l.length=c.l.length:=by
 unfold QJ
 repeat' split
 all_goals first |rfl|exact uO _ _ _|exact acX _ _ _|exact acZ _ _ _ _ _ _
section
variable {d0 d1:D} (h0:Wd (.sl 3) d0) (h1:Wd (.sl 4) d1)
include h0 h1
theorem ayL {n:Nat} {B P:KS} {t op obj arg tr e1 e2 e3 e4 e5 oc:Int} {x:KT} {s':D} (a:Y9 d0 d1 n B P t x op obj arg tr s' e1 e2 e3 e4 e5 oc) :
 Rep d1 (nxB d1 B (P.c.at t).n t x op s' e2 e3 e4 oc) ⟨s',fV P.k t (jX (Ins d1 t x) x op e2 e3 e4 oc),QJ P.s s' (fV P.k t (jX (Ins d1 t x) x op e2 e3 e4 oc)) e2 e3 e4 (tick P.c t) ((P.c.at t).n+1)⟩:=by
 have t0:=a.R.r.t0;have t1:=a.R.r.t1;have hn:=a.hn;have M:=a.K.2.2;have hle:=(MR.code h0 h1 (a.S.g.few (by omega)).rows M).2;obtain⟨u0,hu0⟩ : ∃u:Nat,(u:Int)=t:=⟨t.toNat,by omega⟩;have r:=a.rep
 have hJ: ∀v:Nat,(v:Int)≠t->v<d1.l.length->∀(X y:KT) (j:Nat),B.k.at (v:Int)=X.d->P.k.at (v:Int)=y.d->uT d1 (v:Int) j X y->(P.c.at (v:Int)).n=(B.c.at (v:Int)).n+(j:Int)->y.w≠0->(P.c.at (v:Int)).n-(B.c.at (v:Int)).n=0:=fun v hv hvl X y j b1 b2 b3 b4 hw=>by have:=(b3.w0 (by rw [<- b3.keeps.1]; exact hw)).1;subst this;omega
 obtain⟨J,hJd⟩ : ∃J:Nat->Int,J=fun (u:Nat)=>if (u:Int)=t then 0 else (P.c.at (u:Int)).n-(B.c.at (u:Int)).n:=⟨_,rfl⟩;have J0: ∀v:Nat,(v:Int)=t->J v=0:=fun v hv=>by rw [hJd]; exact aIR hv
 have J1: ∀v:Nat,(v:Int)≠t->J v=(P.c.at (v:Int)).n-(B.c.at (v:Int)).n:=fun v hv=>by rw [hJd]; exact aIQ hv
 have hrow: ∀o:Nat,o<P.s.l.length->((d0.at (o:Int)).hd 0).n=4->∀y∈((P.s.at (o:Int)).hd 4).l,∀v:Nat,(v:Int)=y.n->J v=0:=fun o ho hk y hy v hv=>by
  by_cases hvt:(v:Int)=t
  ·exact J0 v hvt
  ·have hin:=(aaC a.S (by omega) h0 h1 M (by omega:(0:Int)<=(o:Int)) (by omega)).1 y hy;have hvl:v<d1.l.length:=by omega
   obtain⟨X,z,j,b1,b2,b3,b4⟩:=r.th v hvl;have hw:=(a.ri o ho hk y hy v hv).1;rw [b2] at hw;have hw':z.w=24:=hw;rw [J1 v hvt];exact hJ v hvt hvl X z j b1 b2 b3 b4 (by omega)
 have base:ClR J (dL (dZ B.c.l t (.i ((P.c.at t).n+1)))) (tick P.c t):=
  XD (J:=fun (u:Nat)=>(P.c.at (u:Int)).n-(B.c.at (u:Int)).n) ⟨by rw [r.bc,r.lc],fun u _=>by omega⟩ t _ _ (fun u hu=>J1 u hu) fun u hu=>by rw [J0 u hu]; omega
 have cl:ClR J (nxB d1 B (P.c.at t).n t x op s' e2 e3 e4 oc).c (QJ P.s s' (fV P.k t (jX (Ins d1 t x) x op e2 e3 e4 oc)) e2 e3 e4 (tick P.c t) ((P.c.at t).n+1)):=by
  unfold nxB;rw [r.s];refine awQ base (fun h13 hp v hv=>?_) (fun h14 y hy v hv=>?_) (by rw [iG,iG,r.bk,r.lk]) fun q hq=>?_
  ·have T:=a.T;have A:=a.A
   cases T with
   |no=>omega
   |mis=>omega
   |res A' o c dn g r' v' o2 c2 dn2 g2 r2 v2 m aa oc2 T' hB=>
    subst h13;have e:act (Mx d0 obj) (Mo d0 P.s obj) t 13 arg tr o c dn g r' v'=if (r'.l.length:Int)=0 then .res o c dn g r' v' none 0 2 else .res o c dn g (fC r' (r'.l.drop 1)) v' none (IntKind.i64.wrap ((r'.at 0).n+1)) 2:=rfl;rw [e] at hB;have a0:=A'.o0;have a1:=A'.o1;obtain⟨i,hi⟩ : ∃i:Nat,(i:Int)=obj:=⟨obj.toNat,by omega⟩;have hr4:((P.s.at (i:Int)).hd 4)=r':=by rw [hi,T'.is]; rfl
    have hk4:((d0.at (i:Int)).hd 0).n=4:=by rw [hi,<- A'.k]; rfl
    have hin:=(aaC a.S (by omega) h0 h1 M a0 a1).1;rw [<- hi,hr4] at hin;have h16:=(DN h0 h1 a.S.g (by omega) M.1).2.1.2.1;split at hB
    ·simp only [Act.res.injEq] at hB;omega
    ·simp only [Act.res.injEq] at hB;have hm:r'.at 0∈r'.l:=Vu (aKm 0) (by omega);obtain⟨q0,q1⟩:=hin _ hm;have h2:=hB.2.2.2.2.2.2.2.1;rw [lW (by omega) (by omega)] at h2;rw [<- h2,lW (by omega) (by omega)] at hv;exact hrow i (by omega) hk4 (r'.at 0) (by rw [hr4]; exact hm) v (by omega)
  ·have T:=a.T
   cases T with
   |no=>omega
   |mis=>omega
   |res A' o c dn g r' v' o2 c2 dn2 g2 r2 v2 m aa oc2 T' hB=>
    subst h14;have a0:=A'.o0;have a1:=A'.o1;obtain⟨i,hi⟩ : ∃i:Nat,(i:Int)=obj:=⟨obj.toNat,by omega⟩;have hk4:((d0.at (i:Int)).hd 0).n=4:=by rw [hi,<- A'.k]; rfl
    rw [<- r.s,<- hi] at hy;exact hrow i (by omega) hk4 y hy v hv
  ·rw [iG,r.bk] at hq;by_cases hqt:(q:Int)=t
   ·rw [hqt,jO t0 (by rw [r.bk]; omega),jO t0 (by rw [r.lk]; omega)];exact⟨rfl,rfl,rfl,fun _=>J0 q hqt⟩
   ·rw [lH _ (by omega) hqt,lH _ (by omega) hqt];obtain⟨X,z,j,b1,b2,b3,b4⟩:=r.th q hq;rw [b1,b2];obtain⟨k1,k2,k3,_⟩:=b3.keeps;refine⟨k1.symm,k2.symm,k3.symm,fun hw=>?_⟩;have hw':X.w=25:=hw;rw [J1 q hqt];exact hJ q hqt hq X z j b1 b2 b3 b4 (by omega)
 refine⟨rfl,(iG _ _ _).trans r.lk,(iG _ _ _).trans r.bk,?_,?_,fun u hu=>?_⟩
 ·show (QJ _ _ _ _ _ _ _ _).l.length=_;rw [Lj,BN,r.lc]
 ·show (QJ _ _ _ _ _ _ _ _).l.length=_;rw [Lj,aW,dQ,r.bc]
 ·have hcl:=cl.at' u (by unfold nxB; show u<(QJ _ _ _ _ _ _ _ _).l.length; rw [Lj,aW,dQ,r.bc]; exact hu);by_cases hut:(u:Int)=t
  ·refine⟨jX (Ins d1 t x) x op e2 e3 e4 oc,jX (Ins d1 t x) x op e2 e3 e4 oc,0,?_,?_,.zero _,?_⟩
   ·show (fV B.k t _).at (u:Int)=_;rw [hut,jO t0 (by rw [r.bk]; omega)]
   ·show (fV P.k t _).at (u:Int)=_;rw [hut,jO t0 (by rw [r.lk]; omega)]
   ·rw [J0 u hut] at hcl;exact hcl
  ·obtain⟨X,z,j,b1,b2,b3,b4⟩:=r.th u hu;refine⟨X,z,j,?_,?_,b3,?_⟩
   ·show (fV B.k t _).at (u:Int)=_;rw [lH _ (by omega) hut,b1]
   ·show (fV P.k t _).at (u:Int)=_;rw [lH _ (by omega) hut,b2]
   ·rw [J1 u hut] at hcl;rw [hcl];omega
inductive BH (d0 d1:D):KS->List D->KS->Prop
 |mk {n:Nat} {B P:KS} {t:Int} {x:KT} {op obj arg tr:Int} {s':D} {e1 e2 e3 e4 e5 oc:Int} (a:Y9 d0 d1 n B P t x op obj arg tr s' e1 e2 e3 e4 e5 oc):BH d0 d1 B (Ub e1 e2 e3 e4 e5 oc) (nxB d1 B (P.c.at t).n t x op s' e2 e3 e4 oc)
theorem BH.uni {B B1 B2:KS} {es fs:List D} (a:BH d0 d1 B es B1) (b:BH d0 d1 B fs B2):es=fs/\B1=B2:=by
 cases a with
 |mk a=>
  cases b with
  |mk b=>exact aA6 h0 h1 a b
end
inductive Path (d0 d1:D):KS->List (List D)->KS->Prop
 |nil (B:KS):Path d0 d1 B [] B
 |cons {B B1 B2:KS} {e:List D} {es:List (List D)} (a:BH d0 d1 B e B1) (p:Path d0 d1 B1 es B2):Path d0 d1 B (e::es) B2
theorem Path.snoc {d0 d1:D} {B B1 B2:KS} {e:List D} {es:List (List D)} (p:Path d0 d1 B es B1) (a:BH d0 d1 B1 e B2):Path d0 d1 B (es++ [e]) B2:=by
 induction p with
 |nil B=>exact .cons a (.nil _)
 |cons b _ ih=>exact .cons b (ih a)
theorem Path.det {d0 d1:D} (h0:Wd (.sl 3) d0) (h1:Wd (.sl 4) d1) {B B1:KS} {es:List (List D)} (p:Path d0 d1 B es B1): ∀{fs:List (List D)} {B2:KS},Path d0 d1 B fs B2->es.length<=fs.length->∃gs,fs=es++gs/\Path d0 d1 B1 gs B2:=by
 induction p with
 |nil B=>exact fun q _=> ⟨_,rfl,q⟩
 |cons a _ ih=>
  intro fs B2 q hl
  cases q with
  |nil=>simp at hl
  |cons b q=> obtain⟨rfl,rfl⟩:=a.uni h0 h1 b;obtain⟨gs,rfl,q'⟩:=ih q (by simpa using hl);exact⟨gs,rfl,q'⟩
theorem afE (d1:D) (t:Int) (x:KT) (r:Int):fB d1 t { x with tr:=r }=fB d1 t x:=rfl
theorem azA (d1:D) (t:Int) (x:KT) (r:Int):low (gQ d1 t { x with tr:=r }) 4=low (gQ d1 t x) 4:=by
 show low (if x.w=0 then if x.a=(Nc d1 t:Int) then [0,0,0,0,0] else if ((Ins d1 t x).hd 0).n=1 then [((Ins d1 t x).hd 1).n,((Ins d1 t x).hd 2).n,QW ((Ins d1 t x).hd 6) x.lc,r,1] else if ((Ins d1 t x).hd 0).n=2 then [26,((Ins d1 t x).hd 2).n,0,0,1] else [0,0,0,0,0] else [x.w,x.o,x.g,0,1]) 4=low (gQ d1 t x) 4;unfold gQ
 repeat' split
 all_goals rfl
theorem apQ {d1:D} {t:Int} {x:KT} {r op obj arg tr:Int} (h:gQ d1 t { x with tr:=r }= [op,obj,arg,tr,1]): ∃tr',gQ d1 t x= [op,obj,arg,tr',1]:=by
 have e:gQ d1 t { x with tr:=r }=(if x.w=0 then if x.a=(Nc d1 t:Int) then [0,0,0,0,0] else if ((Ins d1 t x).hd 0).n=1 then [((Ins d1 t x).hd 1).n,((Ins d1 t x).hd 2).n,QW ((Ins d1 t x).hd 6) x.lc,r,1] else if ((Ins d1 t x).hd 0).n=2 then [26,((Ins d1 t x).hd 2).n,0,0,1] else [0,0,0,0,0] else [x.w,x.o,x.g,0,1]):=rfl;rw [e] at h;unfold gQ
 repeat' split at h
 all_goals (simp only [List.cons.injEq] at h; obtain⟨rfl,rfl,rfl,rfl,h⟩:=h)
 all_goals first
  |(exfalso; omega)
  |skip
 ·rename_i h1 h2 h3;exact⟨x.tr,by rw [aIR h1,aIQ h2,aIR h3]⟩
 ·rename_i h1 h2 h3 h4;exact⟨0,by rw [aIR h1,aIQ h2,aIQ h3,aIR h4]⟩
 ·rename_i h1;exact⟨0,by rw [aIQ h1]⟩
theorem azF (I:D) (x:KT) (r:Int):gW I { x with tr:=r }= { gW I x with tr:=r }:=by
 unfold gW
 repeat' split
 all_goals rfl
theorem awZ (I:D) (x:KT) (r op e2 e3 e4 oc:Int) (h:oc≠0):jX I { x with tr:=r } op e2 e3 e4 oc=jX I x op e2 e3 e4 oc:=by unfold jX;rw [aIQ h,aIQ h]
theorem axA (I:D) (x:KT) (op e2 e3 e4:Int): ∃r,jX I x op e2 e3 e4 0= { x with tr:=r }:=by
 unfold jX;rw [aIR rfl];split
 ·exact⟨_,rfl⟩
 ·exact⟨x.tr,rfl⟩
inductive Run (d0 d1 s k:D):List D->D->D->Prop
 |nil:Run d0 d1 s k [] s k
 |snoc {l:List D} {s1 k1 s2 k2:D} {e1 e2 e3 e4 e5:Int} (r:Run d0 d1 s k l s1 k1) (h:L 2000 [enc d0,enc d1,enc s1,enc k1,e1,e2,e3,e4,e5]=some [enc s2,enc k2,1]):Run d0 d1 s k (l++ [evD e1 e2 e3 e4 e5]) s2 k2
def QG (d0 d1:D) (P:KS):Prop:= ∃(t:Int) (x:KT),Rs d0 d1 P.s P.k t x/\IB (Bg d0 d1 P.s P.k) P.c t/\(P.c.at t).n=KL
structure Pl (d0 d1:D) (B0:KS) (i:Nat) (es:List (List D)) (B P:KS):Prop where
 path:Path d0 d1 B0 es B
 rep:Rep d1 B P
 S:Sx P.s P.k i
 K:KR d0 d1 P.s P.k P.c
 ri:RI d0 P.s P.k
 C:Ck KL P.c
 ll:es.flatten.length<=i
 el:es.length<=i
 fr: ∃F:D,Run d0 d1 B0.s B0.k es.flatten P.s F/\Sx P.s F i/\MR d0 d1 P.s F/\∀u:Nat,u<d1.l.length->∃(z y:KT) (j:Nat) (r:Int),F.at (u:Int)=z.d/\P.k.at (u:Int)=KT.d { y with tr:=r }/\uT d1 (u:Int) j z y/\j<=i
theorem Pl.mono {d0 d1:D} {B0 B P:KS} {i i':Nat} {es:List (List D)} (h:Pl d0 d1 B0 i es B P) (hi:i<=i'):Pl d0 d1 B0 i' es B P:=by refine⟨h.path,h.rep,h.S.mono hi,h.K,h.ri,h.C,aJr h.ll hi,aJr h.el hi,?_⟩;obtain⟨F,f1,f2,f3,f4⟩:=h.fr;refine⟨F,f1,f2.mono hi,f3,fun u hu=>?_⟩;obtain⟨z,y,j,r,a,b,c,d⟩:=f4 u hu;exact⟨z,y,j,r,a,b,c,by omega⟩
section
variable {d0 d1:D} (h0:Wd (.sl 3) d0) (h1:Wd (.sl 4) d1)
include h0 h1
theorem ayQ {B0 B P:KS} {i:Nat} {es:List (List D)} (hi:i<5000) (h:Pl d0 d1 B0 i es B P) {t:Int} (t0:0<=t) (t1:t<(d1.l.length:Int)): ∃(s' k' c':D) (e1 e2 e3 e4 e5 oc er:Int),L 3100 [enc d0,enc d1,enc P.s,enc P.k,enc P.c,t]=some [enc s',enc k',enc c',e1,e2,e3,e4,e5,oc,er]/\
 ((er=0/\∃(es':List (List D)) (B':KS),Pl d0 d1 B0 (i+1) es' B' ⟨s',k',c'⟩/\es'.flatten=es.flatten++Ub e1 e2 e3 e4 e5 oc)\/(er=131/\QG d0 d1 P)):=by
 obtain⟨s',k',c',e1,e2,e3,e4,e5,oc,er,hL,H⟩:=X5 h.S (by omega) h0 h1 h.C.wd t;refine⟨s',k',c',e1,e2,e3,e4,e5,oc,er,hL,?_⟩;have M:=h.K.2.2;have hlk:=h.rep.lk;have hlc:=h.rep.lc;have nil: ∀es:List (List D),es.flatten=es.flatten++([]:List D):=fun es=>(aJC _).symm;have ev0:Ub 0 0 0 0 0 0= []:=rfl;have ev4:Ub 0 0 0 0 0 4= []:=rfl;have ev1:Ub 0 0 0 0 0 1= []:=rfl
 cases H with
 |no hno=>exact absurd ⟨t0,t1,h.K⟩ hno
 |over x K R ho=>exact .inl ⟨rfl,es,B,h.mono (aJN i),by rw [ev4]; exact nil es⟩
 |asl x K R ho ha=>exact .inl ⟨rfl,es,B,h.mono (aJN i),by rw [ev0]; exact nil es⟩
 |wait x K R ho ha hq ht=>exact .inl ⟨rfl,es,B,h.mono (aJN i),by rw [ev0]; exact nil es⟩
 |full x K R ho ha ht hm=>exact .inr ⟨rfl,t,x,R,ht,hm⟩
 |go x K R ho ha hq hm s' k' e1 e2 e3 e4 e5 oc hL' H W=>
  refine .inl ⟨rfl,?_⟩;obtain⟨S',hls,aIJ⟩:=Xz h.S (by omega) h0 h1 H;have M':=aoD h.S (by omega) h0 h1 M H;have ri':=ayJ h.S (by omega) h0 h1 h.ri H;have hp:0<P.c.l.length:=by omega
  have hcr:=h.C.at t0 (by omega);have Ct:Ck KL (tick P.c t):=aeU h.C hp (by unfold KL; omega) t (by omega) (by have:=hcr.2; have:=hm; omega);have hW:awH P.s s' k' e2 e3 e4 (tick P.c t).l.length:=by rw [BN]; exact W
  have C':Ck KL (QJ P.s s' k' e2 e3 e4 (tick P.c t) ((P.c.at t).n+1)):=(aC4 hW Ct (by rw [BN]; exact hp) (by unfold KL; omega) (by omega) (by have:=hcr.2; have:=hm; omega)).1;have K':KR d0 d1 s' k' (QJ P.s s' k' e2 e3 e4 (tick P.c t) ((P.c.at t).n+1)):=⟨by rw [Lj,BN,hlc],fun u hu=>(C'.rng u hu).1,M'⟩;obtain⟨u0,hu0⟩ : ∃u:Nat,(u:Int)=t:=⟨t.toNat,by omega⟩;obtain⟨F,f1,f2,f3,f4⟩:=h.fr;have hFl:F.l.length=d1.l.length:=f3.2.1
  cases H with
  |no hno=>have:=R.yes; rw [hno] at this; simp at this
  |over y Ry hoy=>rw [aaB R Ry] at ho; omega
  |loc y Ry hoy hay=>
   obtain rfl:=aaB R Ry;have ec:QJ P.s P.s (fV P.k t (gW (Ins d1 t x) x)) 0 0 0 (tick P.c t) ((P.c.at t).n+1)=tick P.c t:=rfl;rw [ec] at C' K' ⊢;refine⟨es,B,⟨h.path,⟨h.rep.s,(iG _ _ _).trans hlk,h.rep.bk,(BN _ _).trans hlc,h.rep.bc,fun u hu=>?_⟩,S',K',ri',C',by have:=h.ll; omega,by have:=h.el; omega,F,f1,f2.mono (aJN i),f3,fun u hu=>?_⟩,by rw [ev1]; exact nil es⟩
   ·obtain⟨X,y,j,b1,b2,b3,b4⟩:=h.rep.th u hu;by_cases hut:(u:Int)=t
    ·rw [hut] at b1 b2 b3 b4;obtain rfl:=qK (b2.symm.trans R.hk);refine⟨X,_,j+1,by rw [hut]; exact b1,?_,by rw [hut]; exact b3.snoc ho hay,?_⟩
     ·show (fV P.k t _).at (u:Int)=_;rw [hut,jO t0 R.ht]
     ·show ((tick P.c t).at (u:Int)).n=_;rw [hut,Me t0 (by omega)];show (P.c.at t).n+1=_;rw [b4];omega
    ·refine⟨X,y,j,b1,?_,b3,?_⟩
     ·show (fV P.k t _).at (u:Int)=_;rw [lH _ (by omega) hut,b2]
     ·show ((tick P.c t).at (u:Int)).n=_;rw [FZ hut];exact b4
   ·obtain⟨z,y,j,r,a1,a2,a3,a4⟩:=f4 u hu;by_cases hut:(u:Int)=t
    ·rw [hut] at a1 a2 a3;have e:=qK (a2.symm.trans R.hk);subst e;refine⟨z,gW (Ins d1 t y) y,j+1,r,by rw [hut]; exact a1,?_,by rw [hut]; exact a3.snoc (by rw [<- afE d1 t y r]; exact ho) (by rw [<- azA d1 t y r]; exact hay),by omega⟩;show (fV P.k t _).at (u:Int)=_;rw [hut,jO t0 R.ht,<- azF]
    ·refine⟨z,y,j,r,a1,?_,a3,by omega⟩;show (fV P.k t _).at (u:Int)=_;rw [lH _ (by omega) hut,a2]
  |tri y Ry hoy op obj arg tr hq' k1 k2 k3 hti s' e1 e2 e3 e4 e5 oc A T=>
   obtain rfl:=aaB R Ry
   have hT:IB (Bg d0 d1 P.s P.k) P.c t:=by
    rcases hq with hq|hq
    ·rw [hq'] at hq;have:low [op,obj,arg,tr,1] 4=(1:Int):=rfl;omega
    ·exact hq
   have act:Y9 d0 d1 i B P t x op obj arg tr s' e1 e2 e3 e4 e5 oc:=⟨h.S,by omega,h.K,R,h.rep,h.ri,fun u hu=>(h.C.rng u hu).2,ho,ha,hq',hT,hm,k1,A,T⟩;have hR:=ayL h0 h1 act;have fl:(es++ [Ub e1 e2 e3 e4 e5 oc]).flatten=es.flatten++Ub e1 e2 e3 e4 e5 oc:=by simp
   refine⟨es++ [Ub e1 e2 e3 e4 e5 oc],_,⟨h.path.snoc (.mk act),hR,S',K',ri',C',?_,by rw [aJa]; have:=h.el; simpa using this,?_⟩,fl⟩
   ·rw [fl,aJa];have:(Ub e1 e2 e3 e4 e5 oc).length<=1:=by unfold Ub; split<;>simp
    have:=h.ll;omega
   ·rw [fl];rcases A.oc3 with hz|h23
    ·subst hz;obtain⟨rfl,rfl,rfl,rfl,rfl,rfl⟩:=A.no rfl;rw [ev0,aJC];refine⟨F,f1,f2.mono (aJN i),f3,fun u hu=>?_⟩;obtain⟨z,y,j,r,a1,a2,a3,a4⟩:=f4 u hu;by_cases hut:(u:Int)=t
     ·rw [hut] at a2;have e:=qK (a2.symm.trans R.hk);subst e;obtain⟨r',hr'⟩:=axA (Ins d1 t { y with tr:=r }) { y with tr:=r } op 0 0 0;refine⟨z,y,j,r',a1,?_,a3,by omega⟩;show (fV P.k t _).at (u:Int)=_;rw [hut,jO t0 R.ht,hr']
     ·refine⟨z,y,j,r,a1,?_,a3,by omega⟩;show (fV P.k t _).at (u:Int)=_;rw [lH _ (by omega) hut,a2]
    ·have hoc:oc≠0:=by omega
     have he:=aC6 T hoc;have hev:Ub e1 e2 e3 e4 e5 oc= [evD e1 e2 e3 e4 e5]:=by unfold Ub; rw [aIR h23]
     rw [hev];obtain⟨z,y,j,r,a1,a2,a3,a4⟩:=f4 u0 (by omega);rw [hu0] at a1 a2 a3;have e:=qK (a2.symm.trans R.hk);subst e;obtain⟨tr',hn'⟩:=apQ hq';have RF:=aeY f2 (by omega) h0 h1 f3 t0 t1 a1
     have htr:tr<=4611686018427387904:=by
      have q:=R.r.ok.2.2.2.2.1;have q':r<=4611686018427387904:=q;unfold gQ at hq'
      repeat' split at hq'
      all_goals (simp only [List.cons.injEq] at hq'; obtain⟨_,_,_,hq',_⟩:=hq'; omega)
     have A':=Xn h0 h1 f2.g (by omega) k1 A hoc htr;have hf:=arI (rX:=e2) (vJ:=e3) (ea:=e4) (eb:=e5) f2 RF (by omega) a3 (by rw [<- afE d1 t y r]; exact ho) hn' A';rw [aIR ⟨hoc,he,rfl,rfl,rfl,rfl⟩] at hf;have hte:jX (Ins d1 t { y with tr:=r }) { y with tr:=r } op e2 e3 e4 oc=jX (Ins d1 t y) y op e2 e3 e4 oc:=awZ _ _ _ _ _ _ _ _ hoc;rw [<- hte] at hf;have hle:=(MR.code h0 h1 (h.S.g.few (by omega)).rows M).2;have hx:=avZ R.r ho;have SF:=alZ f2 R.c R.r (by omega) hx A;have RT:=amA R.c R.r hx hle A.e3 A.e4 T;have MF:=aaN f2 (by omega) f3 RT (by omega) M'.1;refine⟨_,.snoc f1 (he▸hf),SF,MF,fun u hu=>?_⟩
     ·by_cases hut:(u:Int)=t
      ·refine⟨_,jX (Ins d1 t { y with tr:=r }) { y with tr:=r } op e2 e3 e4 oc,0,(jX (Ins d1 t { y with tr:=r }) { y with tr:=r } op e2 e3 e4 oc).tr,?_,?_,.zero _,by omega⟩
       ·rw [hut,jO t0 (by omega)]
       ·show (fV P.k t _).at (u:Int)=_;rw [hut,jO t0 R.ht]
      ·obtain⟨z',y',j',r',b1,b2,b3,b4⟩:=f4 u hu;refine⟨z',y',j',r',?_,?_,b3,by omega⟩
       ·rw [lH _ (by omega) hut,b1]
       ·show (fV P.k t _).at (u:Int)=_;rw [lH _ (by omega) hut,b2]
end
section
variable {d0 d1:D} (h0:Wd (.sl 3) d0) (h1:Wd (.sl 4) d1)
include h0 h1
theorem ajR {s k c:D} (hc:Wd (.sl 0) c) (hB:L 1450 [enc d0,enc d1]=some [enc s,enc k,0]) (S:Sx s k 0):(KR d0 d1 s k c->L 2800 [enc d0,enc d1,enc c]=some [enc s,enc k,enc c,0])/\(¬KR d0 d1 s k c->L 2800 [enc d0,enc d1,enc c]=some [enc (.i 1),enc (.i 1),enc (.i 1),2]):=by
 obtain⟨ys,hK,b,rfl,hb⟩:=Tv (k:=k) h0 h1 (S.g.few (by omega)).rows hc.len;have h12: ∀z:Int,z=1\/z=2->True:=fun _ _=>trivial;rcases hb with ⟨rfl,hN⟩|⟨rfl,hY⟩
 ·refine⟨fun h=>absurd h hN,fun _=>?_⟩;rw [aP,agT];rcases bF hc with rfl|rfl|⟨r1,r2⟩
  ·simp only [Gn,zz,hB,len1,len2,nH,iP,hK,aK]
  ·simp only [Gn,zz,hB,len1,len2,nH,iP,hK,aK]
  ·simp only [Gn,zz,hB,r1,r2,hK,aK]
 ·refine⟨fun _=>?_,fun h=>absurd hY h⟩;rw [aP,agT];rcases bF hc with rfl|rfl|⟨r1,r2⟩
  ·simp only [Gn,zz,hB,len1,len2,nH,iP,hK,aK,aC]
  ·simp only [Gn,zz,hB,len1,len2,nH,iP,hK,aK,aC]
  ·simp only [Gn,zz,hB,r1,r2,hK,aK,aC]
theorem ajQ {c:D} {z:Int} (hz:z≠0) (hB:L 1450 [enc d0,enc d1]=some [enc (.i 1),enc (.i 1),z]):L 2800 [enc d0,enc d1,enc c]=some [enc (.i 1),enc (.i 1),enc (.i 1),z]:=by rw [aP,agT];simp only [Gn,zz,hB,aIQ hz,aK]
end
theorem ahO (d:D) (hd:d.l.length<=140737488351232): ∀(j i:Nat),i+j=d.l.length->L 3551 [enc d,enc d,(d.l.length:Int),(i:Int)]=some [1]
 |0,i,hi=>by
  have c1: ¬(i:Int)<(d.l.length:Int):=by omega
  rw [aP,asQ];simp only [adW,zz,c1,aK]
 |j+1,i,hi=>by
  have c1:(i:Int)<(d.l.length:Int):=by omega
  have c2: ¬((i:Int)<0):=by omega
  have w:=aZ (n:=i) (by omega);have ih:=ahO d hd j (i+1) (by omega);rw [aP,asQ];simp only [adW,zz,c1,c2,w,aH];exact ih
theorem aAX (d:D) (hd:d.l.length<=140737488351232):L 3550 [enc d,enc d]=some [1]:=by have h:=ahO d hd d.l.length 0 (by omega);rw [aJy] at h;rw [aP,aCh];simp only [anE,zz,aH];exact h
theorem aDi {s k c:D} {n:Nat} (S:Sx s k n) (hn:n<17592186043904) (hc:c.l.length<=140737488351232):L 3300 [enc s,enc k,enc c,enc s,enc k,enc c]=some [1]:=by have h1:=S.same hn;have h2:=aAX c hc;rw [aP,aCi];simp only [anG,zz,h1,h2,aC,aK]
theorem TU {a b:D} (h:a.l=b.l) (hd:a.l.length<=140737488351232): ∀(j i:Nat),i+j=a.l.length->L 2451 [enc a,enc b,(a.l.length:Int),(i:Int)]=some [1]
 |0,i,hi=>by
  have c1: ¬(i:Int)<(a.l.length:Int):=by omega
  rw [aP,atA];simp only [aeB,zz,c1,aK]
 |j+1,i,hi=>by
  have c1:(i:Int)<(a.l.length:Int):=by omega
  have c2: ¬((i:Int)<0):=by omega
  have c3:(i:Int)<(b.l.length:Int):=by rw [<- h]; exact c1
  have w:=aZ (n:=i) (by omega);have ih:=TU h hd j (i+1) (by omega);have e:a.at (i:Int)=b.at (i:Int):=by unfold D.at; rw [h]
  rw [aP,atA];simp only [aeB,zz,c1,c2,c3,e,w,nG,and_self,aH,ih]
theorem arM {a b:D} (h:a.l=b.l) (hd:a.l.length<=140737488351232):L 2450 [enc a,enc b]=some [1]:=by
 have g:=TU h hd a.l.length 0 (by omega);have e:(a.l.length:Int)=(b.l.length:Int):=by rw [h]
 rw [aJy] at g;rw [aP,aCn];simp only [anK,zz,e,aH];rw [e] at g;exact g
end Go.As.Try
end

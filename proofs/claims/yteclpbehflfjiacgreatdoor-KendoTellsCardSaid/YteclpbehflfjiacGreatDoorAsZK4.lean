import Derived.Test.YteclpbehflfjiacGreatDoorAsZK3
set_option linter.unusedSectionVars false
set_option linter.unusedVariables false
set_option linter.unusedSimpArgs false
section
namespace Go.As.Try
open Go hiding Stat Spec shape
open Go.As
set_option maxRecDepth 100000
section
variable {u:T Lf} {Q:RS}
def ops:List Int:=[1,2,8,3,4,5,6,7,9,11,10,17,18,19,22,23,20,21,12,13,14,24,15,25,16,26]
abbrev Yo (k:Int):List SB:=[.eq (.dH 4) (.lit k)]
abbrev No (k:Int):List SB:=(ops.filter fun j=>!(j == k)).map fun j=> .eq (.dH 4) (.lit j)
abbrev p3:T Lf:=prune (YG++YA3) (NG++NA3) jr
abbrev p4:T Lf:=prune (YG++YA4) (NG++NA4) jr
abbrev p5:T Lf:=prune (YG++YA5) (NG++NA5) jr
abbrev p6:T Lf:=prune (YG++YA6) (NG++NA6) jr
section
variable {d0 d1 s r v:D} {th op obj arg tries o c dn g:Int}
theorem n! {ρ:Nat->Int}: ∀{l:List SB},(∀c∈l,¬c.den ρ=true)->zW ρ l
 |[],_=>trivial
 |c::l,h=> ⟨h c ad,n! fun x hx=>h x (aw3 _ hx)⟩
theorem fO (k:Int):zY (dG d0 d1 s th k obj arg tries) (Yo k)/\zW (dG d0 d1 s th k obj arg tries) (No k):=by
 refine⟨by simp only [zz],n! fun c hc=>?_⟩;obtain⟨j,hj,rfl⟩:=aQ.1 hc;have:=(axh.1 hj).2;simp only [zz];intro h
 grind
theorem ZQ (H:TH d0 d1 s th op obj arg tries o c dn g r v) (hr:0<r.l.length) (hv:0<v.l.length):eA (dG d0 d1 s th op obj arg tries) p3=eA (dG d0 d1 s th op obj arg tries) jr:=dK (z2 (fG H) (fA3 H hr hv)) jr
theorem ZP (H:TH d0 d1 s th op obj arg tries o c dn g r v) (hr:0<r.l.length) (hv:v.l= []):eA (dG d0 d1 s th op obj arg tries) p4=eA (dG d0 d1 s th op obj arg tries) jr:=dK (z2 (fG H) (fA4 H hr hv)) jr
theorem sp5 (H:TH d0 d1 s th op obj arg tries o c dn g r v) (hr:r.l= []) (hv:0<v.l.length):eA (dG d0 d1 s th op obj arg tries) p5=eA (dG d0 d1 s th op obj arg tries) jr:=dK (z2 (fG H) (fA5 H hr hv)) jr
theorem sp6 (H:TH d0 d1 s th op obj arg tries o c dn g r v) (hr:r.l= []) (hv:v.l= []):eA (dG d0 d1 s th op obj arg tries) p6=eA (dG d0 d1 s th op obj arg tries) jr:=dK (z2 (fG H) (fA6 H hr hv)) jr
theorem jd {k:Int} {t:T Lf} (e:prune (Yo k) (No k) t=u) (h:eA (dG d0 d1 s th k obj arg tries) u=Q):eA (dG d0 d1 s th k obj arg tries) t=Q:=by rw [<- dK (fO k) t,e,h]
theorem je (H:TH d0 d1 s th op obj arg tries o c dn g r v) (e3:prune (Yo op) (No op) p3=u) (e4:prune (Yo op) (No op) p4=u) (e5:prune (Yo op) (No op) p5=u) (e6:prune (Yo op) (No op) p6=u) (h:eA (dG d0 d1 s th op obj arg tries) u=Q):eA (dG d0 d1 s th op obj arg tries) jr=Q:=by
 rcases gv r.l with hr|hr<;>rcases gv v.l with hv|hv
 ·exact (sp6 H hr hv).symm.trans (jd e6 h)
 ·exact (sp5 H hr hv).symm.trans (jd e5 h)
 ·exact (ZP H hr hv).symm.trans (jd e4 h)
 ·exact (ZQ H hr hv).symm.trans (jd e3 h)
theorem o1 (H:TH d0 d1 s th 1 obj arg tries o c dn g r v):eA (dG d0 d1 s th 1 obj arg tries) jr=Gl d0 s th 1 obj arg tries o c dn g r v:=je H (u:=zt0) aa aa aa aa (sm0 H)
theorem o2 (H:TH d0 d1 s th 2 obj arg tries o c dn g r v):eA (dG d0 d1 s th 2 obj arg tries) jr=Gl d0 s th 2 obj arg tries o c dn g r v:=je H (u:=zt1) aa aa aa aa (sm1 H)
theorem o8 (H:TH d0 d1 s th 8 obj arg tries o c dn g r v):eA (dG d0 d1 s th 8 obj arg tries) jr=Gl d0 s th 8 obj arg tries o c dn g r v:=je H (u:=zt1) aa aa aa aa (sm2 H)
theorem o3 (H:TH d0 d1 s th 3 obj arg tries o c dn g r v):eA (dG d0 d1 s th 3 obj arg tries) jr=Gl d0 s th 3 obj arg tries o c dn g r v:=je H (u:=zt2) aa aa aa aa (sm3 H)
theorem o4 (H:TH d0 d1 s th 4 obj arg tries o c dn g r v):eA (dG d0 d1 s th 4 obj arg tries) jr=Gl d0 s th 4 obj arg tries o c dn g r v:=je H (u:=zt3) aa aa aa aa (sm4 H)
theorem o5 (H:TH d0 d1 s th 5 obj arg tries o c dn g r v):eA (dG d0 d1 s th 5 obj arg tries) jr=Gl d0 s th 5 obj arg tries o c dn g r v:=by
 rcases gv r.l with hr|hr<;>rcases gv v.l with hv|hv
 ·exact (sp6 H hr hv).symm.trans (jd (u:=alQ) aa (arX H hr))
 ·exact (sp5 H hr hv).symm.trans (jd (u:=alQ) aa (arX H hr))
 ·exact (ZP H hr hv).symm.trans (jd (u:=zt4) aa (sm5 H hr))
 ·exact (ZQ H hr hv).symm.trans (jd (u:=zt4) aa (sm5 H hr))
theorem o6 (H:TH d0 d1 s th 6 obj arg tries o c dn g r v):eA (dG d0 d1 s th 6 obj arg tries) jr=Gl d0 s th 6 obj arg tries o c dn g r v:=by
 rcases gv r.l with hr|hr<;>rcases gv v.l with hv|hv
 ·exact (sp6 H hr hv).symm.trans (jd (u:=zt5) aa (sm6 H (by rw [lz hr]; omega)))
 ·exact (sp5 H hr hv).symm.trans (jd (u:=zt5) aa (sm6 H (by rw [lz hr]; omega)))
 ·by_cases hk:place r th<0
  ·exact (ZP H hr hv).symm.trans ((dK (fK0 H hk) _).symm.trans (jd (u:=zt5) aa (sm6 H hk)))
  ·exact (ZP H hr hv).symm.trans ((dK (fK1 H hk) _).symm.trans (jd (u:=zt6) aa (sm7 H hr hk)))
 ·by_cases hk:place r th<0
  ·exact (ZQ H hr hv).symm.trans ((dK (fK0 H hk) _).symm.trans (jd (u:=zt5) aa (sm6 H hk)))
  ·exact (ZQ H hr hv).symm.trans ((dK (fK1 H hk) _).symm.trans (jd (u:=zt6) aa (sm7 H hr hk)))
theorem o7 (H:TH d0 d1 s th 7 obj arg tries o c dn g r v):eA (dG d0 d1 s th 7 obj arg tries) jr=Gl d0 s th 7 obj arg tries o c dn g r v:=by
 rcases gv r.l with hr|hr<;>rcases gv v.l with hv|hv
 ·exact (sp6 H hr hv).symm.trans (jd (u:=zt0) aa (arW H hr))
 ·exact (sp5 H hr hv).symm.trans (jd (u:=zt0) aa (arW H hr))
 ·exact (ZP H hr hv).symm.trans (jd (u:=zt7) aa (sm8 H hr))
 ·exact (ZQ H hr hv).symm.trans (jd (u:=zt7) aa (sm8 H hr))
theorem o9 (H:TH d0 d1 s th 9 obj arg tries o c dn g r v):eA (dG d0 d1 s th 9 obj arg tries) jr=Gl d0 s th 9 obj arg tries o c dn g r v:=je H (u:=zt8) aa aa aa aa (sm9 H)
theorem o11 (H:TH d0 d1 s th 11 obj arg tries o c dn g r v):eA (dG d0 d1 s th 11 obj arg tries) jr=Gl d0 s th 11 obj arg tries o c dn g r v:=je H (u:=zt9) aa aa aa aa (auX H)
theorem o10 (H:TH d0 d1 s th 10 obj arg tries o c dn g r v):eA (dG d0 d1 s th 10 obj arg tries) jr=Gl d0 s th 10 obj arg tries o c dn g r v:=je H (u:=apU) aa aa aa aa (auW H)
theorem o17 (H:TH d0 d1 s th 17 obj arg tries o c dn g r v):eA (dG d0 d1 s th 17 obj arg tries) jr=Gl d0 s th 17 obj arg tries o c dn g r v:=je H (u:=apT) aa aa aa aa (auV H)
theorem o18 (H:TH d0 d1 s th 18 obj arg tries o c dn g r v):eA (dG d0 d1 s th 18 obj arg tries) jr=Gl d0 s th 18 obj arg tries o c dn g r v:=je H (u:=apS) aa aa aa aa (auU H)
theorem o19 (H:TH d0 d1 s th 19 obj arg tries o c dn g r v):eA (dG d0 d1 s th 19 obj arg tries) jr=Gl d0 s th 19 obj arg tries o c dn g r v:=je H (u:=apR) aa aa aa aa (auT H)
theorem o22 (H:TH d0 d1 s th 22 obj arg tries o c dn g r v):eA (dG d0 d1 s th 22 obj arg tries) jr=Gl d0 s th 22 obj arg tries o c dn g r v:=je H (u:=apQ) aa aa aa aa (auS H)
theorem o23 (H:TH d0 d1 s th 23 obj arg tries o c dn g r v):eA (dG d0 d1 s th 23 obj arg tries) jr=Gl d0 s th 23 obj arg tries o c dn g r v:=je H (u:=apP) aa aa aa aa (auR H)
theorem o20 (H:TH d0 d1 s th 20 obj arg tries o c dn g r v):eA (dG d0 d1 s th 20 obj arg tries) jr=Gl d0 s th 20 obj arg tries o c dn g r v:=by
 rcases gv r.l with hr|hr<;>rcases gv v.l with hv|hv
 ·exact (sp6 H hr hv).symm.trans (jd (u:=alS) aa (arZ H hv))
 ·exact (sp5 H hr hv).symm.trans (jd (u:=alX) aa (ar4 H hv))
 ·exact (ZP H hr hv).symm.trans (jd (u:=alS) aa (arZ H hv))
 ·exact (ZQ H hr hv).symm.trans (jd (u:=alX) aa (ar4 H hv))
theorem o21 (H:TH d0 d1 s th 21 obj arg tries o c dn g r v):eA (dG d0 d1 s th 21 obj arg tries) jr=Gl d0 s th 21 obj arg tries o c dn g r v:=by
 rcases gv r.l with hr|hr<;>rcases gv v.l with hv|hv
 ·exact (sp6 H hr hv).symm.trans (jd (u:=alR) aa (arY H hv))
 ·exact (sp5 H hr hv).symm.trans (jd (u:=alW) aa (ar3 H hv))
 ·exact (ZP H hr hv).symm.trans (jd (u:=alR) aa (arY H hv))
 ·exact (ZQ H hr hv).symm.trans (jd (u:=alW) aa (ar3 H hv))
theorem o12 (H:TH d0 d1 s th 12 obj arg tries o c dn g r v):eA (dG d0 d1 s th 12 obj arg tries) jr=Gl d0 s th 12 obj arg tries o c dn g r v:=by
 rcases gv r.l with hr|hr<;>rcases gv v.l with hv|hv
 ·have V:=agI r th obj (Mx d0 obj) (enc (dL (dg s.l (Mx d0 obj) (dL (dg (s.at (Mx d0 obj)).l 0 (.i (-1))))))) 12 arg tries o c dn g (enc v);exact (sp6 H hr hv).symm.trans ((dK (fM H J) _).symm.trans ((dK (av7 H V) _).symm.trans (jd (u:=alP) aa (arV H hr))))
 ·have V:=agJ r th obj (Mx d0 obj) (enc (dL (dg s.l (Mx d0 obj) (dL (dg (s.at (Mx d0 obj)).l 0 (.i (-1))))))) 12 arg tries o c dn g (enc v);exact (sp5 H hr hv).symm.trans ((dK (fM H J) _).symm.trans ((dK (av8 H V) _).symm.trans (jd (u:=alP) aa (arV H hr))))
 ·rcases agK r th (by have:=H.hr; omega) H.hn with ⟨hw,V⟩|V
  ·have V:=V obj (Mx d0 obj) (enc (dL (dg s.l (Mx d0 obj) (dL (dg (s.at (Mx d0 obj)).l 0 (.i (-1))))))) 12 arg tries o c dn g (enc v);exact (ZP H hr hv).symm.trans ((dK (fM H J) _).symm.trans ((dK (av9 H V) _).symm.trans (jd (u:=alV) aa (ar2 H hr hw))))
  ·obtain⟨n,r1,hn,Y,hw,V⟩:=V obj (Mx d0 obj) (enc (dL (dg s.l (Mx d0 obj) (dL (dg (s.at (Mx d0 obj)).l 0 (.i (-1))))))) 12 arg tries o c dn g (enc v);exact (ZP H hr hv).symm.trans ((dK (fM H J) _).symm.trans ((dK (awa H hn Y V) _).symm.trans (jd (u:=apJ) aa (auL H hr hv hn Y hw V))))
 ·rcases agL r th (by have:=H.hr; omega) H.hn with ⟨hw,V⟩|V
  ·have V:=V obj (Mx d0 obj) (enc (dL (dg s.l (Mx d0 obj) (dL (dg (s.at (Mx d0 obj)).l 0 (.i (-1))))))) 12 arg tries o c dn g (enc v);exact (ZQ H hr hv).symm.trans ((dK (fM H J) _).symm.trans ((dK (awb H V) _).symm.trans (jd (u:=alV) aa (ar2 H hr hw))))
  ·obtain⟨n,r1,hn,Y,hw,V⟩:=V obj (Mx d0 obj) (enc (dL (dg s.l (Mx d0 obj) (dL (dg (s.at (Mx d0 obj)).l 0 (.i (-1))))))) 12 arg tries o c dn g (enc v);exact (ZQ H hr hv).symm.trans ((dK (fM H J) _).symm.trans ((dK (awc H hn Y V) _).symm.trans (jd (u:=apO) aa (auQ H hr hv hn Y hw V))))
theorem o13 (H:TH d0 d1 s th 13 obj arg tries o c dn g r v):eA (dG d0 d1 s th 13 obj arg tries) jr=Gl d0 s th 13 obj arg tries o c dn g r v:=by
 rcases gv r.l with hr|hr<;>rcases gv v.l with hv|hv
 ·exact (sp6 H hr hv).symm.trans (jd (u:=alO) aa (arU H hr))
 ·exact (sp5 H hr hv).symm.trans (jd (u:=alO) aa (arU H hr))
 ·exact (ZP H hr hv).symm.trans (jd (u:=alU) aa (ar1 H hr))
 ·exact (ZQ H hr hv).symm.trans (jd (u:=alU) aa (ar1 H hr))
theorem o14 (H:TH d0 d1 s th 14 obj arg tries o c dn g r v):eA (dG d0 d1 s th 14 obj arg tries) jr=Gl d0 s th 14 obj arg tries o c dn g r v:=by
 rcases gv r.l with hr|hr<;>rcases gv v.l with hv|hv
 ·exact (sp6 H hr hv).symm.trans (jd (u:=alN) aa (arT H hr))
 ·exact (sp5 H hr hv).symm.trans (jd (u:=alN) aa (arT H hr))
 ·exact (ZP H hr hv).symm.trans (jd (u:=alT) aa (ar0 H hr))
 ·exact (ZQ H hr hv).symm.trans (jd (u:=alT) aa (ar0 H hr))
theorem o24 (H:TH d0 d1 s th 24 obj arg tries o c dn g r v):eA (dG d0 d1 s th 24 obj arg tries) jr=Gl d0 s th 24 obj arg tries o c dn g r v:=by
 rcases gv r.l with hr|hr<;>rcases gv v.l with hv|hv
 ·exact (sp6 H hr hv).symm.trans ((dK (fM H J) _).symm.trans (jd (u:=g!) aa (afv H)))
 ·exact (sp5 H hr hv).symm.trans ((dK (fM H J) _).symm.trans (jd (u:=g!) aa (afv H)))
 ·exact (ZP H hr hv).symm.trans ((dK (fM H J) _).symm.trans (jd (u:=g!) aa (afv H)))
 ·exact (ZQ H hr hv).symm.trans ((dK (fM H J) _).symm.trans (jd (u:=g!) aa (afv H)))
theorem o15 (H:TH d0 d1 s th 15 obj arg tries o c dn g r v):eA (dG d0 d1 s th 15 obj arg tries) jr=Gl d0 s th 15 obj arg tries o c dn g r v:=je H (u:=apN) aa aa aa aa (auP H)
theorem o25 (H:TH d0 d1 s th 25 obj arg tries o c dn g r v):eA (dG d0 d1 s th 25 obj arg tries) jr=Gl d0 s th 25 obj arg tries o c dn g r v:=je H (u:=apM) aa aa aa aa (auO H)
theorem o16 (H:TH d0 d1 s th 16 obj arg tries o c dn g r v):eA (dG d0 d1 s th 16 obj arg tries) jr=Gl d0 s th 16 obj arg tries o c dn g r v:=je H (u:=apL) aa aa aa aa (auN H)
theorem o26 (H:TH d0 d1 s th 26 obj arg tries o c dn g r v):eA (dG d0 d1 s th 26 obj arg tries) jr=Gl d0 s th 26 obj arg tries o c dn g r v:=je H (u:=apK) aa aa aa aa (auM H)
theorem ae8 (H:TH d0 d1 s th op obj arg tries o c dn g r v) (pb:op∈ops):L 400 [enc d0,enc d1,enc s,th,op,obj,arg,tries]=some (Ge s th op obj (Mx d0 obj) (act (Mx d0 obj) (Mo d0 s obj) th op arg tries o c dn g r v)):=by
 rw [bB,aph]
 suffices h:eA (dG d0 d1 s th op obj arg tries) jr=Gl d0 s th op obj arg tries o c dn g r v by rw [h]; rfl
 unfold ops at pb;simp only [aF,aw7,or_false] at pb;rcases pb with rfl|rfl|rfl|rfl|rfl|rfl|rfl|rfl|rfl|rfl|rfl|rfl|rfl|rfl|rfl|rfl|rfl|rfl|rfl|rfl|rfl|rfl|rfl|rfl|rfl|rfl
 ·exact o1 H
 ·exact o2 H
 ·exact o8 H
 ·exact o3 H
 ·exact o4 H
 ·exact o5 H
 ·exact o6 H
 ·exact o7 H
 ·exact o9 H
 ·exact o11 H
 ·exact o10 H
 ·exact o17 H
 ·exact o18 H
 ·exact o19 H
 ·exact o22 H
 ·exact o23 H
 ·exact o20 H
 ·exact o21 H
 ·exact o12 H
 all_goals grind [o13,o14,o24,o15,o25,o16,o26]
end
end
abbrev aaG:T Lf:=ou [.op .set (bY 2) (thg (mk (bY 3)) (mk (bY 4)) bt (mk (bY 6)) (bY 7) (bY 8)),.lit 0,.lit 0,.lit 0,.lit 0,.lit 0,.lit 0]
abbrev Ya (a:Int):List SB:=[.eq (a0 9000 [.dH 5,.dH 2]) (.lit 1),.eq (bY 0) (.lit a),.eq (a0 350 [.dH 0,.dH 1,.dH 2]) (.lit 1)]
abbrev Na (a:Int):List SB:=([0,1,2,3,4,5].filter fun j=>!(j == a)).map fun j=> .eq (bY 0) (.lit j)
abbrev r3:SB:=.eq (rr 350 [.dH 0,.dH 1,.dH 2] 0) (.lit 0)
abbrev t3:SB:=.lt (.dH 3) (.lit 0)
abbrev u3:SB:=.lt (.dH 3) (ln (.dH 1))
section
variable {d0 d1 s r v:D} {th op obj arg tries o c dn g b kop a:Int} (hR:L 350 [enc d0,enc d1,enc s]=some [b])
include hR
theorem fa {l:List Int} (hc:L 9000 [obj,enc s]=some (a::l)):zY (dG d0 d1 s th op obj arg tries) (Ya a)/\zW (dG d0 d1 s th op obj arg tries) (Na a):=by
 refine⟨by simp only [zz,hc,hR],n! fun c LV=>?_⟩;obtain⟨j,hj,rfl⟩:=aQ.1 LV;have:=(axh.1 hj).2;simp only [zz,hc];intro h
 grind
theorem tf (k:eA (dG d0 d1 s th op obj arg tries) jr= .out [enc s,0,0,0,0,0,0]):L 400 [enc d0,enc d1,enc s,th,op,obj,arg,tries]=some [enc s,0,0,0,0,0,0]:=by rw [bB,aph];exact congrArg (fin L) k
section
variable (ha:a=3\/a=4\/a=5\/a=6) (eR:L 9000 [obj,enc s]=some [a,obj,enc s,o,c,dn,g,enc r,enc v]) (lV:0<=obj) (jm:obj<(s.l.length:Int)) (V:dn=0\/dn=1) (hs:s=dL (dg s.l obj (dL [.i o,.i c,.i dn,.i g,r,v])))
include ha eR lV jm V hs
omit ha hR lV jm in
theorem EU:eA (dG d0 d1 s th op obj arg tries) aaG= .out [enc s,0,0,0,0,0,0]:=by
 have e:(if dn=0 then (0:Int) else 1)=dn:=by rcases V with rfl|rfl<;>rfl
 simp only [dL] at hs;simp only [zz,eR,e,<- hs]
theorem au1 (h:b=0):L 400 [enc d0,enc d1,enc s,th,op,obj,arg,tries]=some [enc s,0,0,0,0,0,0]:=
 tf hR (cg (Ya a++ [r3]) (Na a++ []) aaG (z2 (fa hR eR) (by simp only [zz,eR,hR]<;>omega)) (by rcases ha with rfl|rfl|rfl|rfl<;>kernel_rfl) (EU eR V hs))
theorem au0 (hb:b≠0) (h:th<0):L 400 [enc d0,enc d1,enc s,th,op,obj,arg,tries]=some [enc s,0,0,0,0,0,0]:=
 tf hR (cg (Ya a++ [t3]) (Na a++ [r3]) aaG (z2 (fa hR eR) (by simp only [zz,eR,hR]<;>omega)) (by rcases ha with rfl|rfl|rfl|rfl<;>kernel_rfl) (EU eR V hs))
theorem auZ (hb:b≠0) (h0:0<=th) (h: ¬th<(d1.l.length:Int)):L 400 [enc d0,enc d1,enc s,th,op,obj,arg,tries]=some [enc s,0,0,0,0,0,0]:=
 tf hR (cg (Ya a++ []) (Na a++ [r3,t3,u3]) aaG (z2 (fa hR eR) (by simp only [zz,eR,hR]<;>omega)) (by rcases ha with rfl|rfl|rfl|rfl<;>kernel_rfl) (EU eR V hs))
theorem au2 (hb:b≠0) (h0:0<=th) (h:th<(d1.l.length:Int)) (hk:L 600 [op]=some [kop]) (hlen:s.l.length=d0.l.length) (jK: ¬kop=((d0.at obj).V 0).n):L 400 [enc d0,enc d1,enc s,th,op,obj,arg,tries]=some [enc s,0,0,0,0,0,0]:=
 tf hR (cg (Ya a++ [u3,.lt (.dH 5) (ln (bY 2)),.eq (a0 600 [.dH 4]) (.lit 1),.lt (.dH 5) (ln (.dH 0))]) (Na a++ [r3,t3,.lt (.dH 5) (.lit 0),.eq (rr 600 [.dH 4] 0) (nm (ce 0 (el (.dH 0) (.dH 5))))]) aaG (z2 (fa hR eR) (by simp only [zz,eR,hR,hk]<;>omega)) (by rcases ha with rfl|rfl|rfl|rfl<;>kernel_rfl) (EU eR V hs))
end
theorem asg (eR:L 9000 [obj,enc s]=some [0,obj,enc s]) (h:obj<0):L 400 [enc d0,enc d1,enc s,th,op,obj,arg,tries]=some [enc s,0,0,0,0,0,0]:=
 tf hR (cg (Ya 0++ [.lt (.dH 5) (.lit 0)]) (Na 0++ []) (sp r3 (ou [bY 2,.lit 0,.lit 0,.lit 0,.lit 0,.lit 0,.lit 0]) (sp t3 (ou [bY 2,.lit 0,.lit 0,.lit 0,.lit 0,.lit 0,.lit 0]) (sp u3 (ou [bY 2,.lit 0,.lit 0,.lit 0,.lit 0,.lit 0,.lit 0]) (ou [bY 2,.lit 0,.lit 0,.lit 0,.lit 0,.lit 0,.lit 0])))) (z2 (fa hR eR) (by simp only [zz,eR]<;>omega)) aa (by simp only [zz,eR,hR,ite_self]))
theorem asf (eR:L 9000 [obj,enc s]=some [0,obj,enc s]) (h0:0<=obj) (h: ¬obj<(s.l.length:Int)):L 400 [enc d0,enc d1,enc s,th,op,obj,arg,tries]=some [enc s,0,0,0,0,0,0]:=
 tf hR (cg (Ya 0++ []) (Na 0++ [.lt (.dH 5) (.lit 0),.lt (.dH 5) (ln (bY 2))]) (sp r3 (ou [bY 2,.lit 0,.lit 0,.lit 0,.lit 0,.lit 0,.lit 0]) (sp t3 (ou [bY 2,.lit 0,.lit 0,.lit 0,.lit 0,.lit 0,.lit 0]) (sp u3 (ou [bY 2,.lit 0,.lit 0,.lit 0,.lit 0,.lit 0,.lit 0]) (ou [bY 2,.lit 0,.lit 0,.lit 0,.lit 0,.lit 0,.lit 0])))) (z2 (fa hR eR) (by simp only [zz,eR]<;>omega)) aa (by simp only [zz,eR,hR,ite_self]))
theorem ase (eR:L 9000 [obj,enc s]=some [1,obj]) (h:obj<0) (hs:s= .i 1):L 400 [enc d0,enc d1,enc s,th,op,obj,arg,tries]=some [enc s,0,0,0,0,0,0]:=
 tf hR (cg (Ya 1++ [.lt (.dH 5) (.lit 0)]) (Na 1++ []) (sp r3 (ou [.eS (.i 1),.lit 0,.lit 0,.lit 0,.lit 0,.lit 0,.lit 0]) (sp t3 (ou [.eS (.i 1),.lit 0,.lit 0,.lit 0,.lit 0,.lit 0,.lit 0]) (sp u3 (ou [.eS (.i 1),.lit 0,.lit 0,.lit 0,.lit 0,.lit 0,.lit 0]) (ou [.eS (.i 1),.lit 0,.lit 0,.lit 0,.lit 0,.lit 0,.lit 0])))) (z2 (fa hR eR) (by simp only [zz,eR]<;>omega)) aa (by simp only [zz,eR,hR,hs,ite_self]))
theorem asd (eR:L 9000 [obj,enc s]=some [1,obj]) (h0:0<=obj) (h: ¬obj<(s.l.length:Int)) (hs:s= .i 1):L 400 [enc d0,enc d1,enc s,th,op,obj,arg,tries]=some [enc s,0,0,0,0,0,0]:=
 tf hR (cg (Ya 1++ []) (Na 1++ [.lt (.dH 5) (.lit 0)]) (sp r3 (ou [.eS (.i 1),.lit 0,.lit 0,.lit 0,.lit 0,.lit 0,.lit 0]) (sp t3 (ou [.eS (.i 1),.lit 0,.lit 0,.lit 0,.lit 0,.lit 0,.lit 0]) (sp u3 (ou [.eS (.i 1),.lit 0,.lit 0,.lit 0,.lit 0,.lit 0,.lit 0]) (ou [.eS (.i 1),.lit 0,.lit 0,.lit 0,.lit 0,.lit 0,.lit 0])))) (z2 (fa hR eR) (by simp only [zz,eR]<;>omega)) aa (by simp only [zz,eR,hR,hs,ite_self]))
theorem asc (eR:L 9000 [obj,enc s]=some [2,obj]) (h:obj<0) (hs:s= .i 2):L 400 [enc d0,enc d1,enc s,th,op,obj,arg,tries]=some [enc s,0,0,0,0,0,0]:=
 tf hR (cg (Ya 2++ [.lt (.dH 5) (.lit 0)]) (Na 2++ []) (sp r3 (ou [.eS (.i 2),.lit 0,.lit 0,.lit 0,.lit 0,.lit 0,.lit 0]) (sp t3 (ou [.eS (.i 2),.lit 0,.lit 0,.lit 0,.lit 0,.lit 0,.lit 0]) (sp u3 (ou [.eS (.i 2),.lit 0,.lit 0,.lit 0,.lit 0,.lit 0,.lit 0]) (ou [.eS (.i 2),.lit 0,.lit 0,.lit 0,.lit 0,.lit 0,.lit 0])))) (z2 (fa hR eR) (by simp only [zz,eR]<;>omega)) aa (by simp only [zz,eR,hR,hs,ite_self]))
theorem asb (eR:L 9000 [obj,enc s]=some [2,obj]) (h0:0<=obj) (h: ¬obj<(s.l.length:Int)) (hs:s= .i 2):L 400 [enc d0,enc d1,enc s,th,op,obj,arg,tries]=some [enc s,0,0,0,0,0,0]:=
 tf hR (cg (Ya 2++ []) (Na 2++ [.lt (.dH 5) (.lit 0)]) (sp r3 (ou [.eS (.i 2),.lit 0,.lit 0,.lit 0,.lit 0,.lit 0,.lit 0]) (sp t3 (ou [.eS (.i 2),.lit 0,.lit 0,.lit 0,.lit 0,.lit 0,.lit 0]) (sp u3 (ou [.eS (.i 2),.lit 0,.lit 0,.lit 0,.lit 0,.lit 0,.lit 0]) (ou [.eS (.i 2),.lit 0,.lit 0,.lit 0,.lit 0,.lit 0,.lit 0])))) (z2 (fa hR eR) (by simp only [zz,eR]<;>omega)) aa (by simp only [zz,eR,hR,hs,ite_self]))
end
def kindOf (o:Int):Int:=if o<27 then (if o=0 then 0 else if o=1 then 1 else if o=2 then 1 else if o=3 then 1 else if o=4 then 1 else if o=5 then 2 else if o=6 then 2 else if o=7 then 2 else if o=8 then 2 else if o=9 then 3 else if o=10 then 3 else if o=11 then 3 else if o=12 then 4 else if o=13 then 4 else if o=14 then 4 else if o=15 then 5 else if o=16 then 6 else if o=17 then 7 else if o=18 then 7 else if o=19 then 7 else if o=20 then 8 else if o=21 then 8 else if o=22 then 9 else if o=23 then 9 else if o=24 then 4 else if o=25 then 5 else 6) else 0
theorem ON (o:Int) (h:fD .u8 o):L 600 [o]=some [kindOf o]:=by
 have U:=h.1;have w:=arx h;have c1: ¬(o<0):=J
 rw [bB,atT];simp only [arK,zz,w,c1];by_cases h27:o<27
 ·simp only [ag h27];have:o=0\/o=1\/o=2\/o=3\/o=4\/o=5\/o=6\/o=7\/o=8\/o=9\/o=10\/o=11\/o=12\/o=13\/o=14\/o=15\/o=16\/o=17\/o=18\/o=19\/o=20\/o=21\/o=22\/o=23\/o=24\/o=25\/o=26:=J
  rcases this with rfl|rfl|rfl|rfl|rfl|rfl|rfl|rfl|rfl|rfl|rfl|rfl|rfl|rfl|rfl|rfl|rfl|rfl|rfl|rfl|rfl|rfl|rfl|rfl|rfl|rfl|rfl
  all_goals rfl
 ·simp only [af h27];unfold kindOf;rw [af h27];rfl
theorem aa0 {o:Int} (h0:0<=o) (h:kindOf o≠0):o∈ops:=by
 have h27:o<27:=by
  refine Decidable.byContradiction fun hn=>h ?_;unfold kindOf
  grind
 have:o=0\/o=1\/o=2\/o=3\/o=4\/o=5\/o=6\/o=7\/o=8\/o=9\/o=10\/o=11\/o=12\/o=13\/o=14\/o=15\/o=16\/o=17\/o=18\/o=19\/o=20\/o=21\/o=22\/o=23\/o=24\/o=25\/o=26:=J
 rcases this with rfl|rfl|rfl|rfl|rfl|rfl|rfl|rfl|rfl|rfl|rfl|rfl|rfl|rfl|rfl|rfl|rfl|rfl|rfl|rfl|rfl|rfl|rfl|rfl|rfl|rfl|rfl
 all_goals first |exact absurd rfl h|decide
structure Acc (d0 d1 s:D) (th op obj:Int):Prop where
 r:L 350 [enc d0,enc d1,enc s]=some [1]
 t0:0<=th
 t1:th<(d1.l.length:Int)
 o0:0<=obj
 o1:obj<(s.l.length:Int)
 k:kindOf op=((d0.at obj).V 0).n
structure Tg (x:D) (o c dn g:Int) (r v:D):Prop where
 is:x=dL [.i o,.i c,.i dn,.i g,r,v]
 ho:fD .i64 o
 hc:fD .i64 c
 V:dn=0\/dn=1
 hg:fD .i64 g
 hr:Wd (.sl 0) r
 hv:Wd (.sl 0) v
theorem tu {x:D} (h:iY x): ∃o c dn g r v,Tg x o c dn g r v:=by obtain⟨o,c,d,g,r,v,U,Z,h3,h4,h5,h6,h7⟩:=h;exact⟨o,c,d,g,r,v,U,Z,h3,h4,h5,h6,h7⟩
theorem KH {r:D} (h:Wd (.sl 0) r): ∀x∈r.l,x= .i x.n:=by intro x hx;obtain⟨n,rfl,_⟩:=(h.el1 rfl x hx).i;rfl
def lD (s:D):Prop:= ∀x∈s.l,(x.V 4).l.length<17592186044415/\(x.V 5).l.length<17592186044415
theorem lD.rows {s:D} (h:lD s):zk s:=fun x hx=>by have:=(h x hx).1; omega
section
variable {d0 d1 s:D} {th op obj arg tries:Int} (h0:Wd (.sl 3) d0) (U:Wd (.sl 4) d1) (hs:Wd (.sl 7) s) (hf:lD s) (pb:fD .u8 op)
include h0 U hf in
theorem FV (h:L 350 [enc d0,enc d1,enc s]=some [1]):zq d0 d1/\s.l.length=d0.l.length:=by
 obtain⟨b,hb,_,hi⟩:=kP h0 U hf.rows;rw [h] at hb;simp only [ah,List.cons.injEq,and_true] at hb;obtain⟨hC,hle,_⟩:=hi.1 hb.symm;obtain⟨ys,hC',c,rfl,_,rW⟩:=Dj h0 U
 grind
include h0 U hf in
theorem M8 (A:Acc d0 d1 s th op obj):AM d0 (d0.at obj)/\s.l.length=d0.l.length:=by
 obtain⟨rW,hle⟩:=FV h0 U hf A.r;refine⟨?_,hle⟩;have a1:=A.o0; have a2:=A.o1;obtain⟨i,rfl⟩ : ∃i:Nat,obj=(i:Int):=⟨obj.toNat,J⟩;have hi:i<d0.l.length:=J
 rw [bF hi];exact rW.2.2 _ (aq hi)
include h0 U hs hf pb
theorem HV (A:Acc d0 d1 s th op obj) (h:op=12\/op=24):0<=Mx d0 obj/\Mx d0 obj<(s.l.length:Int)/\Mx d0 obj≠obj:=by
 obtain⟨ho,hle⟩:=M8 h0 U hf A
 have h4:((d0.at obj).V 0).n=4:=by rw [<- A.k];rcases h with rfl|rfl<;>rfl
 obtain⟨m1,m2,m3⟩:=ho.2.2.2.2.2 h4
 grind
theorem Aq (A:Acc d0 d1 s th op obj):op∈ops/\∃o c dn g r v,Tg (s.at obj) o c dn g r v/\
 L 400 [enc d0,enc d1,enc s,th,op,obj,arg,tries]=some (Ge s th op obj (Mx d0 obj) (act (Mx d0 obj) (Mo d0 s obj) th op arg tries o c dn g r v)):=by
 obtain⟨ho,hle⟩:=M8 h0 U hf A;have sj:op∈ops:=aa0 pb.1 (by rw [A.k]; have:=ho.1; omega);have a1:=A.o0; have a2:=A.o1;obtain⟨i,rfl⟩ : ∃i:Nat,obj=(i:Int):=⟨obj.toNat,J⟩;have hi:i<s.l.length:=J
 have ht:=yF hs J;obtain⟨o,c,dn,g,r,v,T⟩:=tu (hs.j7 _ (aq hi));have hfx:=hf _ (aq hi);rw [T.is] at hfx;have Bc:L 600 [op]=some [((d0.at (i:Int)).V 0).n]:=by rw [ON op pb,A.k]
 refine⟨sj,o,c,dn,g,r,v,by rw [bF hi]; exact T,?_⟩;refine ae8 ⟨alA s ht i hi o c dn g r v T.is,aec s hs,A.r,A.t0,A.t1,A.o0,A.o1,hle,Bc,?_,?_,(KH T.hr),fun h=>HV h0 U hs hf pb A h⟩ sj
 ·have:(r.l.length:Int)<17592186044415:=ax4.2 hfx.1
  grind
 ·have:(v.l.length:Int)<17592186044415:=ax4.2 hfx.2
  grind
theorem Fw (A: ¬Acc d0 d1 s th op obj):L 400 [enc d0,enc d1,enc s,th,op,obj,arg,tries]=some [enc s,0,0,0,0,0,0]:=by
 obtain⟨b,hb,yQ,_⟩:=kP h0 U hf.rows;by_cases ho:0<=obj/\obj<(s.l.length:Int)
 ·obtain⟨i,rfl⟩ : ∃i:Nat,obj=(i:Int):=⟨obj.toNat,J⟩;have hi:i<s.l.length:=J
  have ht:=yF hs J;obtain⟨o,c,dn,g,r,v,T⟩:=tu (hs.j7 _ (aq hi));have eR:=alA s ht i hi o c dn g r v T.is
  have hss:s=dL (dg s.l (i:Int) (dL [.i o,.i c,.i dn,.i g,r,v])):=by
   have:=fb ht.sh hi;rw [T.is] at this
   grind
  have Bc:=ON op pb
  have key: ∀alt:Int,(alt=3\/alt=4\/alt=5\/alt=6)->L 9000 [(i:Int),enc s]=some [alt,(i:Int),enc s,o,c,dn,g,enc r,enc v]->L 400 [enc d0,enc d1,enc s,th,op,(i:Int),arg,tries]=some [enc s,0,0,0,0,0,0]:=by
   intro alt ha eR;by_cases mT:b=0
   ·exact au1 hb ha eR ho.1 ho.2 T.V hss mT
   ·have Iu:b=1:=J
    by_cases t0:th<0
    ·exact au0 hb ha eR ho.1 ho.2 T.V hss mT t0
    ·by_cases t1:th<(d1.l.length:Int)
     ·have jK: ¬kindOf op=((d0.at (i:Int)).V 0).n:=fun hk=>A ⟨by rw [hb,Iu],J,t1,ho.1,ho.2,hk⟩;obtain⟨_,hle⟩:=FV h0 U hf (by rw [hb,Iu]);exact au2 hb ha eR ho.1 ho.2 T.V hss mT J t1 Bc hle jK
     ·exact auZ hb ha eR ho.1 ho.2 T.V hss mT J t1
  refine key _ ?_ eR;unfold mA
  grind
 ·obtain⟨ys,hc,JW⟩:=at2 s hs obj J;by_cases hn:obj<0
  ·rcases JW with rfl|⟨rfl,he⟩|⟨rfl,he⟩
   ·exact asg hb hc hn
   ·exact ase hb hc hn he
   ·exact asc hb hc hn he
  ·rcases JW with rfl|⟨rfl,he⟩|⟨rfl,he⟩
   ·exact asf hb hc J J
   ·exact asd hb hc J J he
   ·exact asb hb hc J J he
end
section
variable {l:List D} {n:Nat} {p:Prop} {a b:Act}
theorem EN {d:D} (h: ∀x∈l,∃n,x= .i n/\fD .i64 n) (Y:l.length<=17592186043904):Wd (.sl 0) (fu d l):=by
 cases l with
 |nil=>
  show Wd (.sl 0) (if d= .i 1 then .i 1 else .i 2);split
  ·exact .nil 0
  ·exact .wL 0
 |cons a l=> refine .one 0 (.int .i64) (a::l) rfl ad (by have:l4 0=8:=rfl; rw [this]; omega) fun x hx=>?_;obtain⟨n,rfl,hn⟩:=h x hx;exact .int _ _ hn
theorem ug (h: ∀x∈l,∃n,x= .i n/\fD .i64 n) (hn:l≠[]) (Y:l.length<=17592186043904):Wd (.sl 0) (dL l):=by rw [<- BM (d:=.i 2) hn];exact EN h Y
theorem uh {r:D} (h:Wd (.sl 0) r): ∀x∈r.l,∃n,x= .i n/\fD .i64 n:=fun x hx=>(h.el1 rfl x hx).i
theorem so (z:Int):fD .i64 (IntKind.i64.wrap z):=by constructor<;>(rw [IntKind.wrap_i64]; omega)
def H8 (n:Nat):Act->Prop
 | .res o c dn g r v m _ oc=>fD .i64 o/\fD .i64 c/\(dn=0\/dn=1)/\fD .i64 g/\Wd (.sl 0) r/\r.l.length<=n/\Wd (.sl 0) v/\v.l.length<=n/\(∀q,m=some q->fD .i64 q)/\(oc=2\/oc=3)
 |_=>True
theorem H8.ite [Decidable p] (ha:H8 n a) (hb:H8 n b):H8 n (if p then a else b):=by
 grind
def NoM:Act->Prop
 | .res _ _ _ _ _ _ m _ _=>m=none
 |_=>True
theorem NoM.ite [Decidable p] (ha:NoM a) (hb:NoM b):NoM (if p then a else b):=by
 grind
section
variable {x:D} {M mo th op arg tries o c dn g:Int} {r v:D}
theorem apz (T:Tg x o c dn g r v) (hr:r.l.length<=n) (hv:v.l.length<=n) (hn:n<17592186043904) (ht:fD .i64 th) (ha:fD .i64 arg):H8 (n+1) (act M mo th op arg tries o c dn g r v):=by
 have hm:fD .i64 (-1):=⟨J,J⟩;have hz:fD .i64 0:=⟨J,J⟩;have e1: ∀q:Int,(none:Option Int)=some q->fD .i64 q:=fun q h=>by simp at h
 have e2: ∀{p:Int},fD .i64 p->∀q:Int,some p=some q->fD .i64 q:=fun hp q h=>by simp only [ah] at h; exact h▸hp
 have hr1:r.l.length<=n+1:=J
 have hv1:v.l.length<=n+1:=J
 have w:=@so
 have sn: ∀{l:List D} {t:Int},(∀x∈l,∃n,x= .i n/\fD .i64 n)->fD .i64 t->∀x∈l++ [.i t],∃n,x= .i n/\fD .i64 n:=fun h ht x hx=>by
  grind
 have r5:Wd (.sl 0) (dL (r.l++ [.i th])):=ug (sn (uh T.hr) ht) ad (by simp; omega);have l5:(dL (r.l++ [.i th])).l.length<=n+1:=by rw [bz]; simp; omega
 have r20:Wd (.sl 0) (dL (v.l++ [.i arg])):=ug (sn (uh T.hv) ha) ad (by simp; omega);have l20:(dL (v.l++ [.i arg])).l.length<=n+1:=by rw [bz]; simp; omega
 have r12:Wd (.sl 0) (dL (wo th r.l++ [.i th])):=ug (sn (fun x hx=>(uh T.hr) x (axh.1 hx).1) ht) ad (by have:=KG th r.l; simp; omega);have l12:(dL (wo th r.l++ [.i th])).l.length<=n+1:=by have:=KG th r.l; rw [bz]; simp; omega
 have r6: ∀k,Wd (.sl 0) (fu (.i 2) (r.l.take k++r.l.drop (k+1))):=fun k=>EN (fun x hx=>by
  rcases aw5.1 hx with hx|hx
  ·exact (uh T.hr) x (awT hx)
  ·exact (uh T.hr) x (awR hx)) (by simp only [aZ,aY,bp]; omega)
 have l6: ∀k,(fu (.i 2) (r.l.take k++r.l.drop (k+1))).l.length<=n+1:=fun k=>by rw [bP]; simp only [aZ,aY,bp]; omega
 have r21:Wd (.sl 0) (fu v (v.l.drop 1)):=EN (fun x hx=>(uh T.hv) x (awR hx)) (by simp; omega);have l21:(fu v (v.l.drop 1)).l.length<=n+1:=by rw [bP]; simp; omega
 have r13:Wd (.sl 0) (fu r (r.l.drop 1)):=EN (fun x hx=>(uh T.hr) x (awR hx)) (by simp; omega);have l13:(fu r (r.l.drop 1)).l.length<=n+1:=by rw [bP]; simp; omega
 have r14:Wd (.sl 0) (.i 1):=.nil 0;have l14:(D.i 1).l.length<=n+1:=by simp [D.l]
 unfold act
 repeat' refine H8.ite ?_ ?_
 all_goals first
  |trivial
  |exact⟨by first |exact T.ho|exact ht|exact hm,by first |exact T.hc|exact w _|exact ha|exact hz,by first |exact T.V|exact .inr rfl,by first |exact T.hg|exact w _,by first |exact T.hr|exact r5|exact r6 _|exact r12|exact r13|exact r14,by first |exact hr1|exact l5|exact l6 _|exact l12|exact l13|exact l14,by first |exact T.hv|exact r20|exact r21,by first |exact hv1|exact l20|exact l21,by first |exact e1|exact e2 hm|exact e2 ht,by first |exact .inl rfl|exact .inr rfl⟩
theorem Zp (h12:op≠12) (h24:op≠24):NoM (act M mo th op arg tries o c dn g r v):=by
 unfold act;rw [af h12,af h24]
 repeat' refine NoM.ite ?_ ?_
 all_goals first
  |exact rfl
  |trivial
end
end
def isN (ys:List Int):Prop:= ∃v:Int,ys= [v]/\fD .i64 v
theorem abb:isN [0]:=⟨0,rfl,by constructor<;>omega⟩
theorem aba:isN [1]:=⟨1,rfl,by constructor<;>omega⟩
theorem aj6 (z:Int):isN [IntKind.i64.wrap z]:=⟨_,rfl,so z⟩
theorem FN: ∀{d x:D},x∈d.l->SizeOf.sizeOf x<SizeOf.sizeOf d
 | .i _,x,h=>by simp [D.l] at h
 | .p a b,x,h=>by
   simp only [D.l,aF] at h;rcases h with rfl|h
   ·grind
   ·have:=FN (d:=b) h
    grind
def aeO (l:List D):Prop:= ∀y∈l,fD .i64 (ad1 y).n
theorem aaI:aeO []:=fun y h=>by simp at h
theorem AQ: ∀{l:List D} {k v:D},aeO l->fD .i64 v.n->aeO (vF l k v)
 |[],k,v,_,hv=>by intro y hy;simp only [vF,aF,aw7,or_false] at hy;subst hy;exact hv
 |d::l,k,v,Y,hv=>by
  intro y hy;simp only [vF] at hy;split at hy
  ·simp only [aF] at hy;rcases hy with rfl|hy
   ·exact hv
   ·exact Y y (by simp [hy])
  ·simp only [aF] at hy;rcases hy with rfl|hy
   ·exact Y _ ad
   ·exact AQ (fun z hz=>Y z (by simp [hz])) hv y hy
theorem Ow: ∀{l:List D} {k:D},aeO l->fD .i64 ((kU l k).getD (.i 0)).n
 |[],k,_=>by constructor<;>simp [kU,D.n]
 |d::l,k,Y=>by
  simp only [kU];split
  ·exact Y d ad
  ·exact Ow fun y hy=>Y y (by simp [hy])
theorem af8 {l:List D} {k:D} (h:aeO l):isN [((kU l k).getD (.i 0)).n]:=⟨_,rfl,Ow h⟩
def ZJ (d:D):Prop:= ∀x∈d.l,fD .i64 x.n
theorem ints_at {d:D} (h:ZJ d) {i:Int} (h0: ¬i<0) (U:i<(d.l.length:Int)):fD .i64 (d.at i).n:=by obtain⟨k,rfl⟩ : ∃k:Nat,i=(k:Int):=⟨i.toNat,J⟩;rw [bF (by omega:k<d.l.length)];exact h _ (aq _)
set_option maxHeartbeats 4000000 in
theorem Pm: ∀(N:Nat) (kids:D),SizeOf.sizeOf kids<=N->Wd (.sl 6) kids->∀(k n:Int) (s loc:D),fD .i64 n->ZJ loc->bK 1950 [k,enc s,n,enc kids,enc loc] isN
 |0,kids,hN,_,_,_,_,_,_,_=>by exfalso;cases kids<;>simp at hN
 |N+1,kids,hN,hk,k,n,s,loc,hn,hi=>by
  have sub: ∀i:Nat,∃v:Int,fD .i64 v/\(i<kids.l.length->L 1950 [((kids.at (i:Int)).V 0).n,enc ((kids.at (i:Int)).V 1),((kids.at (i:Int)).V 2).n,enc ((kids.at (i:Int)).V 3),enc loc]=some [v]):=by
   intro i;by_cases cY:i<kids.l.length
   ·obtain⟨k',s',n',AX,he,_,_,E8,Z⟩:=qG hk cY
    have jl:SizeOf.sizeOf AX<SizeOf.sizeOf kids.l[i]:=by rw [he];exact FN (by rw [bz]; simp)
    have asX:=FN (aq cY);obtain⟨ys,hL,v,rfl,hv⟩:=Pm N AX J Z k' n' s' loc E8 hi;refine⟨v,hv,fun _=>?_⟩;rw [bF cY,he];simp only [zg,ax];exact hL
   grind
  obtain⟨v0,kq,h0⟩:=sub 0;obtain⟨v1,hv1,U⟩:=sub 1;by_cases l1:(kids.l.length:Int)=1
  ·have h0:=h0 J;simp only [bj] at h0;refine bK.of ?_;rw [Ec];simp only [yG,zz,l1,h0]
   repeat' first |exact .out ⟨_,rfl,hn⟩|exact .out abb|exact .out aba|exact .out (aj6 _)|exact .out ⟨_,rfl,ints_at hi ‹_› ‹_›⟩|refine .ite (fun _=>?_) (fun _=>?_)
  ·by_cases l2:(kids.l.length:Int)=2
   ·have h0:=h0 J;have U:=U J;simp only [bj,bo] at h0 U;refine bK.of ?_;rw [Ec];simp only [yG,zz,l1,l2,h0,U]
    repeat' first |exact .out ⟨_,rfl,hn⟩|exact .out abb|exact .out aba|exact .out (aj6 _)|exact .out ⟨_,rfl,ints_at hi ‹_› ‹_›⟩|(simp only [bz]; exact .out (af8 (AQ (AQ (AQ aaI (so _)) (so _)) (so _))))|refine .ite (fun _=>?_) (fun _=>?_)
   ·refine bK.of ?_;rw [Ec];simp only [yG,zz,l1,l2]
    repeat' first |exact .out ⟨_,rfl,hn⟩|exact .out abb|exact .out aba|exact .out ⟨_,rfl,ints_at hi ‹_› ‹_›⟩|refine .ite (fun _=>?_) (fun _=>?_)
section
variable {d lc:D}
structure Kt (x:D) (a:Int) (lc:D) (w o g tr:Int):Prop where
 is:x=dL [.i a,lc,.i w,.i o,.i g,.i tr]
 ha:fD .i64 a
 Y:Wd (.sl 0) lc
 hw:fD .u8 w
 ho:fD .i64 o
 hg:fD .i64 g
 ht:fD .i64 tr
theorem fq (h:Wd (.sl 8) d): ∀x∈d.l,∃a lc w o g tr,Kt x a lc w o g tr:=by intro x hx;obtain⟨r,rfl,Y,hc⟩:=h.elN (cs:=[.int .i64,.sl 0,.int .u8,.int .i64,.int .i64,.int .i64]) rfl x hx;obtain⟨a,b,c,d,e,f,rfl⟩:=six Y;obtain⟨a,rfl,ha⟩:=(hc 0 _ _ rfl rfl).i;obtain⟨w,rfl,hw⟩:=(hc 2 _ _ rfl rfl).i;obtain⟨o,rfl,ho⟩:=(hc 3 _ _ rfl rfl).i;obtain⟨g,rfl,hg⟩:=(hc 4 _ _ rfl rfl).i;obtain⟨t,rfl,ht⟩:=(hc 5 _ _ rfl rfl).i;exact⟨a,b,w,o,g,t,rfl,ha,hc 1 _ _ rfl rfl,hw,ho,hg,ht⟩
structure Tk (d:D):Prop where
 wd:Wd (.sl 8) d
 sh:d=dL d.l
 lD:d.l.length<=2199023255500
theorem Dx (h:Wd (.sl 8) d) (hn:0<d.l.length):Tk d:=by
 refine⟨h,?_,?_⟩
 ·rcases h.sh with rfl|rfl|⟨U,_⟩
  ·simp [D.l] at hn
  ·simp [D.l] at hn
  grind
 ·have hr:=h.room;have h3:l4 8=64:=rfl
  grind
theorem vt (a b c d e f x:D):dg [a,b,c,d,e,f] 1 x= [a,x,c,d,e,f]:=rfl
theorem bI (j:Nat) (xs:List Int):fin L (.jump j xs)=L j xs:=rfl
theorem bA (ys:List Int):fin L (.out ys)=some ys:=rfl
def yB (lc:D):Int:=if 0<lc.l.length then 3 else 4
theorem aeE (h:(0:Int)<(lc.l.length:Int)):yB lc=3:=ag J
theorem MM (d:D) (h:Th d) (x0:Int) (k:D): ∀(j i:Nat),i+j=d.l.length->L 9051 [x0,(d.l.length:Int),(i:Int),enc d,enc k]=L 9060 [x0,(k.l.length:Int),0,enc d,enc k]
 |0,i,hi=>by
  have c1: ¬(i:Int)<(d.l.length:Int):=J
  rw [bB,aco];simp only [C_,zz,c1,bI,bj]
 |j+1,i,hi=>by
  have Y:=h.lD;have cY:i<d.l.length:=J
  have c1:(i:Int)<(d.l.length:Int):=J
  have c2: ¬((i:Int)<0):=J
  have w:=bx (n:=i) J;have ih:=MM d h x0 k j (i+1) J;obtain⟨o,c,dn,g,r,v,he,_,_,_,_,hr,hv⟩:=h.wd.j7 _ (aq cY);have hs:=fb h.sh cY;rw [he] at hs;rw [bB,aco];rcases bV hr with rfl|rfl|⟨r1,r2⟩ <;>rcases bV hv with rfl|rfl|⟨v1,v2⟩
  all_goals
   simp only [C_,zz,c1,c2,w,bF cY,he,dN,bz,az,aA,Lh,Lg,hs,gK,fY,nj,gJ]
   try simp only [r1,r2,zz]
   try simp only [v1,v2,zz]
   try simp only [bI]
   exact ih
theorem Xg (d:D) (h:Th d) (x0:Int): ∀(j i:Nat),i+j=d.l.length->L 9052 [x0,(d.l.length:Int),(i:Int),enc d]=L 9061 [x0,enc d]
 |0,i,hi=>by
  have c1: ¬(i:Int)<(d.l.length:Int):=J
  rw [bB,acn];simp only [B?,zz,c1,bI,bj]
 |j+1,i,hi=>by
  have Y:=h.lD;have cY:i<d.l.length:=J
  have c1:(i:Int)<(d.l.length:Int):=J
  have c2: ¬((i:Int)<0):=J
  have w:=bx (n:=i) J;have ih:=Xg d h x0 j (i+1) J;obtain⟨o,c,dn,g,r,v,he,_,_,_,_,hr,hv⟩:=h.wd.j7 _ (aq cY);have hs:=fb h.sh cY;rw [he] at hs;rw [bB,acn];rcases bV hr with rfl|rfl|⟨r1,r2⟩ <;>rcases bV hv with rfl|rfl|⟨v1,v2⟩
  all_goals
   simp only [B?,zz,c1,c2,w,bF cY,he,dN,bz,az,aA,Lh,Lg,hs,gK,fY,nj,gJ]
   try simp only [r1,r2,zz]
   try simp only [v1,v2,zz]
   try simp only [bI]
   exact ih
theorem Xf (d:D) (h:Th d) (x0:Int): ∀(j i:Nat),i+j=d.l.length->L 9053 [x0,(d.l.length:Int),(i:Int),enc d]=L 9062 [x0,enc d]
 |0,i,hi=>by
  have c1: ¬(i:Int)<(d.l.length:Int):=J
  rw [bB,acm];simp only [B!,zz,c1,bI,bj]
 |j+1,i,hi=>by
  have Y:=h.lD;have cY:i<d.l.length:=J
  have c1:(i:Int)<(d.l.length:Int):=J
  have c2: ¬((i:Int)<0):=J
  have w:=bx (n:=i) J;have ih:=Xf d h x0 j (i+1) J;obtain⟨o,c,dn,g,r,v,he,_,_,_,_,hr,hv⟩:=h.wd.j7 _ (aq cY);have hs:=fb h.sh cY;rw [he] at hs;rw [bB,acm];rcases bV hr with rfl|rfl|⟨r1,r2⟩ <;>rcases bV hv with rfl|rfl|⟨v1,v2⟩
  all_goals
   simp only [B!,zz,c1,c2,w,bF cY,he,dN,bz,az,aA,Lh,Lg,hs,gK,fY,nj,gJ]
   try simp only [r1,r2,zz]
   try simp only [v1,v2,zz]
   try simp only [bI]
   exact ih
theorem Xn (k:D) (h:Tk k) (x0:Int): ∀(j i:Nat),(hx:x0<0\/(k.l.length:Int)<=x0)->i+j=k.l.length->L 9066 [x0,(k.l.length:Int),(i:Int),enc k]=some [0,x0,enc (.i 2),enc k]
 |0,i,hx,hi=>by
  have c1: ¬(i:Int)<(k.l.length:Int):=J
  rw [bB,PF];by_cases c0:(i:Int)=x0
  ·subst c0;simp only [FC,zz,c1,bA]
  ·simp only [FC,zz,c0,c1,bA]
 |j+1,i,hx,hi=>by
  have Y:=h.lD;have cY:i<k.l.length:=J
  have c1:(i:Int)<(k.l.length:Int):=J
  have c2: ¬((i:Int)<0):=J
  have c0: ¬((i:Int)=x0):=J
  have w:=bx (n:=i) J;have ih:=Xn k h x0 j (i+1) hx J;obtain⟨a,lc,w',o,g,tr,T⟩:=fq h.wd _ (aq cY);have hs:=fb h.sh cY;rw [T.is] at hs;rw [bB,PF];rcases bV T.Y with rfl|rfl|⟨r1,r2⟩
  all_goals
   simp only [FC,zz,c0,c1,c2,w,bF cY,T.is,dN,bz,az,aA,vt,hs,gK,fY,nj,gJ]
   try simp only [r1,r2,zz]
   try simp only [bI]
   exact ih
theorem Xp (k:D) (h:Tk k) (x0:Int) (s:D): ∀(j i:Nat),(hx:x0<0\/(k.l.length:Int)<=x0)->i+j=k.l.length->L 9060 [x0,(k.l.length:Int),(i:Int),enc s,enc k]=some [0,x0,enc s,enc k]
 |0,i,hx,hi=>by
  have c1: ¬(i:Int)<(k.l.length:Int):=J
  rw [bB,PH];by_cases c0:(i:Int)=x0
  ·subst c0;simp only [FF,zz,c1,bA]
  ·simp only [FF,zz,c0,c1,bA]
 |j+1,i,hx,hi=>by
  have Y:=h.lD;have cY:i<k.l.length:=J
  have c1:(i:Int)<(k.l.length:Int):=J
  have c2: ¬((i:Int)<0):=J
  have c0: ¬((i:Int)=x0):=J
  have w:=bx (n:=i) J;have ih:=Xp k h x0 s j (i+1) hx J;obtain⟨a,lc,w',o,g,tr,T⟩:=fq h.wd _ (aq cY);have hs:=fb h.sh cY;rw [T.is] at hs;rw [bB,PH];rcases bV T.Y with rfl|rfl|⟨r1,r2⟩
  all_goals
   simp only [FF,zz,c0,c1,c2,w,bF cY,T.is,dN,bz,az,aA,vt,hs,gK,fY,nj,gJ]
   try simp only [r1,r2,zz]
   try simp only [bI]
   exact ih
theorem Xo (k:D) (h:Tk k) (x0:Int): ∀(j i:Nat),(hx:x0<0\/(k.l.length:Int)<=x0)->i+j=k.l.length->L 9063 [x0,(k.l.length:Int),(i:Int),enc k]=some [0,x0,enc (.i 1),enc k]
 |0,i,hx,hi=>by
  have c1: ¬(i:Int)<(k.l.length:Int):=J
  rw [bB,PG];by_cases c0:(i:Int)=x0
  ·subst c0;simp only [FD,zz,c1,bA]
  ·simp only [FD,zz,c0,c1,bA]
 |j+1,i,hx,hi=>by
  have Y:=h.lD;have cY:i<k.l.length:=J
  have c1:(i:Int)<(k.l.length:Int):=J
  have c2: ¬((i:Int)<0):=J
  have c0: ¬((i:Int)=x0):=J
  have w:=bx (n:=i) J;have ih:=Xo k h x0 j (i+1) hx J;obtain⟨a,lc,w',o,g,tr,T⟩:=fq h.wd _ (aq cY);have hs:=fb h.sh cY;rw [T.is] at hs;rw [bB,PG];rcases bV T.Y with rfl|rfl|⟨r1,r2⟩
  all_goals
   simp only [FD,zz,c0,c1,c2,w,bF cY,T.is,dN,bz,az,aA,vt,hs,gK,fY,nj,gJ]
   try simp only [r1,r2,zz]
   try simp only [bI]
   exact ih
theorem Xm (k:D) (h:Tk k) (gi:Nat) (x4 x5 x6 x7 x8 x9:Int) (s:D): ∀(j i:Nat),gi<i->i+j=k.l.length->L 9069 [(gi:Int),(k.l.length:Int),(i:Int),enc s,enc k,x4,x5,x6,x7,x8,x9]=some [3,(gi:Int),enc s,enc k,x4,x5,x6,x7,x8,x9]
 |0,i,hg,hi=>by
  have c1: ¬(i:Int)<(k.l.length:Int):=J
  have c0: ¬((i:Int)=(gi:Int)):=J
  rw [bB,ack];simp only [B',zz,c0,c1,bA]
 |j+1,i,hg,hi=>by
  have Y:=h.lD;have cY:i<k.l.length:=J
  have c1:(i:Int)<(k.l.length:Int):=J
  have c2: ¬((i:Int)<0):=J
  have c0: ¬((i:Int)=(gi:Int)):=J
  have w:=bx (n:=i) J;have ih:=Xm k h gi x4 x5 x6 x7 x8 x9 s j (i+1) J J;obtain⟨a,lc,w',o,g,tr,T⟩:=fq h.wd _ (aq cY);have hs:=fb h.sh cY;rw [T.is] at hs;rw [bB,ack];rcases bV T.Y with rfl|rfl|⟨r1,r2⟩
  all_goals
   simp only [B',zz,c0,c1,c2,w,bF cY,T.is,dN,bz,az,aA,vt,hs,gK,fY,nj,gJ]
   try simp only [r1,r2,zz]
   try simp only [bI]
   exact ih
theorem MP (k:D) (h:Tk k) (gi:Nat) (x4 x5 x6 x7 x8 x9:Int) (s:D): ∀(j i:Nat),gi<i->i+j=k.l.length->L 9070 [(gi:Int),(k.l.length:Int),(i:Int),enc s,enc k,x4,x5,x6,x7,x8,x9]=some [4,(gi:Int),enc s,enc k,x4,x5,x6,x7,x8,x9]
 |0,i,hg,hi=>by
  have c1: ¬(i:Int)<(k.l.length:Int):=J
  have c0: ¬((i:Int)=(gi:Int)):=J
  rw [bB,acj];simp only [B_,zz,c0,c1,bA]
 |j+1,i,hg,hi=>by
  have Y:=h.lD;have cY:i<k.l.length:=J
  have c1:(i:Int)<(k.l.length:Int):=J
  have c2: ¬((i:Int)<0):=J
  have c0: ¬((i:Int)=(gi:Int)):=J
  have w:=bx (n:=i) J;have ih:=MP k h gi x4 x5 x6 x7 x8 x9 s j (i+1) J J;obtain⟨a,lc,w',o,g,tr,T⟩:=fq h.wd _ (aq cY);have hs:=fb h.sh cY;rw [T.is] at hs;rw [bB,acj];rcases bV T.Y with rfl|rfl|⟨r1,r2⟩
  all_goals
   simp only [B_,zz,c0,c1,c2,w,bF cY,T.is,dN,bz,az,aA,vt,hs,gK,fY,nj,gJ]
   try simp only [r1,r2,zz]
   try simp only [bI]
   exact ih
theorem Xl (k:D) (h:Tk k) (gi:Nat) (x4 x5 x6 x7 x8 x9:Int): ∀(j i:Nat),gi<i->i+j=k.l.length->L 9071 [(gi:Int),(k.l.length:Int),(i:Int),enc k,x4,x5,x6,x7,x8,x9]=some [3,(gi:Int),enc (.i 1),enc k,x4,x5,x6,x7,x8,x9]
 |0,i,hg,hi=>by
  have c1: ¬(i:Int)<(k.l.length:Int):=J
  have c0: ¬((i:Int)=(gi:Int)):=J
  rw [bB,aci];simp only [A?,zz,c0,c1,bA]
 |j+1,i,hg,hi=>by
  have Y:=h.lD;have cY:i<k.l.length:=J
  have c1:(i:Int)<(k.l.length:Int):=J
  have c2: ¬((i:Int)<0):=J
  have c0: ¬((i:Int)=(gi:Int)):=J
  have w:=bx (n:=i) J;have ih:=Xl k h gi x4 x5 x6 x7 x8 x9 j (i+1) J J;obtain⟨a,lc,w',o,g,tr,T⟩:=fq h.wd _ (aq cY);have hs:=fb h.sh cY;rw [T.is] at hs;rw [bB,aci];rcases bV T.Y with rfl|rfl|⟨r1,r2⟩
  all_goals
   simp only [A?,zz,c0,c1,c2,w,bF cY,T.is,dN,bz,az,aA,vt,hs,gK,fY,nj,gJ]
   try simp only [r1,r2,zz]
   try simp only [bI]
   exact ih
theorem MO (k:D) (h:Tk k) (gi:Nat) (x4 x5 x6 x7 x8 x9:Int): ∀(j i:Nat),gi<i->i+j=k.l.length->L 9072 [(gi:Int),(k.l.length:Int),(i:Int),enc k,x4,x5,x6,x7,x8,x9]=some [4,(gi:Int),enc (.i 1),enc k,x4,x5,x6,x7,x8,x9]
 |0,i,hg,hi=>by
  have c1: ¬(i:Int)<(k.l.length:Int):=J
  have c0: ¬((i:Int)=(gi:Int)):=J
  rw [bB,ach];simp only [A!,zz,c0,c1,bA]
 |j+1,i,hg,hi=>by
  have Y:=h.lD;have cY:i<k.l.length:=J
  have c1:(i:Int)<(k.l.length:Int):=J
  have c2: ¬((i:Int)<0):=J
  have c0: ¬((i:Int)=(gi:Int)):=J
  have w:=bx (n:=i) J;have ih:=MO k h gi x4 x5 x6 x7 x8 x9 j (i+1) J J;obtain⟨a,lc,w',o,g,tr,T⟩:=fq h.wd _ (aq cY);have hs:=fb h.sh cY;rw [T.is] at hs;rw [bB,ach];rcases bV T.Y with rfl|rfl|⟨r1,r2⟩
  all_goals
   simp only [A!,zz,c0,c1,c2,w,bF cY,T.is,dN,bz,az,aA,vt,hs,gK,fY,nj,gJ]
   try simp only [r1,r2,zz]
   try simp only [bI]
   exact ih
theorem Xk (k:D) (h:Tk k) (gi:Nat) (x4 x5 x6 x7 x8 x9:Int): ∀(j i:Nat),gi<i->i+j=k.l.length->L 9073 [(gi:Int),(k.l.length:Int),(i:Int),enc k,x4,x5,x6,x7,x8,x9]=some [3,(gi:Int),enc (.i 2),enc k,x4,x5,x6,x7,x8,x9]
 |0,i,hg,hi=>by
  have c1: ¬(i:Int)<(k.l.length:Int):=J
  have c0: ¬((i:Int)=(gi:Int)):=J
  rw [bB,acg];simp only [A_,zz,c0,c1,bA]
 |j+1,i,hg,hi=>by
  have Y:=h.lD;have cY:i<k.l.length:=J
  have c1:(i:Int)<(k.l.length:Int):=J
  have c2: ¬((i:Int)<0):=J
  have c0: ¬((i:Int)=(gi:Int)):=J
  have w:=bx (n:=i) J;have ih:=Xk k h gi x4 x5 x6 x7 x8 x9 j (i+1) J J;obtain⟨a,lc,w',o,g,tr,T⟩:=fq h.wd _ (aq cY);have hs:=fb h.sh cY;rw [T.is] at hs;rw [bB,acg];rcases bV T.Y with rfl|rfl|⟨r1,r2⟩
  all_goals
   simp only [A_,zz,c0,c1,c2,w,bF cY,T.is,dN,bz,az,aA,vt,hs,gK,fY,nj,gJ]
   try simp only [r1,r2,zz]
   try simp only [bI]
   exact ih
theorem MN (k:D) (h:Tk k) (gi:Nat) (x4 x5 x6 x7 x8 x9:Int): ∀(j i:Nat),gi<i->i+j=k.l.length->L 9074 [(gi:Int),(k.l.length:Int),(i:Int),enc k,x4,x5,x6,x7,x8,x9]=some [4,(gi:Int),enc (.i 2),enc k,x4,x5,x6,x7,x8,x9]
 |0,i,hg,hi=>by
  have c1: ¬(i:Int)<(k.l.length:Int):=J
  have c0: ¬((i:Int)=(gi:Int)):=J
  rw [bB,acf];simp only [z?,zz,c0,c1,bA]
 |j+1,i,hg,hi=>by
  have Y:=h.lD;have cY:i<k.l.length:=J
  have c1:(i:Int)<(k.l.length:Int):=J
  have c2: ¬((i:Int)<0):=J
  have c0: ¬((i:Int)=(gi:Int)):=J
  have w:=bx (n:=i) J;have ih:=MN k h gi x4 x5 x6 x7 x8 x9 j (i+1) J J;obtain⟨a,lc,w',o,g,tr,T⟩:=fq h.wd _ (aq cY);have hs:=fb h.sh cY;rw [T.is] at hs;rw [bB,acf];rcases bV T.Y with rfl|rfl|⟨r1,r2⟩
  all_goals
   simp only [z?,zz,c0,c1,c2,w,bF cY,T.is,dN,bz,az,aA,vt,hs,gK,fY,nj,gJ]
   try simp only [r1,r2,zz]
   try simp only [bI]
   exact ih
theorem Xj (k:D) (h:Tk k) (s:D) (gi:Nat) (Be:gi<k.l.length) (a:Int) (lc:D) (w o g tr:Int) (T:Kt k.l[gi] a lc w o g tr): ∀(j i:Nat),i+j=gi->L 9060 [(gi:Int),(k.l.length:Int),(i:Int),enc s,enc k]=some [yB lc,(gi:Int),enc s,enc k,a,enc lc,w,o,g,tr]
 |0,i,hi=>by
  have Y:=h.lD;have he:i=gi:=J
  subst he;have c1:(i:Int)<(k.l.length:Int):=J
  have c2: ¬((i:Int)<0):=J
  have w':=bx (n:=i) J;rw [bB,PH];rcases bV T.Y with rfl|rfl|⟨r1,r2⟩
  ·have ih:=MP k h i a (enc (.i 1)) w o g tr s (k.l.length-(i+1)) (i+1) J J;exact aqd
  ·have ih:=MP k h i a (enc (.i 2)) w o g tr s (k.l.length-(i+1)) (i+1) J J;exact aqd
  ·have ih:=Xm k h i a (enc lc) w o g tr s (k.l.length-(i+1)) (i+1) J J;simp only [FF,zz,c1,c2,w',bF Be,T.is,dN,bz,az,aA,gK,fY,nj,gJ];exact k?
 |j+1,i,hi=>by
  have Y:=h.lD;have cY:i<k.l.length:=J
  have c1:(i:Int)<(k.l.length:Int):=J
  have c2: ¬((i:Int)<0):=J
  have c0: ¬((i:Int)=(gi:Int)):=J
  have w1:=bx (n:=i) J;have ih:=Xj k h s gi Be a lc w o g tr T j (i+1) J;obtain⟨a',lc',w',o',g',tr',T'⟩:=fq h.wd _ (aq cY);have hs:=fb h.sh cY;rw [T'.is] at hs;rw [bB,PH];rcases bV T'.Y with rfl|rfl|⟨r1,r2⟩
  all_goals
   simp only [FF,zz,c0,c1,c2,w1,bF cY,T'.is,dN,bz,az,aA,vt,hs,gK,fY,nj,gJ]
   try simp only [r1,r2,zz]
   try simp only [bI]
   exact ih
theorem Xi (k:D) (h:Tk k) (gi:Nat) (Be:gi<k.l.length) (a:Int) (lc:D) (w o g tr:Int) (T:Kt k.l[gi] a lc w o g tr): ∀(j i:Nat),i+j=gi->L 9063 [(gi:Int),(k.l.length:Int),(i:Int),enc k]=some [yB lc,(gi:Int),enc (.i 1),enc k,a,enc lc,w,o,g,tr]
 |0,i,hi=>by
  have Y:=h.lD;have he:i=gi:=J
  subst he;have c1:(i:Int)<(k.l.length:Int):=J
  have c2: ¬((i:Int)<0):=J
  have w':=bx (n:=i) J;rw [bB,PG];rcases bV T.Y with rfl|rfl|⟨r1,r2⟩
  ·have ih:=MO k h i a (enc (.i 1)) w o g tr (k.l.length-(i+1)) (i+1) J J;exact aqc
  ·have ih:=MO k h i a (enc (.i 2)) w o g tr (k.l.length-(i+1)) (i+1) J J;exact aqc
  ·have ih:=Xl k h i a (enc lc) w o g tr (k.l.length-(i+1)) (i+1) J J;simp only [FD,zz,c1,c2,w',bF Be,T.is,dN,bz,az,aA,gK,fY,nj,gJ];exact k?
 |j+1,i,hi=>by
  have Y:=h.lD;have cY:i<k.l.length:=J
  have c1:(i:Int)<(k.l.length:Int):=J
  have c2: ¬((i:Int)<0):=J
  have c0: ¬((i:Int)=(gi:Int)):=J
  have w1:=bx (n:=i) J;have ih:=Xi k h gi Be a lc w o g tr T j (i+1) J;obtain⟨a',lc',w',o',g',tr',T'⟩:=fq h.wd _ (aq cY);have hs:=fb h.sh cY;rw [T'.is] at hs;rw [bB,PG];rcases bV T'.Y with rfl|rfl|⟨r1,r2⟩
  all_goals
   simp only [FD,zz,c0,c1,c2,w1,bF cY,T'.is,dN,bz,az,aA,vt,hs,gK,fY,nj,gJ]
   try simp only [r1,r2,zz]
   try simp only [bI]
   exact ih
theorem Xh (k:D) (h:Tk k) (gi:Nat) (Be:gi<k.l.length) (a:Int) (lc:D) (w o g tr:Int) (T:Kt k.l[gi] a lc w o g tr): ∀(j i:Nat),i+j=gi->L 9066 [(gi:Int),(k.l.length:Int),(i:Int),enc k]=some [yB lc,(gi:Int),enc (.i 2),enc k,a,enc lc,w,o,g,tr]
 |0,i,hi=>by
  have Y:=h.lD;have he:i=gi:=J
  subst he;have c1:(i:Int)<(k.l.length:Int):=J
  have c2: ¬((i:Int)<0):=J
  have w':=bx (n:=i) J;rw [bB,PF];rcases bV T.Y with rfl|rfl|⟨r1,r2⟩
  ·have ih:=MN k h i a (enc (.i 1)) w o g tr (k.l.length-(i+1)) (i+1) J J;exact aqb
  ·have ih:=MN k h i a (enc (.i 2)) w o g tr (k.l.length-(i+1)) (i+1) J J;exact aqb
  ·have ih:=Xk k h i a (enc lc) w o g tr (k.l.length-(i+1)) (i+1) J J;simp only [FC,zz,c1,c2,w',bF Be,T.is,dN,bz,az,aA,gK,fY,nj,gJ];exact k?
 |j+1,i,hi=>by
  have Y:=h.lD;have cY:i<k.l.length:=J
  have c1:(i:Int)<(k.l.length:Int):=J
  have c2: ¬((i:Int)<0):=J
  have c0: ¬((i:Int)=(gi:Int)):=J
  have w1:=bx (n:=i) J;have ih:=Xh k h gi Be a lc w o g tr T j (i+1) J;obtain⟨a',lc',w',o',g',tr',T'⟩:=fq h.wd _ (aq cY);have hs:=fb h.sh cY;rw [T'.is] at hs;rw [bB,PF];rcases bV T'.Y with rfl|rfl|⟨r1,r2⟩
  all_goals
   simp only [FC,zz,c0,c1,c2,w1,bF cY,T'.is,dN,bz,az,aA,vt,hs,gK,fY,nj,gJ]
   try simp only [r1,r2,zz]
   try simp only [bI]
   exact ih
structure Sk (s k:D):Prop where
 ws:Wd (.sl 7) s
 wk:Wd (.sl 8) k
theorem SG {t:Nat} (h:Wd (.sl t) d):d= .i 1\/d= .i 2\/0<d.l.length:=by
 rcases h.sh with U|U|⟨_,U⟩
 all_goals grind
theorem afS (x0:Int) (s:D):L 9061 [x0,enc s]=some [1,x0,enc s]:=by rw [bB,akp];simp only [ai5,zz];split<;>rfl
theorem afR (x0:Int) (s:D):L 9062 [x0,enc s]=some [2,x0,enc s]:=by rw [bB,ako];simp only [ai4,zz];split<;>rfl
theorem n12:((0:Int)<((D.i 2).l.length:Int))=False/\((0:Int)<((D.i 1).l.length:Int))=False/\(enc (.i 2)=enc (.i 1))=False:=by
 refine⟨by simp [D.l],by simp [D.l],?_⟩;simp only [eq_iff_iff,iff_false];intro h;have:=ff h
 grind
theorem abJ (x0:Int) (k:D):L 9054 [x0,enc k]=L 9063 [x0,(k.l.length:Int),0,enc k]:=by rw [bB,akw];simp only [ai7,zz,bI,bA]
theorem abI (x0:Int) (k:D):L 9057 [x0,enc k]=L 9066 [x0,(k.l.length:Int),0,enc k]:=by rw [bB,akt];simp only [ai6,zz,bI,bA]
theorem aoS (x0:Int):L 9064 [x0]=some [1,x0,enc (.i 1)]:=by rw [bB,akn];simp only [ai3,zz,bI,bA];split<;>rfl
theorem aoW (x0:Int):L 9055 [x0]=some [1,x0,enc (.i 1)]:=by rw [bB,akv];exact aoS x0
theorem aoR (x0:Int):L 9065 [x0]=some [2,x0,enc (.i 1)]:=by rw [bB,akm];simp only [ai2,zz,bI,bA];split<;>rfl
theorem aoV (x0:Int):L 9056 [x0]=some [2,x0,enc (.i 1)]:=by rw [bB,aku];exact aoR x0
theorem aoQ (x0:Int):L 9067 [x0]=some [1,x0,enc (.i 2)]:=by rw [bB,akl];simp only [ai1,zz,bI,bA];split<;>rfl
theorem aoU (x0:Int):L 9058 [x0]=some [1,x0,enc (.i 2)]:=by rw [bB,akr];exact aoQ x0
theorem aoP (x0:Int):L 9068 [x0]=some [2,x0,enc (.i 2)]:=by rw [bB,akk];simp only [ai0,zz,bI,bA];split<;>rfl
theorem aoT (x0:Int):L 9059 [x0]=some [2,x0,enc (.i 2)]:=by rw [bB,akq];exact aoP x0
section
variable {s k:D} (h:Sk s k)
include h
theorem Ku {gi:Nat} (Be:gi<k.l.length) {a:Int} {w o g tr:Int} (T:Kt k.l[gi] a lc w o g tr):L 9050 [(gi:Int),enc s,enc k]=some [yB lc,(gi:Int),enc s,enc k,a,enc lc,w,o,g,tr]:=by
 have hk:0<k.l.length:=J
 have hK:=Dx h.wk hk;have Ia:=hK.lD;have c1':(0:Int)<(k.l.length:Int):=J
 have c2':(k.l.length:Int)<2199023255552:=J
 rw [bB,acp];rcases SG h.ws with rfl|rfl|hs
 ·simp only [tv,zz,n12,c1',c2',bI];exact (abJ _ k).trans (Xi k hK gi Be a lc w o g tr T gi 0 J)
 ·simp only [tv,zz,n12,c1',c2',bI];exact (abI _ k).trans (Xh k hK gi Be a lc w o g tr T gi 0 J)
 ·have hT:=yF h.ws hs;have Y:=hT.lD;have c1:(0:Int)<(s.l.length:Int):=J
  have c2:(s.l.length:Int)<1759218604441:=J
  simp only [tv,zz,nj,c1,c2,c1',c2',bI];exact (MM s hT _ k s.l.length 0 J).trans (Xj k hK s gi Be a lc w o g tr T gi 0 J)
theorem Zj {x:Int} (hx:x<0\/(k.l.length:Int)<=x):L 9050 [x,enc s,enc k]=some [0,x,enc s,enc k]\/L 9050 [x,enc s,enc k]=some [1,x,enc s]/\k= .i 1\/L 9050 [x,enc s,enc k]=some [2,x,enc s]/\k= .i 2:=by
 rw [bB,acp];rcases SG h.ws with rfl|rfl|hs<;>rcases SG h.wk with rfl|rfl|hk
 ·refine .inr (.inl ⟨?_,rfl⟩);simp only [tv,zz,n12,bI];exact aoW _
 ·refine .inr (.inr ⟨?_,rfl⟩);simp only [tv,zz,n12,bI];exact aoV _
 ·have hK:=Dx h.wk hk;have Ia:=hK.lD;have c1':(0:Int)<(k.l.length:Int):=J
  have c2':(k.l.length:Int)<2199023255552:=J
  refine .inl ?_;simp only [tv,zz,n12,c1',c2',bI];exact (abJ _ k).trans (Xo k hK _ k.l.length 0 hx J)
 ·refine .inr (.inl ⟨?_,rfl⟩);simp only [tv,zz,n12,bI];exact aoU _
 ·refine .inr (.inr ⟨?_,rfl⟩);simp only [tv,zz,n12,bI];exact aoT _
 ·have hK:=Dx h.wk hk;have Ia:=hK.lD;have c1':(0:Int)<(k.l.length:Int):=J
  have c2':(k.l.length:Int)<2199023255552:=J
  refine .inl ?_;simp only [tv,zz,n12,c1',c2',bI];exact (abI _ k).trans (Xn k hK _ k.l.length 0 hx J)
 ·have hT:=yF h.ws hs;have Y:=hT.lD;have c1:(0:Int)<(s.l.length:Int):=J
  have c2:(s.l.length:Int)<1759218604441:=J
  refine .inr (.inl ⟨?_,rfl⟩);simp only [tv,zz,n12,c1,c2,bI];exact (Xg s hT _ s.l.length 0 J).trans (afS _ s)
 ·have hT:=yF h.ws hs;have Y:=hT.lD;have c1:(0:Int)<(s.l.length:Int):=J
  have c2:(s.l.length:Int)<1759218604441:=J
  refine .inr (.inr ⟨?_,rfl⟩);simp only [tv,zz,n12,c1,c2,bI];exact (Xf s hT _ s.l.length 0 J).trans (afR _ s)
 ·have hT:=yF h.ws hs;have Y:=hT.lD;have c1:(0:Int)<(s.l.length:Int):=J
  have c2:(s.l.length:Int)<1759218604441:=J
  have hK:=Dx h.wk hk;have Ia:=hK.lD;have c1':(0:Int)<(k.l.length:Int):=J
  have c2':(k.l.length:Int)<2199023255552:=J
  refine .inl ?_;simp only [tv,zz,nj,c1,c2,c1',c2',bI];exact (MM s hT _ k s.l.length 0 J).trans (Xp k hK _ s k.l.length 0 hx J)
end
end
section
variable {i:Nat}
def ZL (a b:D) (i:Nat):Prop:= ∀(k:Nat) (U:k<a.l.length) (Z:k<b.l.length),i<=k->(a.l[k]).n=(b.l[k]).n
theorem ZL.step {a b:D} (U:i<a.l.length) (Z:i<b.l.length) (h:(a.l[i]).n=(b.l[i]).n):ZL a b i↔ZL a b (i+1):=by
 constructor
 ·intro q k x y z;exact q k x y J
 ·intro q k x y z;by_cases hk:k=i
  ·grind
  ·exact q k x y J
theorem ZL.atM {a b:D} (h:a.l.length<=i):ZL a b i:=fun k U _ h3=>absurd U J
section
variable {a b:D} (hle:a.l.length=b.l.length) (hlen:a.l.length<=140737488351232)
include hle hlen
theorem JU: ∀(j i:Nat),i+j=a.l.length->∃c:Int,L 251 [enc a,enc b,(i:Int)]=some [c]/\(c=0\/c=1)/\(c=1↔ZL a b i)
 |0,i,hi=>by
  have c1: ¬(i:Int)<(a.l.length:Int):=J
  refine⟨1,?_,.inr rfl,fun _=>ZL.atM J,fun _=>rfl⟩;rw [bB,agB];simp only [t251,zz,c1,fin]
 |j+1,i,hi=>by
  have cY:i<a.l.length:=J
  have EC:i<b.l.length:=J
  have c1:(i:Int)<(a.l.length:Int):=J
  have c2: ¬((i:Int)<0):=J
  have c3:(i:Int)<(b.l.length:Int):=J
  have w:=bx (n:=i) J;obtain⟨c,U,Z,h3⟩:=JU j (i+1) J;by_cases he:(a.l[i]).n=(b.l[i]).n
  ·refine⟨c,?_,Z,h3.trans (ZL.step cY EC he).symm⟩;rw [bB,agB];simp only [t251,zz,c1,c2,c3,w,bF cY,bF EC,he,fin,U]
  ·refine⟨0,?_,.inl rfl,fun h=>absurd h J,fun h=>absurd (h i cY EC (au i)) he⟩;rw [bB,agB];simp only [t251,zz,c1,c2,c3,w,bF cY,bF EC,he,fin]
end
def XC (a b:D):Prop:=a.l.length=b.l.length/\ZL a b 0
theorem YN (a b:D) (hlen:a.l.length<=140737488351232): ∃c:Int,L 250 [enc a,enc b]=some [c]/\(c=0\/c=1)/\(c=1↔XC a b):=by
 by_cases Y:a.l.length=b.l.length
 ·obtain⟨c,U,Z,h3⟩:=JU Y hlen a.l.length 0 J;refine⟨c,?_,Z,h3.trans ⟨fun h=> ⟨Y,h⟩,fun h=>h.2⟩⟩;have Ia:(a.l.length:Int)=(b.l.length:Int):=J
  rw [bB,apk,t250,eO,ag,lS]
  ·simp only [List.map,eY,cE,Nat.reduceLT,cT,cZ,fin];exact U
  ·exact aeT
 ·refine⟨0,?_,.inl rfl,fun h=>absurd h J,fun h=>absurd h.1 Y⟩;have Ia: ¬(a.l.length:Int)=(b.l.length:Int):=J
  rw [bB,apk,t250,eO,af]
  ·exact U4
  ·exact aeT
theorem II (x y:D) (hle:x.l.length=y.l.length) (hlen:x.l.length<=140737488351232) (x0 x1 x2:Int) (i:Nat) (hi:i<9223372036854775807) (c:Int) (hc:c=0\/c=1) (h:L 201 [x0,x1,x2,((i+1:Nat):Int)]=some [c]) (x6 x7 x8 x9 qo x12 x13 x14 x15 x16:Int) :
 ∀(j k:Nat),k+j=x.l.length->∃e:Int,L 202 [x0,x1,x2,(i:Int),(x.l.length:Int),(k:Int),x6,x7,x8,x9,qo,enc x,x12,x13,x14,x15,x16,enc y]=some [e]/\(e=0\/e=1)/\(e=1↔ZL x y k/\c=1)
 |0,k,hk=>by
  have c1: ¬(k:Int)<(x.l.length:Int):=J
  have w:=bx (n:=i) J;refine⟨c,?_,hc,fun h=> ⟨ZL.atM J,h⟩,fun h=>h.2⟩;rw [bB,agC];simp only [t202,zz,c1,w,fin,h]
 |j+1,k,hk=>by
  have cY:k<x.l.length:=J
  have EC:k<y.l.length:=J
  have c1:(k:Int)<(x.l.length:Int):=J
  have c2: ¬((k:Int)<0):=J
  have c3:(k:Int)<(y.l.length:Int):=J
  have w:=bx (n:=k) J;obtain⟨e,U,Z,h3⟩:=II x y hle hlen x0 x1 x2 i hi c hc h x6 x7 x8 x9 qo x12 x13 x14 x15 x16 j (k+1) J;by_cases he:(x.l[k]).n=(y.l[k]).n
  ·refine⟨e,?_,Z,h3.trans ⟨fun q=> ⟨(ZL.step cY EC he).2 q.1,q.2⟩,fun q=> ⟨(ZL.step cY EC he).1 q.1,q.2⟩⟩⟩;rw [bB,agC];simp only [t202,zz,c1,c2,c3,w,bF cY,bF EC,he,fin,U]
  ·refine⟨0,?_,.inl rfl,fun h=>absurd h J,fun h=>absurd (h.1 k cY EC (au k)) he⟩;rw [bB,agC];simp only [t202,zz,c1,c2,c3,w,bF cY,bF EC,he,fin]
end
theorem zj (ρ) (a b:SB):((SB.and a b).den ρ=true)=(a.den ρ=true/\b.den ρ=true):=by simp [SB.den]
structure auj (x y:D):Prop where
 o:(x.V 0).n=(y.V 0).n
 c:(x.V 1).n=(y.V 1).n
 d:(x.V 2).n=0↔(y.V 2).n=0
 g:(x.V 3).n=(y.V 3).n
 r:XC (x.V 4) (y.V 4)
 v:XC (x.V 5) (y.V 5)
def QD (a b:D) (i:Nat):Prop:= ∀(k:Nat) (U:k<a.l.length) (Z:k<b.l.length),i<=k->auj a.l[k] b.l[k]
theorem bits {p q:Int}:((¬(¬p=0/\¬q=0))/\¬(¬¬p=0/\¬¬q=0))↔¬(p=0↔q=0):=J
def Lm (s:D):Prop:= ∀x∈s.l,(x.V 4).l.length<=140737488351232/\(x.V 5).l.length<=140737488351232
section
variable {a b:D} (hle:a.l.length=b.l.length) (hlen:a.l.length<=140737488351232) (hr:Lm a)
include hle hlen hr
theorem I7: ∀(j i:Nat),i+j=a.l.length->∃c:Int,L 201 [enc a,enc b,(a.l.length:Int),(i:Int)]=some [c]/\(c=0\/c=1)/\(c=1↔QD a b i)
 |0,i,hi=>by
  have c1: ¬(i:Int)<(a.l.length:Int):=J
  refine⟨1,?_,.inr rfl,fun _ k U _ h3=>absurd U J,fun _=>rfl⟩;rw [bB,MC];simp only [t201,zz,c1,fin]
 |j+1,i,hi=>by
  have cY:i<a.l.length:=J
  have EC:i<b.l.length:=J
  have c1:(i:Int)<(a.l.length:Int):=J
  have c2: ¬((i:Int)<0):=J
  have c3:(i:Int)<(b.l.length:Int):=J
  obtain⟨c,U,Z,h3⟩:=I7 j (i+1) J;have hb:=hr _ (aq cY);by_cases b0:((a.l[i]).V 0).n=((b.l[i]).V 0).n
  case neg=>
   refine⟨0,?_,.inl rfl,fun h=>absurd h J,fun h=>absurd (h i cY EC (au i)).o b0⟩;rw [bB,MC];simp only [t201,zz,c1,c2,c3,bF cY,bF EC,b0,fin]
  by_cases b1:((a.l[i]).V 1).n=((b.l[i]).V 1).n
  case neg=>
   refine⟨0,?_,.inl rfl,fun h=>absurd h J,fun h=>absurd (h i cY EC (au i)).c b1⟩;rw [bB,MC];simp only [t201,zz,c1,c2,c3,bF cY,bF EC,b0,b1,fin]
  by_cases b2:(((a.l[i]).V 2).n=0↔((b.l[i]).V 2).n=0)
  case neg=>
   refine⟨0,?_,.inl rfl,fun h=>absurd h J,fun h=>absurd (h i cY EC (au i)).d b2⟩;rw [bB,MC];have b2':=bits.2 b2;simp only [t201,zz,zj,Cw,c1,c2,c3,bF cY,bF EC,b0,b1,ag b2',fin]
  have b2': ¬_:=fun h=>bits.1 h b2;by_cases b3:((a.l[i]).V 3).n=((b.l[i]).V 3).n
  case neg=>
   refine⟨0,?_,.inl rfl,fun h=>absurd h J,fun h=>absurd (h i cY EC (au i)).g b3⟩;rw [bB,MC];simp only [t201,zz,zj,Cw,c1,c2,c3,bF cY,bF EC,b0,b1,af b2',b3,fin]
  obtain⟨e,g1,g2,g3⟩:=YN ((a.l[i]).V 4) ((b.l[i]).V 4) hb.1;by_cases b4:e=0
  ·subst b4;refine⟨0,?_,.inl rfl,fun h=>absurd h J,fun h=>absurd (g3.2 (h i cY EC (au i)).r) J⟩;rw [bB,MC];simp only [t201,zz,zj,Cw,c1,c2,c3,bF cY,bF EC,b0,b1,af b2',b3,g1,fin]
  have he:e=1:=J
  subst he;by_cases b5:((a.l[i]).V 5).l.length=((b.l[i]).V 5).l.length
  case neg=>
   have b5': ¬(((a.l[i]).V 5).l.length:Int)=(((b.l[i]).V 5).l.length:Int):=J
   refine⟨0,?_,.inl rfl,fun h=>absurd h J,fun h=>absurd (h i cY EC (au i)).v.1 b5⟩;rw [bB,MC];simp only [t201,zz,zj,Cw,c1,c2,c3,bF cY,bF EC,b0,b1,af b2',b3,g1,bM,b5',fin]
  have b5':(((a.l[i]).V 5).l.length:Int)=(((b.l[i]).V 5).l.length:Int):=J
  obtain⟨f,f1,f2,f3⟩:=II ((a.l[i]).V 5) ((b.l[i]).V 5) b5 hb.2 (enc a) (enc b) (a.l.length:Int) i J c Z U ((b.l[i]).V 0).n ((b.l[i]).V 1).n ((a.l[i]).V 2).n ((b.l[i]).V 3).n (enc ((a.l[i]).V 4)) ((b.l[i]).V 0).n ((b.l[i]).V 1).n ((b.l[i]).V 2).n ((b.l[i]).V 3).n (enc ((b.l[i]).V 4)) ((a.l[i]).V 5).l.length 0 J;refine⟨f,?_,f2,fun h k k1 k2 k3=>?_,fun h=>f3.2 ⟨(h i cY EC (au i)).v.2,h3.2 fun k k1 k2 k3=>h k k1 k2 J⟩⟩
  ·rw [bB,MC];rw [b5'] at f1;simp only [t201,zz,zj,Cw,c1,c2,c3,bF cY,bF EC,b0,b1,af b2',b3,g1,bM,b5',fin];exact f1
  ·by_cases hk:k=i
   ·subst hk;exact⟨b0,b1,b2,b3,g3.1 rfl,b5,(f3.1 h).1⟩
   ·exact h3.1 (f3.1 h).2 k k1 k2 J
end
theorem I6 (a b:D) (hlen:a.l.length<=140737488351232) (hr:Lm a): ∃c:Int,L 200 [enc a,enc b]=some [c]/\(c=0\/c=1)/\(c=1↔a.l.length=b.l.length/\QD a b 0):=by
 by_cases Y:a.l.length=b.l.length
 ·obtain⟨c,U,Z,h3⟩:=I7 Y hlen hr a.l.length 0 J;refine⟨c,?_,Z,h3.trans ⟨fun h=> ⟨Y,h⟩,fun h=>h.2⟩⟩;have Ia:(a.l.length:Int)=(b.l.length:Int):=J
  rw [bB,apl,t200,eO,ag,lS]
  ·simp only [List.map,eY,ky,mC,cE,Nat.reduceLT,cT,cZ,bG,fin];exact U
  ·exact aeT
 ·refine⟨0,?_,.inl rfl,fun h=>absurd h J,fun h=>absurd h.1 Y⟩;have Ia: ¬(a.l.length:Int)=(b.l.length:Int):=J
  rw [bB,apl,t200,eO,af]
  ·exact U4
  ·exact aeT
section
variable {s y d0 d1 x:D} {n k:Nat} {l:List D} {A:Act} {z M c obj:Int}
theorem Zn (Y:d0.l.length<=64) (hn:0<d0.l.length):L 301 [enc d0,(d0.l.length:Int)]=some [enc (dL (d0.l.map fe))]:=by
 have e0:=HS d0 Y (d0.l.length-1) 1 [fe (d0.l[0]'hn)] J rfl
 have e1:[fe (d0.l[0]'hn)]++(d0.l.drop 1).map fe=d0.l.map fe:=by
  conv=>rhs; rw [<- awQ (l:=d0.l),aG hn]
  rfl
 rw [e1] at e0;have a0:d0.at 0=d0.l[0]'hn:=bF (i:=0) hn;have c1:(0:Int)<(d0.l.length:Int):=J
 have key: ∀q:Int,q=(if (((d0.l[0]'hn)).V 0).n=3\/((d0.l[0]'hn).V 0).n=9 then ((d0.l[0]'hn).V 2).n else 0)->enc (dL [fe (d0.l[0]'hn)])=enc (.p (.p (.i (-1)) (.p (.i q) (.p (.i 0) (.p (.i 0) (.p (.i 1) (.p (.i 1) (.i 0))))))) (.i 0)):=fun q hq=>by rw [hq]; rfl
 have k:eA (df L (low [enc d0,(d0.l.length:Int)])) X2= .jump 302 [enc (dL [fe (d0.l[0]'hn)]),enc d0,(d0.l.length:Int),1]:=by
  by_cases h3:((d0.l[0]'hn).V 0).n=3
  ·rw [key _ (by rw [ag (.inl h3)])];simp only [X2,zz,c1,a0,pQ,aw,h3,dL]
  ·by_cases h9:((d0.l[0]'hn).V 0).n=9
   ·rw [key _ (by rw [ag (.inr h9)])];simp only [X2,zz,c1,a0,pQ,aw,af h3,ag h9,dL]
   ·rw [key 0 (by rw [af J])];simp only [X2,zz,c1,a0,pQ,aw,af h3,af h9,dL]
 rw [bB,apj];exact (congrArg (fin L) k).trans e0
theorem P5 (hc:L 450 [enc d0,enc d1]=some [0]) (Y:d0.l.length<=64) (hn:0<d0.l.length):L 300 [enc d0,enc d1]=some [enc (dL (d0.l.map fe))]:=by
 have k:eA (df L (low [enc d0,enc d1])) afp= .jump 301 [enc d0,(d0.l.length:Int)]:=by refine cg [.eq (a0 450 [.dH 0,.dH 1]) (.lit 1),.eq (rr 450 [.dH 0,.dH 1] 0) (.lit 0)] [] (ju 301 [.dH 0,ln (.dH 0)]) (by simp only [zz,hc]) aa ?_;simp only [lS,List.map,cE,ky,Nat.reduceLT,cT,cZ,bG]
 rw [bB,agA];exact (congrArg (fin L) k).trans (Zn Y hn)
theorem HR (hc:L 450 [enc d0,enc d1]=some [c]) (h:c≠0\/d0.l.length=0):L 300 [enc d0,enc d1]=some [enc (.i 1)]:=by
 by_cases h0:c=0
 ·subst h0;have hz:d0.l.length=0:=h.resolve_left (fun h=>h rfl)
  have k:eA (df L (low [enc d0,enc d1])) afp= .jump 301 [enc d0,0]:=by refine cg [.eq (a0 450 [.dH 0,.dH 1]) (.lit 1),.eq (rr 450 [.dH 0,.dH 1] 0) (.lit 0)] [] (ju 301 [.dH 0,ln (.dH 0)]) (by simp only [zz,hc]) aa ?_;simp only [lS,List.map,cE,ky,Nat.reduceLT,cT,cZ,bG,hz];rfl
  have k1:eA (df L (low [enc d0,0])) X2= .out [enc (.i 1)]:=by refine cg [] [.lt (.lit 0) (.dH 1)] (ou [.eS (.i 1)]) (by simp only [zz]<;>omega) aa rfl
  rw [bB,agA];refine (congrArg (fin L) k).trans ?_;show L 301 [enc d0,0]=_;rw [bB,apj];exact congrArg (fin L) k1
 ·have k:eA (df L (low [enc d0,enc d1])) afp= .out [enc (.i 1)]:=by
   refine cg [.eq (a0 450 [.dH 0,.dH 1]) (.lit 1)] [.eq (rr 450 [.dH 0,.dH 1] 0) (.lit 0)] (ou [.eS (.i 1)]) (by simp only [zz,hc]<;>omega) aa rfl
  rw [bB,agA];exact congrArg (fin L) k
structure Gs (s:D) (n:Nat):Prop where
 wd:Wd (.sl 7) s
 rows: ∀x∈s.l,(x.V 4).l.length<=n/\(x.V 5).l.length<=n
theorem Gs.lD (h:Gs s n) (hn:n<17592186044415):lD s:=fun x hx=>by have:=h.rows x hx; omega
theorem Gs.mono {m:Nat} (h:Gs s n) (hm:n<=m):Gs s m:=⟨h.wd,fun x hx=>by have:=h.rows x hx; omega⟩
theorem xI (h: ∀x∈l,iY x) (hn:l≠[]) (Y:l.length<=1759218604390):Wd (.sl 7) (dL l):=by
 have e:(l.map fun x=>x.l).map dL=l:=by
  rw [axd]
  conv=>rhs; rw [<- axV l]
  apply axn;intro x hx;obtain⟨o,c,d,g,r,v,rfl,_⟩:=h x hx;rfl
 rw [<- e];refine .many 7 [.int .i64,.int .i64,.bool,.int .i64,.sl 0,.sl 0] _ rfl (by simpa using hn) (by have:l4 7=80:=rfl; rw [this,a8]; omega) (fun r hr=>?_) fun r hr j d c U Z=>?_
 ·obtain⟨x,hx,rfl⟩:=aQ.1 hr;obtain⟨o,c,d,g,r,v,rfl,_⟩:=h x hx;rfl
 ·obtain⟨x,hx,rfl⟩:=aQ.1 hr;obtain⟨o,c',d',g,r,v,rfl,ho,hc,V,hg,hr,hv⟩:=h x hx;rw [bz] at U
  match j with
  |0=>simp at U Z; subst U Z; exact .int _ _ ho
  |1=>simp at U Z; subst U Z; exact .int _ _ hc
  |2=>
   simp at U Z; subst U Z;rcases V with rfl|rfl
   ·exact .bool false
   ·exact .bool true
  |3=>simp at U Z; subst U Z; exact .int _ _ hg
  |4=>simp at U Z; subst U Z; exact hr
  |5=>simp at U Z; subst U Z; exact hv
  |j+6=>simp at U
theorem Tg.j7 {o dn g:Int} {r v:D} (T:Tg x o c dn g r v):iY x:=⟨o,c,dn,g,r,v,T.is,T.ho,T.hc,T.V,T.hg,T.hr,T.hv⟩
theorem wN (h:x∈dg l z y):x∈l\/x=y:=by
 unfold dg at h
 grind
theorem lg (h:(k:Int)≠z):(dg l z y)[k]?=l[k]?:=by
 unfold dg
 grind
theorem pI (h:k<l.length):(dg l (k:Int) y)[k]?=some y:=by rw [qU,List.getElem?_set,ag rfl,ag h]
theorem Ty (G:Gs s n) (hy:iY y) (h4:(y.V 4).l.length<=n) (h5:(y.V 5).l.length<=n) (hn:0<s.l.length):Gs (dL (dg s.l z y)) n:=by
 have ht:=yF G.wd hn;refine⟨xI (fun x hx=>?_) (fun he=>?_) (by rw [dM]; exact ht.lD),fun x hx=>?_⟩
 ·rcases wN hx with h|rfl
  ·exact G.wd.j7 x h
  grind
 ·have:=dM s.l z y
  grind
 ·rw [bz] at hx;rcases wN hx with h|rfl
  ·exact G.rows x h
  grind
theorem aan (s:D) (obj M:Int) (A:Act):(F7 s obj M A).l.length=s.l.length:=by
 cases A with
 |n7=>rfl
 |wM=>rfl
 |res o c dn g r v m a oc=>
  unfold F7;rw [bz,dM]
  cases m with
  |none=>rfl
  |some q=>exact dM _ _ _
theorem afJ (G:Gs s n) (hA:H8 (n+1) A) (ho0:0<=obj) (YS:obj<(s.l.length:Int)) (hM:NoM A\/0<=M/\M<(s.l.length:Int)):Gs (F7 s obj M A) (n+1):=by
 have G1:=G.mono (aw8 n)
 cases A with
 |n7=>exact G1
 |wM=>exact G1
 |res o c dn g r v m a oc=>
  obtain⟨U,Z,h3,h4,h5,h6,h7,h8,h9,_⟩:=hA
  have V:(if dn=0 then (0:Int) else 1)=dn:=by rcases h3 with rfl|rfl<;>rfl
  have hy:iY (dL [.i o,.i c,.i (if dn=0 then 0 else 1),.i g,r,v]):=⟨o,c,_,g,r,v,rfl,U,Z,by rw [V]; exact h3,h4,h5,h7⟩
  cases m with
  |none=>exact Ty G1 hy h6 h8 J
  |some q=>
   have hM:0<=M/\M<(s.l.length:Int):=hM.resolve_left (fun h=>by simp [NoM] at h);obtain⟨k,rfl⟩ : ∃k:Nat,M=(k:Int):=⟨M.toNat,J⟩;have hk:k<s.l.length:=J
   obtain⟨o',c',d',g',r',v',he,q1,q2,q3,q4,q5,q6⟩:=G.wd.j7 _ (aq hk);have hrw:=G1.rows _ (aq hk);rw [he] at hrw;have hz:dL (dg (s.at (k:Int)).l 0 (.i q))=dL [.i q,.i c',.i d',.i g',r',v']:=by rw [bF hk,he]; rfl
   have G2:Gs (dL (dg s.l (k:Int) (dL (dg (s.at (k:Int)).l 0 (.i q))))) (n+1):=by rw [hz];exact Ty G1 ⟨q,c',d',g',r',v',rfl,h9 q rfl,q2,q3,q4,q5,q6⟩ hrw.1 hrw.2 J
   have:=Ty (z:=obj) G2 hy h6 h8 (by rw [bz,dM]; omega);rw [bz] at this;exact this
def evA (th op obj:Int):Act->List Int
 | .n7=>[0,0,0,0,0,0]
 | .wM=>[th,27,obj,IntKind.i64.wrap op,0,2]
 | .res _ _ _ _ _ _ _ a oc=>[th,op,obj,a,0,oc]
theorem AK (s:D) (th op obj M:Int) (A:Act):Ge s th op obj M A=enc (F7 s obj M A)::evA th op obj A:=by cases A<;>rfl
end
section
variable {i:Int} {ub lc:D}
theorem z6:((2:Int)=1)=False/\((4:Int)=3)=False/\((5:Int)=3)=False/\((5:Int)=4)=False/\((6:Int)=3)=False/\((6:Int)=4)=False/\((6:Int)=5)=False/\((7:Int)=3)=False/\((7:Int)=4)=False/\((7:Int)=5)=False/\((7:Int)=6)=False:=ad
structure KT where
 a:Int
 lc:D
 w:Int
 o:Int
 g:Int
 tr:Int
abbrev KT.d (x:KT):D:=dL [.i x.a,x.lc,.i x.w,.i x.o,.i x.g,.i x.tr]
structure Cd (d0 d1:D):Prop where
 h0:Wd (.sl 3) d0
 U:Wd (.sl 4) d1
 ok:zq d0 d1
 ins: ∀x∈d1.l,aj8 d0 x
theorem MR.code {d0 d1 s k:D} (h0:Wd (.sl 3) d0) (U:Wd (.sl 4) d1) (hr:zk s) (M:MR d0 d1 s k):Cd d0 d1/\s.l.length=d0.l.length:=by obtain⟨b,hb,_,hi⟩:=kP h0 U hr;rw [M.1] at hb;simp only [ah,List.cons.injEq,and_true] at hb;obtain⟨hC,hle,_⟩:=hi.1 hb.symm;obtain⟨ys,hC',c,rfl,_,rW⟩:=Dj h0 U;rw [hC] at hC';simp only [ah,List.cons.injEq,and_true] at hC';have:=rW hC'.symm;exact⟨⟨h0,U,this.1,this.2⟩,hle⟩
structure Rt (d0 d1:D) (t:Int) (x:KT):Prop where
 t0:0<=t
 t1:t<(d1.l.length:Int)
 ok:OkT d0 ((d1.at t).V 1).l.length ((d1.at t).V 2).l.length x.a x.lc.l.length x.w x.o x.g x.tr
 Y:Wd (.sl 0) x.lc
 hg:fD .i64 x.g
abbrev fk (d1:D) (t:Int) (x:KT):D:=((d1.at t).V 2).at x.a
abbrev Nc (d1:D) (t:Int):Nat:=((d1.at t).V 2).l.length
structure InF (d0:D) (nl nc:Nat) (I:D):Prop where
 ok:OkI d0 nl nc (I.V 0).n (I.V 1).n (I.V 2).n (I.V 3).n (I.V 4).n (I.V 6).l.length
 op:fD .u8 (I.V 1).n
 ob:fD .i64 (I.V 2).n
 to:fD .i64 (I.V 4).n
 nn:fD .i64 (I.V 5).n
 ar:Wd (.sl 6) (I.V 6)
theorem Cd.at {d0 d1:D} (C:Cd d0 d1) {t:Int} (t0:0<=t) (t1:t<(d1.l.length:Int)):d1.at t∈d1.l:=by
 obtain⟨i,rfl⟩ : ∃i:Nat,t=(i:Int):=⟨t.toNat,J⟩
 grind [bF]
theorem SP {d:D} (h0:0<=i) (U:i<(d.l.length:Int)):d.at i∈d.l:=by
 obtain⟨k,rfl⟩ : ∃k:Nat,i=(k:Int):=⟨i.toNat,J⟩
 grind [bF]
theorem Cd.code {d0 d1:D} (C:Cd d0 d1) {t:Int} (t0:0<=t) (t1:t<(d1.l.length:Int)):Wd (.sl 5) ((d1.at t).V 2):=by
 obtain⟨i,rfl⟩ : ∃i:Nat,t=(i:Int):=⟨t.toNat,J⟩;have hi:i<d1.l.length:=J
 obtain⟨sc,lc,cd,he,_,_,h⟩:=qy C.U hi;rw [bF hi,he];exact h
theorem Cd.inf {d0 d1:D} (C:Cd d0 d1) {t:Int} {x:KT} (R:Rt d0 d1 t x) (h:x.a<(Nc d1 t:Int)):InF d0 ((d1.at t).V 1).l.length (Nc d1 t) (fk d1 t x):=by
 have ha:=R.ok.1;have U:=C.ins _ (C.at R.t0 R.t1) (fk d1 t x) (SP ha h);obtain⟨i,hi⟩ : ∃i:Nat,x.a=(i:Int):=⟨x.a.toNat,J⟩;have cY:i<((d1.at t).V 2).l.length:=by unfold Nc at h; omega
 obtain⟨a,b,c,e,f,g,qv,he,_,hb,hc,_,hf,hg,hw⟩:=Ta (C.code R.t0 R.t1) cY;have hI:fk d1 t x=dL [.i a,.i b,.i c,.i e,.i f,.i g,qv]:=by unfold fk; rw [hi,bF cY,he]
 refine⟨U,?_,?_,?_,?_,?_⟩
 all_goals
  rw [hI];simp only [zg,ax,zw];assumption
theorem Rt.ints {d0 d1:D} {t:Int} {x:KT} (R:Rt d0 d1 t x):ZJ x.lc:=fun y hy=>by obtain⟨n,rfl,hn⟩:=(R.Y.el1 rfl y hy).i;exact hn
section
variable {d0 d1 s k:D} {t:Int} {x:KT} (hk:k.at t=x.d) (ht:t<(k.l.length:Int)) (R:Rt d0 d1 t x)
include hk ht R
def fh (d1:D) (t:Int) (x:KT):Int:=if x.w=0 then (if x.a=(Nc d1 t:Int) then 1 else 0) else 0
theorem AH:L 1650 [enc d0,enc d1,enc s,enc k,t]=some [fh d1 t x]:=by
 have c1: ¬t<0:=by have:=R.t0; omega
 have c2:=R.t1;unfold fh Nc;rw [bB,alk];simp only [ajK,zz,hk,c1,ht,c2,zg];exact aqf
end
noncomputable def ev (e lc:D):Int:=low ((L 1950 [(e.V 0).n,enc (e.V 1),(e.V 2).n,enc (e.V 3),enc lc]).getD []) 0
theorem Po (ha:Wd (.sl 6) ub) (Y:ZJ lc) (i0:0<=i) (i1:i<(ub.l.length:Int)):L 1950 [((ub.at i).V 0).n,enc ((ub.at i).V 1),((ub.at i).V 2).n,enc ((ub.at i).V 3),enc lc]=some [ev (ub.at i) lc]/\fD .i64 (ev (ub.at i) lc):=by
 obtain⟨j,rfl⟩ : ∃j:Nat,i=(j:Int):=⟨i.toNat,J⟩;have hj:j<ub.l.length:=J
 obtain⟨k',s',n',AX,he,_,_,E8,Z⟩:=qG ha hj;obtain⟨ys,hL,v,rfl,hv⟩:=Pm _ AX (au _) Z k' n' s' lc E8 Y;have e1:ub.at (j:Int)=dL [.i k',s',.i n',AX]:=by rw [bF hj,he]
 simp_all [ev,e1,zg,zw,cT]
noncomputable def EG (ub lc:D):Int:=if ub.l.length=0 then 0 else ev (ub.at ((ub.l.length:Int)-1)) lc
theorem agW (ha:Wd (.sl 6) ub) (Y:ZJ lc):fD .i64 (EG ub lc):=by
 unfold EG;split
 ·constructor<;>omega
 ·exact (Po ha Y J J).2
theorem JF {ub lc:D} (ha:Wd (.sl 6) ub) (Y:ZJ lc) (x3 x5 x6 x7 x8 x9 qo:Int): ∀(j i:Nat) (v:Int),i+j=ub.l.length->L 1751 [enc ub,(ub.l.length:Int),(i:Int),x3,enc lc,x5,x6,x7,x8,x9,qo,v]=some [x9,qo,if j=0 then v else EG ub lc,x8,1]
 |0,i,v,hi=>by simp_all [bB,adq,Q?,zz,bA]
 |j+1,i,v,hi=>by
  have hr:=ha.len;have c1:(i:Int)<(ub.l.length:Int):=J
  have c2: ¬((i:Int)<0):=J
  have w:=bx (n:=i) J;obtain⟨he,_⟩:=Po ha Y (i:=(i:Int)) J c1;have ih:=JF ha Y x3 x5 x6 x7 x8 x9 qo j (i+1) (ev (ub.at (i:Int)) lc) J;rw [bB,adq];simp only [Q?,zz,c1,c2,w,he,bI]
  grind [EG]
noncomputable def fS (d1:D) (t:Int) (x:KT):List Int:=
 if x.w=0 then
  if x.a=(Nc d1 t:Int) then [0,0,0,0,0]
  else if ((fk d1 t x).V 0).n=1 then [((fk d1 t x).V 1).n,((fk d1 t x).V 2).n,EG ((fk d1 t x).V 6) x.lc,x.tr,1]
  else if ((fk d1 t x).V 0).n=2 then [26,((fk d1 t x).V 2).n,0,0,1]
  else [0,0,0,0,0]
 else [x.w,x.o,x.g,0,1]
section
variable {d0 d1 s k:D} {t:Int} {x:KT} (C:Cd d0 d1) (hk:k.at t=x.d) (ht:t<(k.l.length:Int)) (R:Rt d0 d1 t x)
include C hk ht R
theorem Lx:L 1750 [enc d0,enc d1,enc s,enc k,t]=some (fS d1 t x):=by
 have c1: ¬t<0:=by have:=R.t0; omega
 have c2:=R.t1;have c3: ¬x.a<0:=by have:=R.ok.1; omega
 have ho:=AH (s:=s) hk ht R;unfold fS;rw [bB,alj];by_cases w0:x.w=0
 ·by_cases a0:x.a=(Nc d1 t:Int)
  ·have e:fh d1 t x=1:=by unfold fh; rw [ag w0,ag a0]
   rw [e] at ho;rw [ag w0,ag a0];simp only [IW,zz,hk,c1,ht,c2,zg,w0,ho,bM,bA]
  ·have e:fh d1 t x=0:=by unfold fh; rw [ag w0,af a0]
   rw [e] at ho;have gk:x.a<(Nc d1 t:Int):=by have:=R.ok.2.1; unfold Nc at a0 ⊢; omega
   have F:=C.inf R gk;rw [ag w0,af a0];unfold fk at F ⊢;unfold Nc at gk;by_cases U:((((d1.at t).V 2).at x.a).V 0).n=1
   ·rw [ag U];have lp:=JF F.ar R.ints x.a x.w x.o x.g x.tr ((((d1.at t).V 2).at x.a).V 1).n ((((d1.at t).V 2).at x.a).V 2).n ((((d1.at t).V 2).at x.a).V 6).l.length 0 0 J
    have e2:(if ((((d1.at t).V 2).at x.a).V 6).l.length=0 then 0 else EG ((((d1.at t).V 2).at x.a).V 6) x.lc)=EG ((((d1.at t).V 2).at x.a).V 6) x.lc:=by
     grind [EG]
    rw [e2] at lp;simp only [IW,zz,hk,c1,ht,c2,c3,zg,w0,ho,gk,U,bI]
    grind
   ·by_cases Z:((((d1.at t).V 2).at x.a).V 0).n=2
    ·rw [af U,ag Z];simp only [IW,zz,hk,c1,ht,c2,c3,zg,w0,ho,gk,Z,bA,if_false,z6]
    ·rw [af U,af Z];simp only [IW,zz,hk,c1,ht,c2,c3,zg,w0,ho,gk,U,Z,bA]
 ·rw [af w0];simp only [IW,zz,hk,c1,ht,zg,w0,bA]
end
noncomputable def jk (I:D) (x:KT):KT:=
 if (I.V 0).n=3 then { x with a:=x.a+1,lc:=dL (dg x.lc.l (I.V 3).n (.i (ev ((I.V 6).at 0) x.lc))) }
 else if (I.V 0).n=4 then (if ev ((I.V 6).at 0) x.lc=0 then { x with a:=(I.V 4).n } else { x with a:=x.a+1 })
 else if (I.V 0).n=5 then { x with a:=(I.V 4).n }
 else if (I.V 0).n=6 then { x with a:=x.a+1,lc:=dL (dg x.lc.l (I.V 3).n (.i (I.V 5).n)) }
 else if 0<(x.lc.at (I.V 3).n).n then { x with a:=x.a+1,lc:=dL (dg x.lc.l (I.V 3).n (.i (IntKind.i64.wrap ((x.lc.at (I.V 3).n).n-1)))) }
 else { x with a:=(I.V 4).n }
structure Loc (d1:D) (t:Int) (x:KT):Prop where
 w:x.w=0
 a:x.a<(Nc d1 t:Int)
 n1:((fk d1 t x).V 0).n≠1
 n2:((fk d1 t x).V 0).n≠2
theorem CT {d0 d1:D} {t:Int} {x:KT} (R:Rt d0 d1 t x) (ho:fh d1 t x=0) (hn:low (fS d1 t x) 4=0):Loc d1 t x:=by
 unfold fh at ho;unfold fS at hn;have Z:=R.ok.2.1;by_cases w0:x.w=0
 ·rw [ag w0] at ho hn;by_cases a0:x.a=(Nc d1 t:Int)
  ·grind
  ·rw [af a0] at hn;by_cases U:((fk d1 t x).V 0).n=1
   ·grind [cZ,cT]
   ·by_cases h2':((fk d1 t x).V 0).n=2
    ·grind [cZ,cT]
    ·exact⟨w0,by unfold Nc at a0 ⊢; omega,U,h2'⟩
 grind [cZ,cT]
section
variable {d0 d1 s k:D} {t:Int} {x:KT} (C:Cd d0 d1) (ht:t<(k.l.length:Int)) (R:Rt d0 d1 t x) (Lc:Loc d1 t x)
include C ht R Lc
theorem aaW:L 14000 [enc d0,enc d1,t,enc s,enc k,x.a,enc x.lc,x.w,x.o,x.g,x.tr]=some [0,enc d0,enc d1,t,enc s,enc k,x.a,enc x.lc,x.w,x.o,x.g,x.tr,(jk (fk d1 t x) x).a,enc (jk (fk d1 t x) x).lc]:=by
 have c1: ¬t<0:=by have:=R.t0; omega
 have c2:=R.t1;have c3: ¬x.a<0:=by have:=R.ok.1; omega
 have c4:=Lc.a;have F:=C.inf R c4;have Is:(x.lc.l.length:Int)=(((d1.at t).V 1).l.length:Int):=R.ok.2.2.1;have hnc:((d1.at t).V 2).l.length<=140737488351232:=(C.code R.t0 R.t1).len;have n1:=Lc.n1;have n2:=Lc.n2
 have hw:IntKind.i64.wrap (x.a+1)=x.a+1:=by
  grind [fg]
 have E:=Po F.ar R.ints (i:=0);have ok:=F.ok;unfold fk at n1 n2 ok E ⊢;unfold Nc at c4;rw [bB,adC];unfold jk;rcases ok with h|h|⟨h,i0,i1,na⟩|⟨h,_,_,na⟩|⟨h,_⟩|⟨h,i0,i1⟩|⟨h,i0,i1,_⟩
 ·grind
 ·grind
 ·have c5: ¬(((((d1.at t).V 2).at x.a).V 3).n<0):=J
  have c6:(((((d1.at t).V 2).at x.a).V 3).n<(x.lc.l.length:Int)):=J
  have c7:(0:Int)<(((((d1.at t).V 2).at x.a).V 6).l.length:Int):=J
  obtain⟨E,_⟩:=E J c7;simp only [Cn,zz,c1,ht,c2,c3,c4,c5,c6,c7,h,E,hw,bA]
 ·have c7:(0:Int)<(((((d1.at t).V 2).at x.a).V 6).l.length:Int):=J
  obtain⟨E,_⟩:=E J c7;by_cases hz:ev (((((d1.at t).V 2).at x.a).V 6).at 0) x.lc=0
  ·exact ahu
  ·exact ahu
 ·simp only [Cn,zz,c1,ht,c2,c3,c4,h,hw,bA,z6]
 ·have c5: ¬(((((d1.at t).V 2).at x.a).V 3).n<0):=J
  have c6:(((((d1.at t).V 2).at x.a).V 3).n<(x.lc.l.length:Int)):=J
  simp only [Cn,zz,c1,ht,c2,c3,c4,c5,c6,h,hw,bA,z6]
 ·have c5: ¬(((((d1.at t).V 2).at x.a).V 3).n<0):=J
  have c6:(((((d1.at t).V 2).at x.a).V 3).n<(x.lc.l.length:Int)):=J
  by_cases hz:0<(x.lc.at ((((d1.at t).V 2).at x.a).V 3).n).n
  ·exact ahy
  ·exact ahy
theorem aaV (hz:x.lc.l.length=0):L 14050 [enc d0,enc d1,t,enc s,enc k,x.a,enc x.lc,x.w,x.o,x.g,x.tr]=some [0,enc d0,enc d1,t,enc s,enc k,x.a,enc x.lc,x.w,x.o,x.g,x.tr,(jk (fk d1 t x) x).a]/\(jk (fk d1 t x) x).lc=x.lc:=by
 have c1: ¬t<0:=by have:=R.t0; omega
 have c2:=R.t1;have c3: ¬x.a<0:=by have:=R.ok.1; omega
 have c4:=Lc.a;have F:=C.inf R c4;have Is:(x.lc.l.length:Int)=(((d1.at t).V 1).l.length:Int):=R.ok.2.2.1;have hnc:((d1.at t).V 2).l.length<=140737488351232:=(C.code R.t0 R.t1).len;have n1:=Lc.n1;have n2:=Lc.n2
 have hw:IntKind.i64.wrap (x.a+1)=x.a+1:=by
  grind [fg]
 have E:=Po F.ar R.ints (i:=0);have ok:=F.ok;unfold fk at n1 n2 ok E ⊢;unfold Nc at c4;rw [bB,adB];unfold jk;rcases ok with h|h|⟨h,i0,i1,na⟩|⟨h,_,_,na⟩|⟨h,_⟩|⟨h,i0,i1⟩|⟨h,i0,i1,_⟩
 ·grind
 ·grind
 ·omega
 ·have c7:(0:Int)<(((((d1.at t).V 2).at x.a).V 6).l.length:Int):=J
  obtain⟨E,_⟩:=E J c7;by_cases hz:ev (((((d1.at t).V 2).at x.a).V 6).at 0) x.lc=0
  ·exact aht
  ·exact aht
 ·simp only [RX,zz,c1,ht,c2,c3,c4,h,hw,bA,z6]
 all_goals grind
theorem OI:Rt d0 d1 t (jk (fk d1 t x) x)/\(jk (fk d1 t x) x).lc.l.length=x.lc.l.length:=by
 have c4:=Lc.a;have F:=C.inf R c4;obtain⟨a0,a1,Is,tr0,tr1,hw⟩:=R.ok;have n1:=Lc.n1;have n2:=Lc.n2;have ok:=F.ok;have hI:=R.ints
 have hwd: ∀{z v:Int},0<=z->z<(x.lc.l.length:Int)->fD .i64 v->Wd (.sl 0) (dL (dg x.lc.l z (.i v))):=fun {z v} h0 U hv=>by
  have:=R.Y.room;have h3:l4 0=8:=rfl;rw [h3] at this;have hs:=dM x.lc.l z (.i v);refine ug (fun y hy=>?_) (fun he=>?_) (by rw [hs]; omega)
  ·rcases wN hy with h|rfl
   ·exact (R.Y.el1 rfl y h).i
   grind
  grind
 have hsl: ∀z v,(dL (dg x.lc.l z v)).l.length=x.lc.l.length:=fun z v=>by rw [bz,dM]
 have T:=R.t0;have T':=R.t1;unfold Nc at c4 ok F;unfold jk;have go: ∀{a:Int} {lc:D},0<=a->a<=(((d1.at t).V 2).l.length:Int)->lc.l.length=x.lc.l.length->Wd (.sl 0) lc->Rt d0 d1 t { x with a:=a,lc:=lc }/\({ x with a:=a,lc:=lc }:KT).lc.l.length=x.lc.l.length:=fun h0 U Z h3=> ⟨⟨T,T',⟨h0,U,by rw [Z]; exact Is,tr0,tr1,hw⟩,h3,R.hg⟩,Z⟩;rcases ok with h|h|⟨h,i0,i1,na⟩|⟨h,t0,t1,na⟩|⟨h,t0,t1⟩|⟨h,i0,i1⟩|⟨h,i0,i1,t0,t1⟩
 ·grind
 ·grind
 ·rw [ag h];exact go J J (hsl _ _) (hwd i0 J (Po F.ar hI J J).2)
 ·rw [af J,ag h];split
  ·exact go t0 t1 rfl R.Y
  ·exact go J J rfl R.Y
 ·rw [af J,af J,ag h];exact go t0 t1 rfl R.Y
 ·rw [af J,af J,af J,ag h];exact go J J (hsl _ _) (hwd i0 J F.nn)
 ·rw [af J,af J,af J,af J];split
  ·grind [go,so]
  ·exact go t0 t1 rfl R.Y
end
end
section
variable {r:D}
theorem z5:(∀p:Prop,(p/\False)=False)/\(∀p:Prop,(False/\p)=False)/\(¬True)=False/\(∀p:Prop,(p/\p)=p)/\(∀(a:Int) (l m:List Int),(a::l)++m=a::(l++m))/\(∀l:List Int,[]++l=l)/\((16:Int)=15)=False/\((3:Int)=0)=False/\((15:Int)=16)=False/\(∀ys:List Int,fin L (.out ys)=some ys):=
 ⟨and_false,false_and,not_true_eq_false,and_self,fun _ _ _=>rfl,fun _=>rfl,ad,ad,ad,fun _=>rfl⟩
def ZN:Act->Prop
 | .res _ _ _ _ _ _ _ a _=>fD .i64 a
 |_=>True
theorem ZN.ite {p:Prop} [Decidable p] {a b:Act} (ha:ZN a) (hb:ZN b):ZN (if p then a else b):=by
 grind
theorem U9 (h:Wd (.sl 0) r) (i:Nat):fD .i64 (r.at (i:Int)).n:=by
 by_cases hi:i<r.l.length
 ·rw [bF hi];obtain⟨n,hn,hk⟩:=(h.el1 rfl _ (aq hi)).i;rw [hn];exact hk
 ·rw [eE,awZ J];constructor<;>(simp only [axB,zw]; omega)
theorem auh {y:D} {M mo th op arg tries o c dn g:Int} {v:D} (T:Tg y o c dn g r v) (hr:r.l.length<=140737488351232) (ha:fD .i64 arg):ZN (act M mo th op arg tries o c dn g r v):=by
 have hz:fD .i64 0:=⟨J,J⟩;have U:fD .i64 1:=⟨J,J⟩;have w:=@so;have hv:=U9 T.hv 0;have Y:fD .i64 (r.l.length:Int):=⟨J,J⟩;unfold act
 repeat' refine ZN.ite ?_ ?_
 all_goals first
  |trivial
  |exact hz
  |exact U
  |exact w _
  |exact T.hc
  |exact ha
  |exact T.hg
  |exact hv
  |exact Y
def eI (I:D) (x:KT) (op e2 e3 e4 oc:Int):KT:=
 if oc=0 then (if op=4 then { x with tr:=if 4611686018427387904<x.tr+1 then 4611686018427387904 else x.tr+1 } else x)
 else if x.w=0 then
  { a:=if (I.V 0).n=1/\(I.V 1).n=16/\¬(e2=16/\e4=1) then (I.V 4).n else x.a+1,lc:=if (I.V 0).n=1/\¬(I.V 3).n<0 then dL (dg x.lc.l (I.V 3).n (.i e4)) else x.lc,w:=if oc=3 then (if e2=15 then 25 else 24) else 0,o:=if oc=3 then e3 else x.o,g:=if oc=3/\e2=15 then e4 else x.g,tr:=0 }
 else { x with w:=0,o:=0,g:=0,tr:=0 }
def Ix (e1 e2 e3 e4 e5 oc:Int):List Int:=if oc=0 then [0,0,0,0,0] else [e1,e2,e3,e4,e5]
section
variable {d0 d1 s s' k:D} {t op obj arg tries e1 e2 e3 e4 e5 oc:Int} {x:KT} (C:Cd d0 d1) (ht:t<(k.l.length:Int)) (R:Rt d0 d1 t x)
 (hA:L 400 [enc d0,enc d1,enc s,t,op,obj,arg,tries]=some [enc s',e1,e2,e3,e4,e5,oc]) (h0:oc=0->s'=s) (hx:x.w=0->x.a<(Nc d1 t:Int))
include C ht R hA h0 hx
set_option maxHeartbeats 4000000 in
theorem v?:L 14500 [enc d0,enc d1,t,op,obj,arg,tries,enc s,enc k,x.a,enc x.lc,x.w,x.o,x.g,x.tr]=some (0::enc d0::enc d1::t::op::obj::arg::tries::enc s::enc k::x.a::enc x.lc::x.w::x.o::x.g::x.tr::(Ix e1 e2 e3 e4 e5 oc++ [oc,enc s',(eI (fk d1 t x) x op e2 e3 e4 oc).a,enc (eI (fk d1 t x) x op e2 e3 e4 oc).lc,(eI (fk d1 t x) x op e2 e3 e4 oc).w,(eI (fk d1 t x) x op e2 e3 e4 oc).o,(eI (fk d1 t x) x op e2 e3 e4 oc).g,(eI (fk d1 t x) x op e2 e3 e4 oc).tr])):=by
 have c1: ¬t<0:=by have:=R.t0; omega
 have c2:=R.t1;have c3: ¬x.a<0:=by have:=R.ok.1; omega
 have q0:=R.ok.2.2.2.1;have q1:=R.ok.2.2.2.2.1;have wt:IntKind.i64.wrap (x.tr+1)=x.tr+1:=fg J J;rw [bB,adz];unfold eI Ix;by_cases o0:oc=0
 ·have hs:=h0 o0;subst hs;subst o0;by_cases p4:op=4
  ·subst p4;by_cases pt:4611686018427387904<x.tr+1
   ·simp only [jT,zz,hA,c1,ht,wt,pt,bA,if_true,eq_self,aK,aw]
   ·simp only [jT,zz,hA,c1,ht,wt,pt,bA,if_true,eq_self,if_false,aK,aw]
  ·simp only [jT,zz,hA,c1,ht,p4,bA,if_true,if_false,aK,aw]
 ·by_cases w0:x.w=0
  ·have c4:=hx w0;have F:=C.inf R c4;have ok:=F.ok;have Is:(x.lc.l.length:Int)=(((d1.at t).V 1).l.length:Int):=R.ok.2.2.1;have hnc:((d1.at t).V 2).l.length<=140737488351232:=(C.code R.t0 R.t1).len;unfold Nc at c4;have hw:IntKind.i64.wrap (x.a+1)=x.a+1:=fg J J;unfold OkI fk at ok;unfold fk;by_cases n1:((((d1.at t).V 2).at x.a).V 0).n=1
   ·have sj:((((d1.at t).V 2).at x.a).V 3).n= -1\/0<=((((d1.at t).V 2).at x.a).V 3).n/\((((d1.at t).V 2).at x.a).V 3).n<(x.lc.l.length:Int):=by
     grind
    by_cases i0:((((d1.at t).V 2).at x.a).V 3).n<0
    ·by_cases Js:((((d1.at t).V 2).at x.a).V 1).n=16
     ·by_cases VG:e2=16
      ·by_cases q4:e4=1
       ·exact aqh
       ·exact aqh
      ·by_cases F3:e2=15
       ·exact aqj
       ·exact aqj
     ·by_cases F3:e2=15
      ·exact aqe
      ·exact aqe
    ·have i1:((((d1.at t).V 2).at x.a).V 3).n<(x.lc.l.length:Int):=J
     by_cases Js:((((d1.at t).V 2).at x.a).V 1).n=16
     ·by_cases VG:e2=16
      ·by_cases q4:e4=1
       ·exact aql
       ·exact aql
      ·by_cases F3:e2=15
       ·exact aqn
       ·exact aqn
     ·by_cases F3:e2=15
      ·exact aqg
      ·exact aqg
   ·by_cases F3:e2=15
    ·exact ap9
    ·exact ap9
  ·simp only [jT,zz,hA,c1,ht,o0,w0,bA,if_true,if_false,aK,aw]
end
section
variable {d0 d1 s s' k:D} {t op obj arg tries e1 e2 e3 e4 e5 oc:Int} {x:KT} (C:Cd d0 d1) (ht:t<(k.l.length:Int)) (R:Rt d0 d1 t x)
 (hA:L 400 [enc d0,enc d1,enc s,t,op,obj,arg,tries]=some [enc s',e1,e2,e3,e4,e5,oc]) (h0:oc=0->s'=s) (hx:x.w=0->x.a<(Nc d1 t:Int)) (hz:x.lc.l.length=0)
include C ht R hA h0 hx hz
set_option maxHeartbeats 4000000 in
theorem v!:L 14550 [enc d0,enc d1,t,op,obj,arg,tries,enc s,enc k,x.a,enc x.lc,x.w,x.o,x.g,x.tr]=some (0::enc d0::enc d1::t::op::obj::arg::tries::enc s::enc k::x.a::enc x.lc::x.w::x.o::x.g::x.tr::(Ix e1 e2 e3 e4 e5 oc++ [oc,enc s',(eI (fk d1 t x) x op e2 e3 e4 oc).a,(eI (fk d1 t x) x op e2 e3 e4 oc).w,(eI (fk d1 t x) x op e2 e3 e4 oc).o,(eI (fk d1 t x) x op e2 e3 e4 oc).g,(eI (fk d1 t x) x op e2 e3 e4 oc).tr]))/\(eI (fk d1 t x) x op e2 e3 e4 oc).lc=x.lc:=by
 have c1: ¬t<0:=by have:=R.t0; omega
 have c2:=R.t1;have c3: ¬x.a<0:=by have:=R.ok.1; omega
 have q0:=R.ok.2.2.2.1;have q1:=R.ok.2.2.2.2.1;have wt:IntKind.i64.wrap (x.tr+1)=x.tr+1:=fg J J;rw [bB,adw];unfold eI Ix;by_cases o0:oc=0
 ·have hs:=h0 o0;subst hs;subst o0;by_cases p4:op=4
  ·subst p4;by_cases pt:4611686018427387904<x.tr+1
   ·simp only [oy,zz,hA,c1,ht,wt,pt,bA,if_true,eq_self,aK,aw]<;>exact⟨rfl,rfl⟩
   ·simp only [oy,zz,hA,c1,ht,wt,pt,bA,if_true,eq_self,if_false,aK,aw]<;>exact⟨rfl,rfl⟩
  ·simp only [oy,zz,hA,c1,ht,p4,bA,if_true,if_false,aK,aw]<;>exact⟨rfl,rfl⟩
 ·by_cases w0:x.w=0
  ·have c4:=hx w0;have F:=C.inf R c4;have ok:=F.ok;have Is:(x.lc.l.length:Int)=(((d1.at t).V 1).l.length:Int):=R.ok.2.2.1;have hnc:((d1.at t).V 2).l.length<=140737488351232:=(C.code R.t0 R.t1).len;unfold Nc at c4;have hw:IntKind.i64.wrap (x.a+1)=x.a+1:=fg J J;unfold OkI fk at ok;unfold fk;by_cases n1:((((d1.at t).V 2).at x.a).V 0).n=1
   ·have sj:((((d1.at t).V 2).at x.a).V 3).n= -1\/0<=((((d1.at t).V 2).at x.a).V 3).n/\((((d1.at t).V 2).at x.a).V 3).n<(x.lc.l.length:Int):=by
     grind
    by_cases i0:((((d1.at t).V 2).at x.a).V 3).n<0
    ·by_cases Js:((((d1.at t).V 2).at x.a).V 1).n=16
     ·by_cases VG:e2=16
      ·by_cases q4:e4=1
       ·exact aqv
       ·exact aqv
      ·by_cases F3:e2=15
       ·exact aqx
       ·exact aqx
     ·by_cases F3:e2=15
      ·exact aqs
      ·exact aqs
    ·omega
   ·by_cases F3:e2=15
    ·exact aqp
    ·exact aqp
  ·simp only [oy,zz,hA,c1,ht,o0,w0,bA,if_true,if_false,aK,aw]<;>exact⟨rfl,rfl⟩
end
end
section
variable {op obj arg tries:Int}
structure Sx (s k:D) (n:Nat):Prop where
 g:Gs s n
 wk:Wd (.sl 8) k
 n2s:s≠.i 2
 n2k:k≠.i 2
structure Sw (s k:D) (n:Nat):Prop where
 g:Gs s n
 wk:Wd (.sl 8) k
theorem Sx.sw {s k:D} {n:Nat} (S:Sx s k n):Sw s k n:=⟨S.g,S.wk⟩
theorem Sw.st {s k:D} {n:Nat} (S:Sw s k n):Sk s k:=⟨S.g.wd,S.wk⟩
theorem Sx.st {s k:D} {n:Nat} (S:Sx s k n):Sk s k:=S.sw.st
instance {s k:D} {n:Nat}:CoeOut (Sx s k n) (Sk s k):=⟨Sx.st⟩
instance {s k:D} {n:Nat}:CoeOut (Sw s k n) (Sk s k):=⟨Sw.st⟩
theorem Sx.mono {s k:D} {n m:Nat} (S:Sx s k n) (h:n<=m):Sx s k m:=⟨S.g.mono h,S.wk,S.n2s,S.n2k⟩
abbrev gZ (k:D) (t:Int) (x:KT):D:=dL (dg k.l t x.d)
theorem ee (a:D) (l:List D):dL (a::l)= .p a (dL l):=rfl
theorem eW:dL []= .i 0:=rfl
structure B2 (d0 d1 s:D) (t op obj arg tries:Int) (n:Nat) (s':D) (e1 e2 e3 e4 e5 oc:Int):Prop where
 eq:L 400 [enc d0,enc d1,enc s,t,op,obj,arg,tries]=some [enc s',e1,e2,e3,e4,e5,oc]
 no:oc=0->s'=s/\e1=0/\e2=0/\e3=0/\e4=0/\e5=0
 oc3:oc=0\/oc=2\/oc=3
 gs:Gs s' (n+1)
 len:s'.l.length=s.l.length
 n2:s≠.i 2->s'≠.i 2
 e3:fD .i64 e3
 e4:fD .i64 e4
theorem KL {d0 d1 s:D} {t:Int} {n:Nat} (h0:Wd (.sl 3) d0) (U:Wd (.sl 4) d1) (G:Gs s n) (hn:n<17592186043904) (ht:fD .i64 t) (pb:fD .u8 op) (vv:fD .i64 obj) (ha:fD .i64 arg) :
 ∃s' e1 e2 e3 e4 e5 oc,B2 d0 d1 s t op obj arg tries n s' e1 e2 e3 e4 e5 oc:=by
 have hf:=G.lD (by omega:n<17592186044415);have z:fD .i64 0:=⟨J,J⟩;by_cases A:Acc d0 d1 s t op obj
 ·obtain⟨_,o,c,dn,g,r,v,T,hL⟩:=Aq (arg:=arg) (tries:=tries) h0 U G.wd hf pb A;rw [AK] at hL;have o0:=A.o0;have o1:=A.o1;obtain⟨i,rfl⟩ : ∃i:Nat,obj=(i:Int):=⟨obj.toNat,J⟩;have hi:i<s.l.length:=J
  have ig:=G.rows _ (aq hi);have e:s.l[i]=dL [.i o,.i c,.i dn,.i g,r,v]:=by rw [<- bF hi]; exact T.is
  rw [e] at ig;have hA:=apz (M:=Mx d0 (i:Int)) (mo:=Mo d0 s (i:Int)) (op:=op) (tries:=tries) T (n:=n) ig.1 ig.2 J ht ha;have hE:=auh (M:=Mx d0 (i:Int)) (mo:=Mo d0 s (i:Int)) (th:=t) (op:=op) (tries:=tries) T (by have:=ig.1; have:r.l.length<=n:=this; omega) ha
  have hM:NoM (act (Mx d0 (i:Int)) (Mo d0 s (i:Int)) t op arg tries o c dn g r v)\/0<=Mx d0 (i:Int)/\Mx d0 (i:Int)<(s.l.length:Int):=by
   by_cases h:op=12\/op=24
   ·have:=HV h0 U G.wd hf pb A h;exact .inr ⟨this.1,this.2.1⟩
   ·exact .inl (Zp J J)
  have hg:=afJ G hA o0 o1 hM;have Y:=aan s (i:Int) (Mx d0 (i:Int)) (act (Mx d0 (i:Int)) (Mo d0 s (i:Int)) t op arg tries o c dn g r v);generalize act (Mx d0 (i:Int)) (Mo d0 s (i:Int)) t op arg tries o c dn g r v=B at *
  have hn2:s≠.i 2->F7 s (i:Int) (Mx d0 (i:Int)) B≠.i 2:=fun _ he=>by rw [he] at Y;have:(D.i 2).l.length=0:=rfl;omega
  cases B with
  |n7=>exact⟨s,0,0,0,0,0,0,hL,fun _=> ⟨rfl,rfl,rfl,rfl,rfl,rfl⟩,.inl rfl,hg,rfl,fun h=>h,z,z⟩
  |wM=>exact⟨s,t,27,_,_,0,2,hL,fun h=>absurd h J,.inr (.inl rfl),hg,rfl,fun h=>h,vv,so _⟩
  |res o' c' EE g' r' v' m a oc=>exact⟨_,t,op,_,a,0,oc,hL,fun h=>by have:=hA.2.2.2.2.2.2.2.2.2; omega,.inr hA.2.2.2.2.2.2.2.2.2,hg,Y,hn2,vv,hE⟩
 ·exact⟨s,0,0,0,0,0,0,Fw h0 U G.wd hf pb A,fun _=> ⟨rfl,rfl,rfl,rfl,rfl,rfl⟩,.inl rfl,G.mono (aw8 n),rfl,fun h=>h,z,z⟩
noncomputable abbrev stE (d0 d1 s k:D) (t:Int):Nat->Int:=df L (low [enc d0,enc d1,enc s,enc k,t])
theorem Le {k:D} {t:Int} {x:KT} (h:k=dL k.l) (t0:0<=t) (t1:t<(k.l.length:Int)) (hk:k.at t=x.d):gZ k t x=k:=by
 obtain⟨i,rfl⟩ : ∃i:Nat,t=(i:Int):=⟨t.toNat,J⟩;have hi:i<k.l.length:=J
 rw [bF hi] at hk;unfold gZ;rw [<- hk];exact fb h hi
section
variable {d0 d1 s k:D} {t:Int} (S:Sk s k)
include S
theorem K9 (hR:L 1550 [enc d0,enc d1,enc s,enc k,t]=some [0]):L 1850 [enc d0,enc d1,enc s,enc k,t]=some [enc s,enc k,0,0,0,0,0,0]:=by
 by_cases hr:t<0\/(k.l.length:Int)<=t
 ·rcases Zj S hr with h|⟨h,he⟩|⟨h,he⟩
  ·have K:eA (stE d0 d1 s k t) qS= .out [enc s,enc k,0,0,0,0,0,0]:=by
    exact k_
   exact Rv
  ·subst he
   have K:eA (stE d0 d1 s (.i 1) t) qS= .out [enc s,enc (.i 1),0,0,0,0,0,0]:=by exact k_
   exact Rv
  ·subst he
   have K:eA (stE d0 d1 s (.i 2) t) qS= .out [enc s,enc (.i 2),0,0,0,0,0,0]:=by exact k_
   exact Rv
 ·obtain⟨i,rfl⟩ : ∃i:Nat,t=(i:Int):=⟨t.toNat,J⟩;have hi:i<k.l.length:=J
  obtain⟨a,lc,w,o,g,tr,T⟩:=fq S.wk _ (aq hi);have h:=Ku S hi T;have hs:gZ k (i:Int) ⟨a,lc,w,o,g,tr⟩ = k:=Le (Dx S.wk J).sh J J (by rw [bF hi,T.is]);simp only [gZ,KT.d,ee,eW] at hs;have ha:yB lc=3\/yB lc=4:=by unfold yB; split<;>simp
  have K:eA (stE d0 d1 s k (i:Int)) qS= .out [enc s,enc k,0,0,0,0,0,0]:=by
   rcases ha with ha|ha
   ·exact ag7
   ·exact ag7
  exact Rv
end
structure Rs (d0 d1 s k:D) (t:Int) (x:KT):Prop where
 c:Cd d0 d1
 r:Rt d0 d1 t x
 hk:k.at t=x.d
 ht:t<(k.l.length:Int)
 yes:L 1550 [enc d0,enc d1,enc s,enc k,t]=some [1]
theorem Ll {d0 d1 s k:D} {t:Int} {n:Nat} (S:Sw s k n) (hn:n<17592186044000) (h0:Wd (.sl 3) d0) (U:Wd (.sl 4) d1):L 1550 [enc d0,enc d1,enc s,enc k,t]=some [0]\/∃x,Rs d0 d1 s k t x:=by
 obtain⟨ys,hL,b,rfl,hb⟩:=FX (k:=k) h0 U (S.g.lD J).rows U.len t;rcases hb with ⟨rfl,_⟩|⟨rfl,t0,t1,M⟩
 ·exact .inl hL
 ·refine .inr ?_;obtain⟨hle,hO⟩:=M.2;obtain⟨i,rfl⟩ : ∃i:Nat,t=(i:Int):=⟨t.toNat,J⟩;have hi:i<k.l.length:=J
  have V:i<d1.l.length:=J
  obtain⟨a,lc,w,o,g,tr,T⟩:=fq S.wk _ (aq hi);have ok:=hO i hi;unfold f? at ok;rw [T.is] at ok;simp only [zg,ax,zw] at ok;refine⟨⟨a,lc,w,o,g,tr⟩,(MR.code h0 U (S.g.lD J).rows M).1,⟨J,J,?_,T.Y,T.hg⟩,by rw [bF hi,T.is],J,hL⟩;rw [bF V];exact ok
section
variable {d0 d1 s k:D} {t:Int} {n:Nat} {x:KT} (S:Sk s k) (R:Rs d0 d1 s k t x)
include S R
theorem Rs.cp:L 9050 [t,enc s,enc k]=some [yB x.lc,t,enc s,enc k,x.a,enc x.lc,x.w,x.o,x.g,x.tr]:=by
 have t0:=R.r.t0;have ht:=R.ht;obtain⟨i,rfl⟩ : ∃i:Nat,t=(i:Int):=⟨t.toNat,J⟩;have hi:i<k.l.length:=J
 obtain⟨a,lc,w,o,g,tr,T⟩:=fq S.wk _ (aq hi);have h:=Ku S hi T;have e:=R.hk;rw [bF hi,T.is] at e;simp only [KT.d,ee,eW,D.p.injEq,D.i.injEq,and_true] at e;obtain⟨rfl,rfl,rfl,rfl,rfl,rfl⟩:=e;exact h
theorem Rs.self:dL (dg k.l t (.p (.i x.a) (.p x.lc (.p (.i x.w) (.p (.i x.o) (.p (.i x.g) (.p (.i x.tr) (.i 0))))))))=k:=by
 have Y:0<k.l.length:=by have:=R.r.t0; have:=R.ht; omega
 exact Le (Dx S.wk Y).sh R.r.t0 R.ht R.hk
theorem Cp (ho:fh d1 t x=1):L 1850 [enc d0,enc d1,enc s,enc k,t]=some [enc s,enc k,0,0,0,0,0,4]:=by
 have h:=R.cp S;have hs:=R.self S;have hR:=R.yes;have hO:=AH (s:=s) R.hk R.ht R.r;rw [ho] at hO;have ha:yB x.lc=3\/yB x.lc=4:=by unfold yB; split<;>simp
 have K:eA (stE d0 d1 s k t) qS= .out [enc s,enc k,0,0,0,0,0,4]:=by
  rcases ha with ha|ha
  ·exact ahc
  ·exact ahc
 exact Rv
theorem zh (ho:fh d1 t x=0) (hn:low (fS d1 t x) 4=0):L 1850 [enc d0,enc d1,enc s,enc k,t]=some [enc s,enc (gZ k t (jk (fk d1 t x) x)),0,0,0,0,0,1]:=by
 have h:=R.cp S;have hs:=R.self S;have hR:=R.yes;have hO:=AH (s:=s) R.hk R.ht R.r;have hN:=Lx (s:=s) R.c R.hk R.ht R.r;have Lc:=CT R.r ho hn;rw [ho] at hO
 have K:eA (stE d0 d1 s k t) qS= .out [enc s,enc (gZ k t (jk (fk d1 t x) x)),0,0,0,0,0,1]:=by
  have hw:(jk (fk d1 t x) x).w=x.w/\(jk (fk d1 t x) x).o=x.o/\(jk (fk d1 t x) x).g=x.g/\(jk (fk d1 t x) x).tr=x.tr:=by exact aqJ
  by_cases hp:0<x.lc.l.length
  ·have ha:yB x.lc=3:=ag hp;rw [ha] at h;have Y:=aaW (s:=s) R.c R.ht R.r Lc;simp only [qS,zz,h,hR,hs,hO,hN,hn,Y,gZ,KT.d,ee,eW,hw,Int.reduceEq]
  ·have ha:yB x.lc=4:=af hp;rw [ha] at h;obtain⟨Y,hc⟩:=aaV (s:=s) R.c R.ht R.r Lc J;simp only [qS,zz,h,hR,hs,hO,hN,hn,Y,gZ,KT.d,ee,eW,hw,hc,Int.reduceEq]
 exact Rv
theorem zf {e1 e2 e3 e4 e5 oc:Int} {s':D} (ho:fh d1 t x=0) (hn:fS d1 t x= [op,obj,arg,tries,1]) (A:B2 d0 d1 s t op obj arg tries n s' e1 e2 e3 e4 e5 oc) :
 L 1850 [enc d0,enc d1,enc s,enc k,t]=some [enc s',enc (gZ k t (eI (fk d1 t x) x op e2 e3 e4 oc)),e1,e2,e3,e4,e5,oc]:=by
 have h:=R.cp S;have hs:=R.self S;have hR:=R.yes;have hO:=AH (s:=s) R.hk R.ht R.r;have hN:=Lx (s:=s) R.c R.hk R.ht R.r;rw [ho] at hO;rw [hn] at hN
 have hx:x.w=0->x.a<(Nc d1 t:Int):=fun w0=>by unfold fh at ho;rw [ag w0] at ho;have:=R.r.ok.2.1;unfold Nc at ho ⊢;split at ho<;>omega
 have hE:Ix e1 e2 e3 e4 e5 oc= [e1,e2,e3,e4,e5]:=by
  unfold Ix;split
  ·rename_i h0;obtain⟨_,rfl,rfl,rfl,rfl,rfl⟩:=A.no h0;rfl
  ·rfl
 have K:eA (stE d0 d1 s k t) qS= .out [enc s',enc (gZ k t (eI (fk d1 t x) x op e2 e3 e4 oc)),e1,e2,e3,e4,e5,oc]:=by
  by_cases hp:0<x.lc.l.length
  ·have ha:yB x.lc=3:=ag hp;rw [ha] at h;have Y:=v? R.c R.ht R.r A.eq (fun h=>(A.no h).1) hx;rw [hE] at Y;simp only [aK,aw] at Y;simp only [qS,zz,h,hR,hs,hO,hN,Y,gZ,KT.d,ee,eW,Int.reduceEq]
  ·have ha:yB x.lc=4:=af hp;rw [ha] at h;obtain⟨Y,hc⟩:=v! R.c R.ht R.r A.eq (fun h=>(A.no h).1) hx J;rw [hE] at Y;simp only [aK,aw] at Y;simp only [qS,zz,h,hR,hs,hO,hN,Y,gZ,KT.d,ee,eW,hc,Int.reduceEq]
 exact Rv
end
end
section
variable {j:Nat} {xs ys:List Int} {t:T Lf} {p:List Int->Prop}
theorem bK.jmp {k:Nat} (e:S.tree j=t) (h:eA (df L (low xs)) t= .jump k ys) (q:bK k ys p):bK j xs p:=by refine bK.of ?_;rw [e,h];exact .jump q
theorem bK.ret (e:S.tree j=t) (h:eA (df L (low xs)) t= .out ys) (q:p ys):bK j xs p:=by refine bK.of ?_;rw [e,h];exact .out q
theorem I1 (m:Nat) (hm:m<=60) (ih: ∀(k n:Int) (s kids:D),Wd .str s->Wd (.sl 6) kids->bK 150 [k,enc s,n,enc kids,(m:Int)] one) (x3 x4 x5:Int) (kids:D) (hk:Wd (.sl 6) kids) :
 ∀(j i:Nat) (x1:Int),i+j=kids.l.length->bK 151 [((m+1:Nat):Int),x1,(i:Int),x3,x4,x5,enc kids] one
 |0,i,x1,hi=>bK.ret agD (ys:=[x1]) (cg [] [.lt Qo Nj] (ou [Qb]) (by simp only [zz]<;>omega) aa (by simp only [zz])) ⟨x1,rfl⟩
 |j+1,i,x1,hi=>by
  have Y:=hk.len;have cY:i<kids.l.length:=J
  have hw:=bx (n:=i) J;obtain⟨k,s,n,ks,he,_,hs,_,WG⟩:=qG hk cY;have ha:kids.at (i:Int)=dL [.i k,s,.i n,ks]:=by rw [bF cY]; exact he
  obtain⟨ys,Tx,z,rfl⟩:=ih k n s ks hs WG;have hw2:IntKind.i64.wrap (((m+1:Nat):Int)-1)=(m:Int):=by rw [fg J J]; omega
  by_cases hx:10000<x1
  ·exact bK.ret agD (ys:=[x1]) (cg [.lt Qo Nj,.lt (.lit 10000) Qb] [] (ou [Qb]) (by simp only [zz]<;>omega) aa (by simp only [zz])) ⟨x1,rfl⟩
  ·exact bK.jmp agD (cg [.lt Qo Nj,.eq (a0 150 Qi6) Q0] [.lt (.lit 10000) Qb,Aa] (ju 151 [Qf,wr (.add Qb (rr 150 Qi6 0)),Dr,Qm,bR,cC,eu]) (by simp only [zz,ha,zg,hw2,Tx]<;>omega) aa (by simp only [zz,ha,zg,hw2,Tx,hw]<;>rfl)) (I1 m hm ih x3 x4 x5 kids hk j (i+1) (IntKind.i64.wrap (x1+z)) J)
theorem N4: ∀(m:Nat),m<=60->∀(k n:Int) (s kids:D),Wd .str s->Wd (.sl 6) kids->bK 150 [k,enc s,n,enc kids,(m:Int)] one
 |0,_,k,n,s,kids,_,_=>bK.ret apm (ys:=[10000]) (cg [Qi1] [] (ou [.lit 10000]) (by simp only [zz]<;>omega) aa (by simp only [zz])) ⟨_,rfl⟩
 |m+1,hm,k,n,s,kids,hs,hk=>bK.jmp apm (ys:=[((m+1:Nat):Int),_,(0:Nat),k,enc s,n,enc kids]) (cg [] [Qi1] (ju 151 [bR,wr (.add Q0 (wr (.quo Qc Qi2))),Qa,Qf,Qb,Qo,Qm]) (by simp only [zz]<;>omega) aa (by simp only [lS,List.map,cE,Nat.reduceLT,cT,cZ]<;>rfl)) (I1 m J (N4 m J) k (enc s) n kids hk kids.l.length 0 _ J)
section
variable {d0 d1:D} (U:Wd (.sl 4) d1)
include U
theorem GW (x1 x2 x3:Int) (qv:D) (ha:Wd (.sl 6) qv) (q: ∀x0,bK 102 [x0,x1,IntKind.i64.wrap (x2+1),x3,enc d0,enc d1] vG): ∀(j i:Nat) (x0:Int),i+j=qv.l.length->bK 103 [x0,x1,x2,x3,enc qv,(qv.l.length:Int),(i:Int),enc d0,enc d1] vG
 |0,i,x0,hi=>bK.jmp apn (cg [] [.lt eu cC] (ju 102 [Qf,Qb,Dr,Qm,gj,gX]) (by simp only [zz]<;>omega) aa (by simp only [zz])) (q x0)
 |j+1,i,x0,hi=>by
  have Y:=ha.len;have cY:i<qv.l.length:=J
  have hw:=bx (n:=i) J;obtain⟨k,s,n,ks,he,_,hs,_,WG⟩:=qG ha cY;have fU:qv.at (i:Int)=dL [.i k,s,.i n,ks]:=by rw [bF cY]; exact he
  obtain⟨ys,Tx,z,rfl⟩:=N4 60 J k n s ks hs WG;have Tx:L 150 [k,enc s,n,enc ks,60]=some [z]:=Tx;exact bK.jmp apn (cg [.lt eu cC,.lt eu EK,.eq (a0 150 Qi0) Q0] [Qiy] (ju 103 [wr (.add Qf (rr 150 Qi0 0)),Qb,Qo,Qm,bR,cC,wr (.add eu Q0),gj,gX]) (by simp only [zz,fU,zg,Tx]<;>omega) aa (by simp only [zz,fU,zg,Tx,hw]<;>rfl)) (GW x1 x2 x3 qv ha q j (i+1) (IntKind.i64.wrap (x0+z)) J)
theorem YZ (i:Nat) (hi:i<d1.l.length) (q: ∀x0,bK 101 [x0,(d1.l.length:Int),((i+1:Nat):Int),enc d0,enc d1] vG): ∀(j k:Nat) (x0:Int),(∀sc lc cd,d1.l[i]=dL [sc,lc,cd]->k+j=cd.l.length)->bK 102 [x0,(i:Int),(k:Int),(d1.l.length:Int),enc d0,enc d1] vG:=by
 have Y:=U.len;have hw:=bx (n:=i) J;obtain⟨sc,lc,cd,he,_,_,Rc⟩:=qy U hi;have fU:d1.at (i:Int)=dL [sc,lc,cd]:=by rw [bF hi]; exact he
 have vK:=Rc.len;intro j
 induction j with
 |zero=> intro k x0 hk;have hk:=hk _ _ _ he;exact bK.jmp agE (cg [.lt Qb KC] [Dq,.lt Qo (ln (ce 2 QI))] (ju 101 [Qf,Qm,Nk,bR,cC]) (by simp only [zz,fU,zg]<;>omega) aa (by simp only [zz,hw]<;>rfl)) (q x0)
 |succ j ih=>
  intro k x0 hk;have WH:=hk _ _ _ he;by_cases h6:6000<x0
  ·exact bK.jmp agE (cg [.lt Qb KC,.lt Qo (ln (ce 2 QI)),.lt (.lit 6000) Qf] [Dq] (ju 101 [Qf,Qm,Nk,bR,cC]) (by simp only [zz,fU,zg]<;>omega) aa (by simp only [zz,hw]<;>rfl)) (q x0)
  ·have Bb:k<cd.l.length:=J
   have hw2:=bx (n:=k) J;obtain⟨a,b,c,e,f,g,qv,sj,_,_,_,_,_,_,has⟩:=Ta Rc Bb;have avZ:cd.at (k:Int)=dL [.i a,.i b,.i c,.i e,.i f,.i g,qv]:=by rw [bF Bb]; exact sj
   refine bK.jmp agE (cg [.lt Qb KC,.lt Qo (ln (ce 2 QI))] [Dq,.lt (.lit 6000) Qf,Aa] (ju 103 [Qf,Qb,Qo,Qm,Qix,ln Qix,Qa,bR,cC]) (by simp only [zz,fU,zg]<;>omega) aa (by simp only [zz,fU,avZ,zg]<;>rfl)) (GW U (i:Int) (k:Int) (d1.l.length:Int) qv has (fun x0=>?_) qv.l.length 0 x0 J);rw [hw2];exact ih (k+1) x0 fun sc lc cd he=>by have:=hk sc lc cd he; omega
theorem GV: ∀(j i:Nat) (x0:Int),i+j=d1.l.length->bK 101 [x0,(d1.l.length:Int),(i:Int),enc d0,enc d1] vG
 |0,i,x0,hi=>by
  by_cases h6:6000<x0
  ·exact bK.ret agF (cg [.lt (.lit 6000) Qf] [yD] (ou [Q0]) (by simp only [zz]<;>omega) aa (by simp only [zz])) sV
  ·exact bK.ret agF (cg [] [yD,.lt (.lit 6000) Qf] (ou [Qa]) (by simp only [zz]<;>omega) aa (by simp only [zz])) zD
 |j+1,i,x0,hi=>by
  have cY:i<d1.l.length:=J
  obtain⟨sc,lc,cd,he,_,_,Rc⟩:=qy U cY;refine bK.jmp agF (ys:=[_,(i:Int),((0:Nat):Int),(d1.l.length:Int),enc d0,enc d1]) (cg [yD,b?] [Aa] (ju 102 [wr (.add Qf (wr (.add (ln Qdm) (ln (ce 2 Qdl))))),Qo,Qa,Qb,Qm,bR]) (by simp only [zz]<;>omega) aa (by simp only [zz]<;>rfl)) (YZ U i cY (fun x0=>GV j (i+1) x0 J) cd.l.length 0 _ fun n' l' c' Ai=>?_);rw [he] at Ai;have:=HC Ai;simp only [List.cons.injEq,and_true] at this;rw [this.2.2];omega
theorem YY:bK 100 [enc d0,enc d1] vG:=
 bK.jmp at0 (ys:=[_,(d1.l.length:Int),((0:Nat):Int),enc d0,enc d1]) (cg [] [] (ju 101 [wr (.add pn Qc),Qc,Qa,Qf,Qb]) (by simp only [zz]<;>omega) aa (by simp only [zz]<;>rfl)) (GV U d1.l.length 0 _ J)
end
end
section
variable {d1 d0:D} {t:Int} {x:KT}
def jN (x:D):D:=dL [.i 0,if (x.V 1).l.length=0 then .i 2 else dL (List.replicate (x.V 1).l.length (.i 0)),.i 0,.i 0,.i 0,.i 0]
def ss (d0:D):D:=if d0.l.length=0 then .i 1 else dL (d0.l.map fe)
def sP (d1:D):D:=if d1.l.length=0 then .i 1 else dL (d1.l.map jN)
theorem Fu {l:List D} (h: ∀x∈l,∃a lc w o g tr,Kt x a lc w o g tr) (hn:l≠[]) (Y:l.length<=2199023255488):Wd (.sl 8) (dL l):=by
 have e:(l.map fun x=>x.l).map dL=l:=by
  rw [axd]
  conv=>rhs; rw [<- axV l]
  apply axn;intro x hx;obtain⟨a,lc,w,o,g,tr,T⟩:=h x hx;rw [T.is];rfl
 rw [<- e];refine .many 8 [.int .i64,.sl 0,.int .u8,.int .i64,.int .i64,.int .i64] _ rfl (by simpa using hn) (by have:l4 8=64:=rfl; rw [this,a8]; omega) (fun r hr=>?_) fun r hr j d c U Z=>?_
 ·obtain⟨x,hx,rfl⟩:=aQ.1 hr;obtain⟨a,lc,w,o,g,tr,T⟩:=h x hx;rw [T.is];rfl
 ·obtain⟨x,hx,rfl⟩:=aQ.1 hr;obtain⟨a,lc,w,o,g,tr,T⟩:=h x hx;rw [T.is,bz] at U
  match j with
  |0=>simp at U Z; subst U Z; exact .int _ _ T.ha
  |1=>simp at U Z; subst U Z; exact T.Y
  |2=>simp at U Z; subst U Z; exact .int _ _ T.hw
  |3=>simp at U Z; subst U Z; exact .int _ _ T.ho
  |4=>simp at U Z; subst U Z; exact .int _ _ T.hg
  |5=>simp at U Z; subst U Z; exact .int _ _ T.ht
  |j+6=>simp at U
theorem Gp (U:Wd (.sl 4) d1): ∀x∈d1.l,(x.V 1).l.length<=8796093021952:=by
 intro x hx;obtain⟨i,hi,rfl⟩:=axi hx;obtain⟨sc,lc,cd,he,_,WE,_⟩:=qy U hi;rw [he];simp only [zg,ax];have:=WE.room;have h3:l4 2=16:=rfl
 grind
theorem DV (d1:D) (U:Wd (.sl 4) d1) (hlen:d1.l.length<=16) (s:D): ∀(k i:Nat) (acc:List D),i+k=d1.l.length->acc.length=i->
 L 1452 [enc d1,(d1.l.length:Int),(i:Int),enc s,enc (dL acc)]=some [enc s,enc (dL (acc++(d1.l.drop i).map jN)),0]
 |0,i,acc,hi,ha=>by
  have c1: ¬(i:Int)<(d1.l.length:Int):=J
  rw [bB,adx,aN J];simp only [Vr,zz,c1,bA,axt,awU]
 |k+1,i,acc,hi,ha=>by
  have cY:i<d1.l.length:=J
  have V:d1.l.drop i=d1.l[i]::d1.l.drop (i+1):=aG cY;have ih:=DV d1 U hlen s k (i+1) (acc++ [jN d1.l[i]]) J (by simp [ha]);have c1:(i:Int)<(d1.l.length:Int):=J
  have c2: ¬((i:Int)<0):=J
  have w:=bx (n:=i) J;have c3:(acc.length:Int)<2199023255551:=J
  have hb:=Gp U _ (aq cY);have c4:((((d1.l[i]).V 1).l.length:Nat):Int)<17592186044416:=J
  have e2:acc++(jN d1.l[i]::(d1.l.drop (i+1)).map jN)=acc++ [jN d1.l[i]]++(d1.l.drop (i+1)).map jN:=ad
  rw [V,aC,e2,<- ih,bB,adx];by_cases hz:((d1.l[i]).V 1).l.length=0
  ·have A9:((((d1.l[i]).V 1).l.length:Nat):Int)=0:=J
   have et:jN d1.l[i]= .p (.i 0) (.p (.i 2) (.p (.i 0) (.p (.i 0) (.p (.i 0) (.p (.i 0) (.i 0)))))):=by unfold jN; rw [ag hz]; rfl
   rw [et];simp only [Vr,zz,c1,c2,w,bF cY,A9,c3,bz,bI]
  ·have A9: ¬((((d1.l[i]).V 1).l.length:Nat):Int)=0:=J
   have et:jN d1.l[i]= .p (.i 0) (.p (dL (List.replicate ((d1.l[i]).V 1).l.length (.i 0))) (.p (.i 0) (.p (.i 0) (.p (.i 0) (.p (.i 0) (.i 0)))))):=by unfold jN; rw [af hz]; rfl
   rw [et];simp only [Vr,zz,c1,c2,w,bF cY,A9,c3,c4,bz,aW,bI]
theorem OH (d1:D) (U:Wd (.sl 4) d1) (hlen:d1.l.length<=16) (s:D):L 1451 [enc d1,(d1.l.length:Int),enc s]=some [enc s,enc (sP d1),0]:=by
 by_cases hn:d1.l.length=0
 ·have c1: ¬(0:Int)<(d1.l.length:Int):=J
  have e:sP d1= .i 1:=by unfold sP; rw [ag hn]
  rw [bB,ady,e];simp only [Vs,zz,c1,bA]
 ·have hp:0<d1.l.length:=J
  have c1:(0:Int)<(d1.l.length:Int):=J
  have e:sP d1=dL (d1.l.map jN):=by unfold sP; rw [af hn]
  have ih:=DV d1 U hlen s (d1.l.length-1) 1 [jN (d1.l[0]'hp)] J rfl
  have e1:[jN (d1.l[0]'hp)]++(d1.l.drop 1).map jN=d1.l.map jN:=by
   conv=>rhs; rw [<- awQ (l:=d1.l),aG hp]
   rfl
  rw [e1,<- e] at ih;have a0:d1.at 0=d1.l[0]'hp:=bF (i:=0) hp;have hb:=Gp U _ (aq hp);have c4:((((d1.l[0]'hp).V 1).l.length:Nat):Int)<17592186044416:=J
  rw [<- ih,bB,ady];by_cases hz:((d1.l[0]'hp).V 1).l.length=0
  ·have A9:((((d1.l[0]'hp).V 1).l.length:Nat):Int)=0:=J
   have et:dL [jN (d1.l[0]'hp)]= .p (.p (.i 0) (.p (.i 2) (.p (.i 0) (.p (.i 0) (.p (.i 0) (.p (.i 0) (.i 0))))))) (.i 0):=by unfold jN; rw [ag hz]; rfl
   rw [et];simp only [Vs,zz,c1,a0,A9,pQ,aw,ee,eW,bI,bo]
  ·have A9: ¬((((d1.l[0]'hp).V 1).l.length:Nat):Int)=0:=J
   have et:dL [jN (d1.l[0]'hp)]= .p (.p (.i 0) (.p (dL (List.replicate ((d1.l[0]'hp).V 1).l.length (.i 0))) (.p (.i 0) (.p (.i 0) (.p (.i 0) (.p (.i 0) (.i 0))))))) (.i 0):=by unfold jN; rw [af hz]; rfl
   rw [et];simp only [Vs,zz,c1,a0,A9,c4,pQ,aw,ee,eW,aW,bI,bo]
theorem YE (U:Wd (.sl 4) d1) (hc:L 450 [enc d0,enc d1]=some [0]) (ok:zq d0 d1):L 1450 [enc d0,enc d1]=some [enc (ss d0),enc (sP d1),0]:=by
 have h3:L 300 [enc d0,enc d1]=some [enc (ss d0)]:=by exact aqw
 have K:eA (df L (low [enc d0,enc d1])) S_= .jump 1451 [enc d1,(d1.l.length:Int),enc (ss d0)]:=by refine cg [Qjy,Qjz,.eq (a0 300 xz) Q0] [] (ju 1451 [Qb,Qc,rr 300 xz 0]) (by simp only [zz,hc,h3]<;>omega) aa ?_;simp only [zz,h3]
 rw [bB,adA];exact (congrArg (fin L) K).trans (OH d1 U ok.2.1 _)
theorem YD {c:Int} (hc:L 450 [enc d0,enc d1]=some [c]) (h:c≠0):L 1450 [enc d0,enc d1]=some [enc (.i 1),enc (.i 1),c]:=by
 have K:eA (df L (low [enc d0,enc d1])) S_= .out [enc (.i 1),enc (.i 1),c]:=by refine cg [Qjy] [Qjz] (ou [Qh,Qh,rr 450 xz 0]) (by simp only [zz,hc]<;>omega) aa ?_;simp only [zz,hc]
 rw [bB,adA];exact tp
theorem wz (k:D) (t:Int) (x:KT):(gZ k t x).l.length=k.l.length:=by rw [bz,dM]
theorem JG (ho: ¬fh d1 t x=1) (h: ¬low (fS d1 t x) 4=0): ∃op obj arg tr,fS d1 t x= [op,obj,arg,tr,1]:=by
 unfold fh at ho;unfold fS at h ⊢;by_cases w0:x.w=0
 ·rw [ag w0] at ho h ⊢;by_cases a0:x.a=(Nc d1 t:Int)
  ·grind
  ·rw [af a0] at h ⊢;by_cases U:((fk d1 t x).V 0).n=1
   ·grind
   ·rw [af U] at h ⊢;by_cases Z:((fk d1 t x).V 0).n=2
    ·grind
    ·rw [af Z] at h;exact absurd rfl h
 grind
theorem AI (d1:D) (t:Int) (x:KT):fh d1 t x=0\/fh d1 t x=1:=by
 unfold fh
 grind
theorem VV (C:Cd d0 d1) (R:Rt d0 d1 t x) (hd0:d0.l.length<=64) {op obj arg tr b:Int} (hn:fS d1 t x= [op,obj,arg,tr,b]):fD .u8 op/\fD .i64 obj/\fD .i64 arg:=by
 have z8:fD .u8 0:=⟨J,J⟩;have z:fD .i64 0:=⟨J,J⟩;have ok:=R.ok;unfold fS at hn;by_cases w0:x.w=0
 ·rw [ag w0] at hn;by_cases a0:x.a=(Nc d1 t:Int)
  ·grind
  ·have gk:x.a<(Nc d1 t:Int):=by have:=ok.2.1; unfold Nc at a0 ⊢; omega
   have F:=C.inf R gk;rw [af a0] at hn;by_cases U:((fk d1 t x).V 0).n=1
   ·rw [ag U] at hn;simp only [List.cons.injEq] at hn;obtain⟨rfl,rfl,rfl,_⟩:=hn;exact⟨F.op,F.ob,agW F.ar R.ints⟩
   ·rw [af U] at hn;by_cases Z:((fk d1 t x).V 0).n=2
    ·rw [ag Z] at hn;simp only [List.cons.injEq] at hn;obtain⟨rfl,rfl,rfl,_⟩:=hn;exact⟨⟨J,J⟩,F.ob,z⟩
    grind
 ·rw [af w0] at hn;simp only [List.cons.injEq] at hn;obtain⟨rfl,rfl,rfl,_⟩:=hn;obtain⟨_,_,_,_,_,hw⟩:=ok;exact⟨⟨J,J⟩,⟨J,J⟩,R.hg⟩
end
section
variable {op e2 e3 e4 oc:Int}
theorem ae2 {lc:D} (h:Wd (.sl 0) lc) {z v:Int} (h0:0<=z) (U:z<(lc.l.length:Int)) (hv:fD .i64 v):Wd (.sl 0) (dL (dg lc.l z (.i v))):=by
 have:=h.room;have h3:l4 0=8:=rfl;rw [h3] at this;have hs:=dM lc.l z (.i v);refine ug (fun y hy=>?_) (fun he=>?_) (by rw [hs]; omega)
 ·rcases wN hy with h'|rfl
  ·exact (h.el1 rfl y h').i
  grind
 grind
theorem EM {k:D} (hk:Wd (.sl 8) k) {t:Int} {x:KT} (h: ∃a lc w o g tr,Kt x.d a lc w o g tr) (hp:0<k.l.length):Wd (.sl 8) (gZ k t x):=by
 have hf:=hk.room;have h3:l4 8=64:=rfl;rw [h3] at hf;have hs:=dM k.l t x.d;refine Fu (fun y hy=>?_) (fun he=>?_) (by rw [hs]; omega)
 ·rcases wN hy with h'|rfl
  ·exact fq hk y h'
  grind
 grind
section
variable {d0 d1 s k:D} {t:Int} {n:Nat} {x:KT}
theorem OL {x:KT} (ha:fD .i64 x.a) (Y:Wd (.sl 0) x.lc) (hw:fD .u8 x.w) (ho:fD .i64 x.o) (hg:fD .i64 x.g) (ht:fD .i64 x.tr): ∃a lc w o g tr,Kt x.d a lc w o g tr:=⟨_,_,_,_,_,_,rfl,ha,Y,hw,ho,hg,ht⟩
theorem Rt.kt (C:Cd d0 d1) (R:Rt d0 d1 t x): ∃a lc w o g tr,Kt x.d a lc w o g tr:=by obtain⟨a0,a1,_,t0,t1,hw⟩:=R.ok;have V:=C.ok.1;have hnc:=(C.code R.t0 R.t1).len;exact OL ⟨J,J⟩ R.Y ⟨J,J⟩ ⟨J,J⟩ R.hg ⟨J,J⟩
theorem w? (C:Cd d0 d1) (R:Rt d0 d1 t x) (hx:x.w=0->x.a<(Nc d1 t:Int)) (h3:fD .i64 e3) (h4:fD .i64 e4): ∃a lc w o g tr,Kt (eI (fk d1 t x) x op e2 e3 e4 oc).d a lc w o g tr:=by
 obtain⟨a0,a1,Is,t0,t1,hw⟩:=R.ok;have V:=C.ok.1;have hnc:=(C.code R.t0 R.t1).len;have ka:fD .i64 x.a:=⟨J,J⟩;have kw:fD .u8 x.w:=⟨J,J⟩;have ko:fD .i64 x.o:=⟨J,J⟩;have kt:fD .i64 x.tr:=⟨J,J⟩;have z:fD .i64 0:=⟨J,J⟩;have z8: ∀v:Int,v=0\/v=24\/v=25->fD .u8 v:=fun v h=> ⟨J,J⟩;unfold eI;split
 ·split
  ·exact OL ka R.Y kw ko R.hg (by
    show fD .i64 (if 4611686018427387904<x.tr+1 then 4611686018427387904 else x.tr+1)
    split<;>exact⟨J,J⟩)
  ·exact OL ka R.Y kw ko R.hg kt
 ·split
  ·rename_i w0;have F:=C.inf R (hx w0);have ok:=F.ok;have U:=hx w0;unfold Nc at U;unfold OkI at ok;have k1:fD .i64 (x.a+1):=⟨J,J⟩;refine OL ?_ ?_ ?_ ?_ ?_ z
   ·show fD .i64 (if _ then _ else _);split
    ·exact F.to
    grind
   ·show Wd (.sl 0) (if _ then _ else _);split
    ·rename_i hc;refine ae2 R.Y J ?_ h4
     grind
    ·exact R.Y
   all_goals grind
  ·exact OL ka R.Y (z8 _ (.inl rfl)) z z z
theorem Vx {k:D} (hp:0<k.l.length) (t:Int) (x:KT):gZ k t x≠.i 2:=fun he=>by have:=wz k t x;rw [he] at this;have e:(D.i 2).l.length=0:=rfl;omega
theorem RE (S:Sx s k n) (C:Cd d0 d1) (R:Rt d0 d1 t x) (ht:t<(k.l.length:Int)) (hx:x.w=0->x.a<(Nc d1 t:Int)) {obj arg tries e1 e5:Int} {s':D} (A:B2 d0 d1 s t op obj arg tries n s' e1 e2 e3 e4 e5 oc) :
 Sx s' (gZ k t (eI (fk d1 t x) x op e2 e3 e4 oc)) (n+1):=by
 have hp:0<k.l.length:=by have:=R.t0; omega
 exact⟨A.gs,EM S.wk (w? C R hx A.e3 A.e4) hp,A.n2 S.n2s,Vx hp _ _⟩
theorem P7 (R:Rt d0 d1 t x) (ho:fh d1 t x=0):x.w=0->x.a<(Nc d1 t:Int):=fun w0=>by unfold fh at ho;rw [ag w0] at ho;have:=R.ok.2.1;unfold Nc at ho ⊢;split at ho<;>omega
end
end
section
variable {P Q:Prop} {j:Nat} {xs:List Int}
theorem CR: ∀(l:List D) (k v k':D),kU (vF l k v) k'=if k=k' then some v else kU l k'
 |[],k,v,k'=>by
  simp only [vF,kU];by_cases h:k=k'
  ·rw [ag h]; exact ag h
  ·rw [af h]; exact af h
 |d::l,k,v,k'=>by
  simp only [vF];by_cases h:Uy d=k
  ·rw [ag h];simp only [kU];by_cases Z:k=k'
   ·rw [ag Z]; exact ag Z
   ·rw [af Z,af (fun h3=>Z (h.symm.trans h3))]; exact af Z
  ·rw [af h];simp only [kU,CR l k v k']
   grind
def nV (m:Int) (l:List D):Prop:=(∀x∈l,0<=x.n/\x.n<m)/\(l.map D.n).Nodup
def QP (N o dn:Int) (rl vl:Nat):Prop:=(N<0->(vl:Int)=0)/\(0<=N->(vl:Int)<=N)/\(o<0\/(rl:Int)=0/\dn=0)
def UL (s:D) (l:List D):Prop:= ∀n:Int,(kU s.l (.i n)=none/\n∉l.map D.n)\/(kU s.l (.i n)=some (.i 1)/\n∈l.map D.n)
theorem aab {s x:D} {l:List D} (h:UL s l):UL (dL (vF s.l (.i x.n) (.i 1))) (l++ [x]):=fun n=>by
 rw [bz,CR,ax5];by_cases hn:x.n=n
 ·rw [ag (by rw [hn])];exact .inr ⟨rfl,ayc _ (by simp [hn])⟩
 ·rw [af (fun h=>hn (by simpa using h))];rcases h n with ⟨U,Z⟩|⟨U,Z⟩
  ·refine .inl ⟨U,fun h3=>?_⟩;rcases aw5.1 h3 with h3|h3
   ·exact Z h3
   ·simp only [List.map,aF,aw7,or_false] at h3;exact hn h3.symm
  ·exact .inr ⟨U,ayz _ Z⟩
theorem E5 {ys:List Int} (h:P) (hQ:Ey Q ys):Ey (P/\Q) ys:=by
 grind
theorem uF (h: ¬P):Ey (P/\Q) [0]:=kA fun q=>h q.1
theorem N8 (m:Int) (r:D) (Y:r.l.length<=140737488351232) (k sc N x7 x8 o c dn g:Int) (v:D): ∀(j i:Nat) (seen:D),i+j=r.l.length->UL seen (r.l.take i)->nV m (r.l.take i)->
 bK 501 [m,enc r,(r.l.length:Int),(i:Int),k,sc,N,x7,x8,o,c,dn,g,enc v,enc seen] (Ey (nV m r.l/\QP N o dn r.l.length v.l.length))
 |0,i,seen,hi,_,hR=>by
  have c1: ¬(i:Int)<(r.l.length:Int):=J
  rw [axm J] at hR;refine bK.of ?_;unfold QP;rw [acC];simp only [X1,zz,c1]
  repeat' first
   |exact .out (E5 hR (kA J))
   |exact .out (E5 hR (A6 J))
   |refine .ite (fun _=>?_) (fun _=>?_)
 |j+1,i,seen,hi,hS,hR=>by
  have cY:i<r.l.length:=J
  have c1:(i:Int)<(r.l.length:Int):=J
  have c2: ¬((i:Int)<0):=J
  have w:=bx (n:=i) J;have ht:r.l.take (i+1)=r.l.take i++ [r.l[i]]:=by rw [List.take_add_one,aM cY]; rfl
  have YU:r.l[i]∈r.l:=aq cY;have ih:=fun h=>N8 m r Y k sc N x7 x8 o c dn g v j (i+1) (dL (vF seen.l (.i (r.l[i]).n) (.i 1))) J (by rw [ht]; exact aab hS) h;refine bK.of ?_;rw [acC];rcases hS (r.l[i]).n with ⟨U,Z⟩|⟨U,Z⟩
  ·simp only [X1,zz,c1,c2,w,bF cY,U,Option.isSome_none,aR];refine .ite (fun q=> .out (uF fun R=>?_)) (fun q=> .ite (fun q2=>?_) (fun q2=> .out (uF fun R=>?_)))
   ·have:=R.1 _ YU;omega
   ·refine .jump (ih ?_);rw [ht];refine⟨fun x hx=>?_,?_⟩
    ·rcases aw5.1 hx with hx|hx
     ·exact hR.1 x hx
     ·simp only [aF,aw7,or_false] at hx;subst hx;exact⟨J,q2⟩
    ·rw [ax5,List.nodup_append];refine⟨hR.2,ad,fun a ha b hb=>?_⟩;simp only [List.map,aF,aw7,or_false] at hb;subst hb;intro he;subst he;exact Z ha
   ·have:=R.1 _ YU;omega
  ·simp only [X1,zz,c1,c2,w,bF cY,U,bM]
   have nd: ¬nV m r.l:=fun R=>by
    have hn:=R.2;have e:r.l=r.l.take i++r.l[i]::r.l.drop (i+1):=by rw [<- aG cY,axq]
    rw [e,ax5,List.nodup_append] at hn;exact hn.2.2 _ Z _ (by rw [aC]; exact awO) rfl
   refine .ite (fun q=> .out (uF nd)) (fun q=> .ite (fun q2=> .out (uF nd)) (fun q2=> .out (uF nd)))
theorem Yf (m:Int) (r:D) (Y:r.l.length<=140737488351232) (k sc N x7 x8 o c dn g:Int) (v:D) :
 bK 501 [m,enc r,(r.l.length:Int),0,k,sc,N,x7,x8,o,c,dn,g,enc v,enc (.i 0)] (Ey (nV m r.l/\QP N o dn r.l.length v.l.length)):=
 N8 m r Y k sc N x7 x8 o c dn g v r.l.length 0 (.i 0) J (fun n=> .inl ⟨rfl,ad⟩) ⟨ad,ad⟩
def xA (k N c:Int):Prop:=k=9\/(k=3/\0<=c/\c<=N)\/(k=5/\0<=c/\c<=IntKind.i64.wrap (N-1))\/(k=7/\0<=c/\c<=1099511627776)\/(k≠3/\k≠5/\k≠7/\k≠9/\c=0)
theorem afY (k x1 N x3 x4 c:Int): ∃a b:Int,L 650 [k,x1,N,x3,x4]=some [a,b]/\(b=0/\xA k N c\/b=1/\(xA k N c↔0<=c/\c<=a)):=by
 have:bK 650 [k,x1,N,x3,x4] (fun ys=> ∃a b:Int,ys= [a,b]/\(b=0/\xA k N c\/b=1/\(xA k N c↔0<=c/\c<=a))):=by
  unfold xA;refine bK.of ?_;rw [ao8];simp only [anA,zz]
  repeat' first
   |exact .out ⟨_,_,rfl,J⟩
   |refine .ite (fun _=>?_) (fun _=>?_)
 obtain⟨ys,h,a,b,rfl,Z⟩:=this
 grind
def aeL (k N m o c dn g:Int) (rl vl:Nat):Prop:=
 xA k N c/\-1<=o/\o<m/\0<=g/\g<=4611686018427387904/\(0<=o->k=1\/k=2\/k=6)/\(0<(rl:Int)->k=4\/k=2)/\(0<(vl:Int)->k=8)/\(dn≠0->k=6)/\(0<g->k=5)
def Nf (k N m o c dn g:Int) (r v:D):Prop:=aeL k N m o c dn g r.l.length v.l.length/\nV m r.l/\QP N o dn r.l.length v.l.length
set_option maxHeartbeats 4000000 in
theorem Y' (k x1 N x3 x4 m o c dn g:Int) (r v:D) (Y:r.l.length<=140737488351232):bK 500 [k,x1,N,x3,x4,o,c,dn,g,enc r,enc v,m] (Ey (Nf k N m o c dn g r v)):=by
 unfold Nf aeL;obtain⟨a,b,hM,hb⟩:=afY k x1 N x3 x4 c;have ih:=Yf m r Y k x1 N x3 x4 o c dn g v;refine bK.of ?_;rw [apa];generalize xA k N c=H at *;by_cases b0:b=0
 ·subst b0
  have hH:H:=by
   grind
  simp only [afm,zz,hM]
  repeat' first
   |exact .out (uF J)
   |exact .jump (let ⟨ys,hL,hB⟩:=ih; ⟨ys,hL,E5 ⟨hH,J,J,J,J,J,J,J,J,J⟩ hB⟩)
   |refine .ite (fun _=>?_) (fun _=>?_)
 ·have hH:H↔0<=c/\c<=a:=by
   grind
  simp only [afm,zz,hM,af b0]
  repeat' first
   |exact .out (uF fun h=>by first |omega|(have:=hH.1 h.1; omega))
   |exact .jump (let ⟨ys,hL,hB⟩:=ih; ⟨ys,hL,E5 ⟨hH.2 ⟨J,J⟩,J,J,J,J,J,J,J,J,J⟩ hB⟩)
   |refine .ite (fun _=>?_) (fun _=>?_)
theorem LN (h:bK j xs (Ey P)):L j xs=some [1]↔P:=by
 obtain⟨ys,hL,b,rfl,hb⟩:=h
 grind
theorem af9 (h:bK j xs (Ey P)):L j xs=some [0]↔¬P:=by
 obtain⟨ys,hL,b,rfl,hb⟩:=h
 grind
theorem Si {d x:D} {m:Nat} {o c dn g:Int} {r v:D} (T:Tg x o c dn g r v) (Y:r.l.length<=140737488351232):Snd d x m↔Nf (d.V 0).n (d.V 2).n (m:Int) o c dn g r v:=by
 have h:=LN (Y' (d.V 0).n (enc (d.V 1)) (d.V 2).n (enc (d.V 3)) (d.V 4).n (m:Int) o c dn g r v Y)
 have e:(if dn=0 then (0:Int) else 1)=dn:=by rcases T.V with rfl|rfl<;>rfl
 unfold Snd afu;rw [T.is];simp only [zg,ax,zw,e];exact h
end
section
variable {l:List D} {t:Int}
def ag4 (k N m:Int):Act->Prop
 | .res o c dn g r v _ _ _=>Nf k N m o c dn g r v
 |_=>True
theorem ag4.ite {k N m:Int} {p:Prop} [Decidable p] {a b:Act} (ha:p->ag4 k N m a) (hb: ¬p->ag4 k N m b):ag4 k N m (if p then a else b):=by
 grind
section
variable {d0 x:D} {k N m mo th op arg tries o c dn g:Int} {r v:D}
end
end
structure awM (d0 d1 s k:D) (t:Int) (n:Nat) (s' k':D) (e1 e2 e3 e4 e5 oc:Int):Prop where
 eq:L 1850 [enc d0,enc d1,enc s,enc k,t]=some [enc s',enc k',e1,e2,e3,e4,e5,oc]
 sx:Sx s' k' (n+1)
 ls:s'.l.length=s.l.length
 lk:k'.l.length=k.l.length
section
variable {d0 d1 s k:D} {n:Nat} (S:Sx s k n) (hn:n<17592186043904) (h0:Wd (.sl 3) d0) (U:Wd (.sl 4) d1)
include S hn h0 U
theorem SX {t:Int} {x:KT} (R:Rs d0 d1 s k t x) (ho:fh d1 t x=0) (ha:low (fS d1 t x) 4=0):Sx s (gZ k t (jk (fk d1 t x) x)) n:=by
 have hp:0<k.l.length:=by have:=R.r.t0; have:=R.ht; omega
 exact⟨S.g,EM S.wk ((OI R.c R.ht R.r (CT R.r ho ha)).1.kt R.c) hp,S.n2s,Vx hp _ _⟩
end
def Jm (x n:Int):Int:=if x.tmod n<0 then x.tmod n+n else x.tmod n
theorem NS {x n:Int} (h:0<n): -n<x.tmod n/\x.tmod n<n:=by have U:=axI x h;have Z:=axI (-x) h;rw [Int.neg_tmod] at Z;omega
theorem Yp {x n:Int} (h:0<n) (hb:n<=140737488351232):(IntKind.i64.wrap (x.tmod n+n)).tmod n=Jm x n:=by
 have U:=NS (x:=x) h;rw [fg J J];unfold Jm;split
 ·exact Int.tmod_eq_of_lt J J
 ·rw [Int.tmod_eq_emod_of_nonneg J,Int.add_emod_right];exact Int.emod_eq_of_lt J J
section
variable {o c dn g th i M mo:Int} {r v s' k':D} {p:Prop} {a b:Act}
inductive aeI (d0 d1 s:D) (t op obj arg tries:Int):D->Int->Int->Int->Int->Int->Int->Prop
 |no:aeI d0 d1 s t op obj arg tries s 0 0 0 0 0 0
 |wM (A:Acc d0 d1 s t op obj):aeI d0 d1 s t op obj arg tries s t 27 obj (IntKind.i64.wrap op) 0 2
 |res (A:Acc d0 d1 s t op obj) (o c dn g:Int) (r v:D) (o' c' EE g':Int) (r' v':D) (m:Option Int) (a oc:Int) (T:Tg (s.at obj) o c dn g r v)
  (h:act (Mx d0 obj) (Mo d0 s obj) t op arg tries o c dn g r v= .res o' c' EE g' r' v' m a oc):aeI d0 d1 s t op obj arg tries (F7 s obj (Mx d0 obj) (.res o' c' EE g' r' v' m a oc)) t op obj a 0 oc
section
variable {d0 d1 s s':D} {t op obj arg tries e1 e2 e3 e4 e5 oc:Int} {n:Nat}
theorem RD (h0:Wd (.sl 3) d0) (U:Wd (.sl 4) d1) (G:Gs s n) (hn:n<17592186043904) (pb:fD .u8 op) (A:B2 d0 d1 s t op obj arg tries n s' e1 e2 e3 e4 e5 oc):aeI d0 d1 s t op obj arg tries s' e1 e2 e3 e4 e5 oc:=by
 have hf:=G.lD (by omega:n<17592186044415);have hA:=A.eq;by_cases h:Acc d0 d1 s t op obj
 ·obtain⟨_,o,c,dn,g,r,v,T,hL⟩:=Aq (arg:=arg) (tries:=tries) h0 U G.wd hf pb h;rw [AK] at hL;rw [hA] at hL
  cases hB:act (Mx d0 obj) (Mo d0 s obj) t op arg tries o c dn g r v with
  |n7=> rw [hB] at hL;simp only [evA,ah,List.cons.injEq,and_true] at hL;exact ahS
  |wM=> rw [hB] at hL;simp only [evA,ah,List.cons.injEq,and_true] at hL;obtain⟨q,rfl,rfl,rfl,rfl,rfl,rfl⟩:=hL;have q:=ff q;subst q;exact .wM h
  |res o' c' EE g' r' v' m a oc'=> rw [hB] at hL;simp only [evA,ah,List.cons.injEq,and_true] at hL;obtain⟨q,rfl,rfl,rfl,rfl,rfl,rfl⟩:=hL;have q:=ff q;subst q;exact .res h o c dn g r v o' c' EE g' r' v' m _ _ T hB
 ·have hL:=Fw (arg:=arg) (tries:=tries) h0 U G.wd hf pb h;rw [hA] at hL;simp only [ah,List.cons.injEq,and_true] at hL;exact ahS
end
section
variable {d0 d1 s:D} {n:Nat} (h0:Wd (.sl 3) d0) (U:Wd (.sl 4) d1) (G:Gs s n) (hn:n<17592186044000)
include h0 U G hn
theorem qz (R:L 350 [enc d0,enc d1,enc s]=some [1]):L 450 [enc d0,enc d1]=some [0]/\zq d0 d1/\s.l.length=d0.l.length:=by obtain⟨b,hb,_,hi⟩:=kP h0 U (G.lD J).rows;rw [R] at hb;simp only [ah,List.cons.injEq,and_true] at hb;obtain⟨hC,hle,_⟩:=hi.1 hb.symm;exact⟨hC,FV h0 U (G.lD J) R⟩
theorem FP (R:L 350 [enc d0,enc d1,enc s]=some [1]) (i0:0<=i) (i1:i<(s.l.length:Int)) (T:Tg (s.at i) o c dn g r v):Nf ((d0.at i).V 0).n ((d0.at i).V 2).n (d1.l.length:Int) o c dn g r v:=by
 obtain⟨b,hb,_,hi⟩:=kP h0 U (G.lD J).rows;rw [R] at hb;simp only [ah,List.cons.injEq,and_true] at hb;obtain⟨_,hle,hs⟩:=hi.1 hb.symm;obtain⟨k,rfl⟩ : ∃k:Nat,i=(k:Int):=⟨i.toNat,J⟩;have hk:k<s.l.length:=J
 have h:=hs k hk;rw [bF hk] at T;have ig:=G.rows _ (aq hk);rw [T.is] at ig;have Y:r.l.length<=140737488351232:=by have:=ig.1; have:r.l.length<=n:=this; omega
 rw [Si T Y] at h;rw [bF (by omega:k<d0.l.length)];exact h
theorem ar7 (hC:L 450 [enc d0,enc d1]=some [0]) (hle:s.l.length=d0.l.length) (h: ∀i:Nat,i<s.l.length->∃o c dn g r v,Tg (s.at (i:Int)) o c dn g r v/\Nf ((d0.at (i:Int)).V 0).n ((d0.at (i:Int)).V 2).n (d1.l.length:Int) o c dn g r v):L 350 [enc d0,enc d1,enc s]=some [1]:=by
 obtain⟨b,hb,_,hi⟩:=kP h0 U (G.lD J).rows;rw [hb,hi.2 ⟨hC,hle,fun k hk=>?_⟩];obtain⟨o,c,dn,g,r,v,T,P⟩:=h k hk;rw [bF hk] at T;rw [bF (by omega:k<d0.l.length)] at P;have ig:=G.rows _ (aq hk);rw [T.is] at ig;have Y:r.l.length<=140737488351232:=by have:=ig.1; have:r.l.length<=n:=this; omega
 exact (Si T Y).2 P
end
theorem vz {s:D} {n:Nat} (G:Gs s n) (i0:0<=i) (i1:i<(s.l.length:Int)): ∃o c dn g r v,Tg (s.at i) o c dn g r v/\r.l.length<=n/\v.l.length<=n:=by
 obtain⟨k,rfl⟩ : ∃k:Nat,i=(k:Int):=⟨i.toNat,J⟩;have hk:k<s.l.length:=J
 obtain⟨o,c,dn,g,r,v,T⟩:=tu (G.wd.j7 _ (aq hk));have ig:=G.rows _ (aq hk);rw [T.is] at ig;exact⟨o,c,dn,g,r,v,by rw [bF hk]; exact T,ig.1,ig.2⟩
def ag5 (th:Int):Act->Prop
 | .res _ _ _ _ _ _ m _ _=> ∀q,m=some q->q= -1\/q=th
 |_=>True
theorem ag5.ite [Decidable p] (ha:ag5 th a) (hb:ag5 th b):ag5 th (if p then a else b):=by
 grind
theorem zX {s:D} {i:Nat} {x:D} (h:s.l[i]?=some x):s.at (i:Int)=x:=by rw [eE,h]; rfl
section
variable {d0 d1 s:D} {t op obj arg tries:Int} {n:Nat} (h0:Wd (.sl 3) d0) (U:Wd (.sl 4) d1) (G:Gs s n) (hn:n<17592186043904) (pb:fD .u8 op) (ht:fD .i64 t) (ha:fD .i64 arg)
include h0 U G hn pb ht ha
end
def ag3 (op:Int):Act->Prop
 | .res _ _ _ _ _ _ _ _ oc=>oc=2\/oc=3/\(op=12\/op=15)
 |_=>True
theorem ag3.ite {op:Int} [Decidable p] (ha:p->ag3 op a) (hb: ¬p->ag3 op b):ag3 op (if p then a else b):=by
 grind
section
variable {d0 d1 s s' k:D} {t op obj arg tries e1 e2 e3 e4 e5 oc:Int} {n:Nat} {x:KT}
end
inductive El (d0 d1 s k:D) (t:Int) (n:Nat):D->D->Int->Int->Int->Int->Int->Int->Prop
 |no (h:L 1550 [enc d0,enc d1,enc s,enc k,t]=some [0]):El d0 d1 s k t n s k 0 0 0 0 0 0
 |over (x:KT) (R:Rs d0 d1 s k t x) (ho:fh d1 t x=1):El d0 d1 s k t n s k 0 0 0 0 0 4
 |loc (x:KT) (R:Rs d0 d1 s k t x) (ho:fh d1 t x=0) (ha:low (fS d1 t x) 4=0):El d0 d1 s k t n s (gZ k t (jk (fk d1 t x) x)) 0 0 0 0 0 1
 |tri (x:KT) (R:Rs d0 d1 s k t x) (ho:fh d1 t x=0) (op obj arg tr:Int) (hq:fS d1 t x= [op,obj,arg,tr,1]) (k1:fD .u8 op) (k2:fD .i64 obj) (k3:fD .i64 arg) (hU:fD .i64 t) (s':D) (e1 e2 e3 e4 e5 oc:Int)
  (A:B2 d0 d1 s t op obj arg tr n s' e1 e2 e3 e4 e5 oc) (T:aeI d0 d1 s t op obj arg tr s' e1 e2 e3 e4 e5 oc):El d0 d1 s k t n s' (gZ k t (eI (fk d1 t x) x op e2 e3 e4 oc)) e1 e2 e3 e4 e5 oc
section
variable {d0 d1 s k:D} {n:Nat} (S:Sx s k n) (hn:n<17592186043904) (h0:Wd (.sl 3) d0) (U:Wd (.sl 4) d1)
include S hn h0 U
theorem N2 {t:Int} {e1 e2 e3 e4 e5 oc:Int} (H:El d0 d1 s k t n s' k' e1 e2 e3 e4 e5 oc):Sx s' k' (n+1)/\s'.l.length=s.l.length/\k'.l.length=k.l.length:=by
 cases H with
 |no h=>exact⟨S.mono (aw8 n),rfl,rfl⟩
 |over x R ho=>exact⟨S.mono (aw8 n),rfl,rfl⟩
 |loc x R ho ha=>exact⟨(SX S hn h0 U R ho ha).mono (aw8 n),rfl,wz _ _ _⟩
 |tri x R ho op obj arg tr hq k1 k2 k3 hU s' e1 e2 e3 e4 e5 oc A T=>exact⟨RE S R.c R.r R.ht (P7 R.r ho) A,A.len,wz _ _ _⟩
end
end
section
variable {o c dn g:Int} {r v r' v' x y s s' d d':D}
structure ZX (x y:D):Prop where
 c0:(x.V 0).n=(y.V 0).n
 c1:(x.V 1).n=(y.V 1).n
 c2:(x.V 2).n=(y.V 2).n
 c3:(x.V 3).n=(y.V 3).n
 c4:(x.V 4).l=(y.V 4).l
 c5:(x.V 5).l=(y.V 5).l
theorem ZX.pX (x:D):ZX x x:=⟨rfl,rfl,rfl,rfl,rfl,rfl⟩
structure xx (s s':D):Prop where
 len:s'.l.length=s.l.length
 vP: ∀i:Nat,ZX (s.at (i:Int)) (s'.at (i:Int))
theorem xx.pX (s:D):xx s s:=⟨rfl,fun _=> .pX _⟩
theorem Ch (hr:r.l=r'.l) (hv:v.l=v'.l):ZX (dL [.i o,.i c,.i dn,.i g,r,v]) (dL [.i o,.i c,.i dn,.i g,r',v']):=⟨rfl,rfl,rfl,rfl,hr,hv⟩
theorem KQ {o' c' EE g':Int} (T:Tg x o c dn g r v) (T':Tg y o' c' EE g' r' v') (h:ZX x y):o'=o/\c'=c/\EE=dn/\g'=g/\r.l=r'.l/\v.l=v'.l:=by obtain⟨q0,q1,q2,q3,q4,q5⟩:=h;rw [T.is,T'.is] at q0 q1 q2 q3 q4 q5;exact⟨q0.symm,q1.symm,q2.symm,q3.symm,q4,q5⟩
theorem Li (h:xx s s') (z:Int) (hx:ZX x y):xx (dL (dg s.l z x)) (dL (dg s'.l z y)):=by
 refine⟨by rw [bz,bz,dM,dM]; exact h.len,fun i=>?_⟩;by_cases hz:(i:Int)=z
 ·subst hz;by_cases hi:i<s.l.length
  ·have e1:(dL (dg s.l (i:Int) x)).at (i:Int)=x:=zX (by rw [bz]; exact pI hi);have e2:(dL (dg s'.l (i:Int) y)).at (i:Int)=y:=zX (by rw [bz]; exact pI (by have:=h.len; omega))
   grind
  ·have e1:(dL (dg s.l (i:Int) x)).at (i:Int)= .i 0:=by rw [eE,bz,awZ (by rw [dM]; omega)]; rfl
   have e2:(dL (dg s'.l (i:Int) y)).at (i:Int)= .i 0:=by rw [eE,bz,awZ (by rw [dM]; have:=h.len; omega)]; rfl
   rw [e1,e2];exact .pX _
 ·have e1:(dL (dg s.l z x)).at (i:Int)=s.at (i:Int):=by rw [eE,eE,bz,lg hz]
  have e2:(dL (dg s'.l z y)).at (i:Int)=s'.at (i:Int):=by rw [eE,eE,bz,lg hz]
  rw [e1,e2];exact h.vP i
inductive ID:Act->Act->Prop
 |n7:ID .n7 .n7
 |wM:ID .wM .wM
 |res (o c dn g:Int) (r v r' v':D) (m:Option Int) (a oc:Int) (hr:r.l=r'.l) (hv:v.l=v'.l):ID (.res o c dn g r v m a oc) (.res o c dn g r' v' m a oc)
theorem ID.ite {p:Prop} [Decidable p] {a b a' b':Act} (U:ID a a') (Z:ID b b'):ID (if p then a else b) (if p then a' else b'):=by
 grind
theorem alF (h:d.l=d'.l) (z:Int):d.at z=d'.at z:=by unfold D.at; rw [h]
theorem Oj (h:d.l=d'.l) (t:Int):place d t=place d' t:=by unfold place; rw [h]
theorem apA {M mo th op arg tries:Int} (hr:r.l=r'.l) (hv:v.l=v'.l):ID (act M mo th op arg tries o c dn g r v) (act M mo th op arg tries o c dn g r' v'):=by
 unfold act;rw [Oj hr th,alF hr 0,alF hv 0,hr,hv]
 repeat' first
  |exact .n7
  |exact .wM
  |refine ID.ite ?_ ?_
 all_goals
  refine .res _ _ _ _ _ _ _ _ _ _ _ ?_ ?_<;>simp only [bP,hr,hv]
theorem afK (h:xx s s') (obj M:Int) {A B:Act} (hA:ID A B) (hT: ∀i:Nat,(s.at (i:Int)= .i 0/\s'.at (i:Int)= .i 0)\/∃o c dn g r v o' c' EE g' r' v',Tg (s.at (i:Int)) o c dn g r v/\Tg (s'.at (i:Int)) o' c' EE g' r' v'):xx (F7 s obj M A) (F7 s' obj M B):=by
 cases hA with
 |n7=>exact h
 |wM=>exact h
 |res o c dn g r v r' v' m a oc hr hv=>
  unfold F7
  cases m with
  |none=>exact Li h obj (Ch hr hv)
  |some q=>
   have key:xx (dL (dg s.l M (dL (dg (s.at M).l 0 (.i q))))) (dL (dg s'.l M (dL (dg (s'.at M).l 0 (.i q))))):=by
    by_cases hM:M<0
    ·have e: ∀(l:List D) (y:D),dg l M y=l:=fun l y=>by unfold dg; rw [ag hM]
     rw [e,e];refine⟨by rw [bz,bz]; exact h.len,fun i=>?_⟩;have q:=h.vP i;rw [eE,eE] at q;rw [eE,eE,bz,bz];exact q
    ·obtain⟨i,rfl⟩ : ∃i:Nat,M=(i:Int):=⟨M.toNat,J⟩;refine Li h (i:Int) ?_;rcases hT i with ⟨e1,e2⟩|⟨o,c,dn,g,r,v,o',c',EE,g',r',v',T,T'⟩
     ·rw [e1,e2];exact .pX _
     ·obtain⟨rfl,rfl,rfl,rfl,w1,w2⟩:=KQ T T' (h.vP i);rw [T.is,T'.is];exact Ch w1 w2
   have:=Li key obj (Ch (o:=o) (c:=c) (dn:=if dn=0 then 0 else 1) (g:=g) hr hv);rw [bz,bz] at this
   grind
end
theorem Sl {s s':D} {n:Nat} (h:xx s s') (G:Gs s n) (G':Gs s' n) (i:Nat):(s.at (i:Int)= .i 0/\s'.at (i:Int)= .i 0)\/∃o c dn g r v o' c' EE g' r' v',Tg (s.at (i:Int)) o c dn g r v/\Tg (s'.at (i:Int)) o' c' EE g' r' v':=by
 have Y:=h.len;by_cases hi:i<s.l.length
 ·obtain⟨o,c,dn,g,r,v,T,_⟩:=vz G (i:=(i:Int)) J J;obtain⟨o',c',EE,g',r',v',T',_⟩:=vz G' (i:=(i:Int)) J J
  grind
 ·exact .inl ⟨by rw [eE,awZ J]; rfl,by rw [eE,awZ J]; rfl⟩
section
variable {d0 d1 s s':D} {n:Nat} (h0:Wd (.sl 3) d0) (U:Wd (.sl 4) d1) (h:xx s s') (G:Gs s n) (G':Gs s' n) (hn:n<17592186043904)
include h0 U h G G' hn
theorem aaj (R:L 350 [enc d0,enc d1,enc s]=some [1]):L 350 [enc d0,enc d1,enc s']=some [1]:=by exact aqH
theorem anv {t op obj arg tr e1 e2 e3 e4 e5 oc f1 f2 f3 f4 f5 oc':Int} {a a':D} (pb:fD .u8 op) (R:L 350 [enc d0,enc d1,enc s]=some [1])
 (A:B2 d0 d1 s t op obj arg tr n a e1 e2 e3 e4 e5 oc) (A':B2 d0 d1 s' t op obj arg tr n a' f1 f2 f3 f4 f5 oc'):xx a a'/\f1=e1/\f2=e2/\f3=e3/\f4=e4/\f5=e5/\oc'=oc:=by
 have R':=aaj h0 U h G G' hn R;have Y:=h.len;have hA:=A.eq;have ZV:=A'.eq;have hf:=G.lD (by omega:n<17592186044415);have Nu:=G'.lD (by omega:n<17592186044415);by_cases C:Acc d0 d1 s t op obj
 ·have C':Acc d0 d1 s' t op obj:=⟨R',C.t0,C.t1,C.o0,by have:=C.o1; omega,C.k⟩;obtain⟨_,o,c,dn,g,r,v,T,hL⟩:=Aq (arg:=arg) (tries:=tr) h0 U G.wd hf pb C;obtain⟨_,o',c',EE,g',r',v',T',hL'⟩:=Aq (arg:=arg) (tries:=tr) h0 U G'.wd Nu pb C';have a0:=C.o0;obtain⟨i,rfl⟩ : ∃i:Nat,obj=(i:Int):=⟨obj.toNat,J⟩;obtain⟨rfl,rfl,rfl,rfl,q4,q5⟩:=KQ T T' (h.vP i)
  have hMo:Mo d0 s' (i:Int)=Mo d0 s (i:Int):=by
   unfold Mo;by_cases hM:0<=((d0.at (i:Int)).V 2).n
   ·obtain⟨m,hm⟩ : ∃m:Nat,((d0.at (i:Int)).V 2).n=(m:Int):=⟨_,(Int.toNat_of_nonneg hM).symm⟩;rw [hm];exact (h.vP m).c0.symm
   ·have e: ∀(z:Int) (s:D),¬0<=z->s.at z=s.at ((0:Nat):Int):=fun z s hz=>by
     unfold D.at
     grind
    rw [e _ _ hM,e _ _ hM];exact (h.vP 0).c0.symm
  rw [hMo] at hL';have hE:=apA (M:=Mx d0 (i:Int)) (mo:=Mo d0 s (i:Int)) (th:=t) (op:=op) (arg:=arg) (tries:=tr) (o:=o') (c:=c') (dn:=EE) (g:=g') q4 q5;have hP:=afK h (i:Int) (Mx d0 (i:Int)) hE (Sl h G G');rw [AK,hA] at hL;rw [AK,ZV] at hL';obtain⟨X,hX⟩ : ∃X,act (Mx d0 (i:Int)) (Mo d0 s (i:Int)) t op arg tr o' c' EE g' r v=X:=⟨_,rfl⟩;obtain⟨Z',hY⟩ : ∃Z',act (Mx d0 (i:Int)) (Mo d0 s (i:Int)) t op arg tr o' c' EE g' r' v'=Z':=⟨_,rfl⟩;rw [hX] at hL hE hP;rw [hY] at hL' hE hP
  cases hE with
  |n7=> exact ama
  |wM=> exact ama
  |res o c dn g r v r' v' m a oc hr hv=> exact ama
 ·have C': ¬Acc d0 d1 s' t op obj:=fun C'=>C ⟨R,C'.t0,C'.t1,C'.o0,by have:=C'.o1; omega,C'.k⟩;have hL:=Fw (arg:=arg) (tries:=tr) h0 U G.wd hf pb C;have hL':=Fw (arg:=arg) (tries:=tr) h0 U G'.wd Nu pb C';rw [hA] at hL;rw [ZV] at hL';simp only [ah,List.cons.injEq,and_true] at hL hL';obtain⟨p,rfl,rfl,rfl,rfl,rfl,rfl⟩:=hL;obtain⟨p',rfl,rfl,rfl,rfl,rfl,rfl⟩:=hL';rw [ff p,ff p']
  grind
end
end Go.As.Try
end
section

end
section
namespace Go.As.Try
open Go hiding Stat Spec shape
open Go.As
set_option maxRecDepth 100000
theorem Aw: ∀{d x:D},x∈d.l->SizeOf.sizeOf x<SizeOf.sizeOf d
 | .i _,x,h=>by simp [D.l] at h
 | .p a b,x,h=>by
   simp only [D.l,aF] at h;rcases h with rfl|h
   ·grind
   ·have:=Aw (d:=b) h
    grind
def sPl:D:=.p (.i 43) (.i 0)
def sMi:D:=.p (.i 45) (.i 0)
def sTi:D:=.p (.i 42) (.i 0)
def sEq:D:=.p (.i 61) (.p (.i 61) (.i 0))
def sLs:D:=.p (.i 60) (.i 0)
def ae4 (s:D) (a b:Int):Int:=
 if s=sPl then IntKind.i64.wrap (a+b) else if s=sMi then IntKind.i64.wrap (a-b) else if s=sTi then IntKind.i64.wrap (a*b) else if s=sEq then (if a=b then 1 else 0) else if s=sLs then (if a<b then 1 else 0) else 0
def NP (k n:Int) (s kids loc:D) (a b:Int):Int:=
 if k=1 then n else if k=2 then (if n<0 then 0 else if n<(loc.l.length:Int) then (loc.at n).n else 0) else if k=3 then (if (kids.l.length:Int)=1 then (if s=sMi then IntKind.i64.wrap (0-a) else 0) else if (kids.l.length:Int)=2 then ae4 s a b else 0) else 0
theorem Hv {ρ:Nat->Int} (a b:W):(W.mul a b).den ρ=a.den ρ*b.den ρ:=rfl
set_option maxHeartbeats 4000000 in
theorem C9: ∀(N:Nat) (kids:D),SizeOf.sizeOf kids<=N->Wd (.sl 6) kids->∀(k n:Int) (s loc:D),∃z:Int,L 1950 [k,enc s,n,enc kids,enc loc]=some [z]/\L 22500 [k,enc s,n,enc kids,enc loc]=some [z]
 |0,kids,hN,_,_,_,_,_=>by exfalso;cases kids<;>simp at hN
 |N+1,kids,hN,hk,k,n,s,loc=>by
  have sub: ∀i:Nat,∃v:Int,(i<kids.l.length->L 1950 [((kids.at (i:Int)).V 0).n,enc ((kids.at (i:Int)).V 1),((kids.at (i:Int)).V 2).n,enc ((kids.at (i:Int)).V 3),enc loc]=some [v]/\L 22500 [((kids.at (i:Int)).V 0).n,enc ((kids.at (i:Int)).V 1),((kids.at (i:Int)).V 2).n,enc ((kids.at (i:Int)).V 3),enc loc]=some [v]):=by
   intro i;by_cases cY:i<kids.l.length
   ·obtain⟨k',s',n',AX,he,_,_,E8,Z⟩:=qG hk cY
    have jl:SizeOf.sizeOf AX<SizeOf.sizeOf kids.l[i]:=by rw [he];exact Aw (by rw [bz]; simp)
    have asX:=Aw (aq cY);obtain⟨v,hL,hR⟩:=C9 N AX J Z k' n' s' loc;refine⟨v,fun _=>?_⟩;rw [bF cY,he];simp only [zg,ax];exact⟨hL,hR⟩
   ·exact⟨0,fun h=>absurd h cY⟩
  obtain⟨a,h0⟩:=sub 0;obtain⟨b,U⟩:=sub 1;have nn: ∀{x y:D},¬x=y->¬y=x:=fun h h'=>h h'.symm
  have key:bK 1950 [k,enc s,n,enc kids,enc loc] (·= [NP k n s kids loc a b])/\bK 22500 [k,enc s,n,enc kids,enc loc] (·= [NP k n s kids loc a b]):=by
   by_cases l1:(kids.l.length:Int)=1
   ·obtain⟨h0,h0'⟩:=h0 J;simp only [bj] at h0 h0';constructor
    ·refine bK.of ?_;rw [Ec];simp only [yG,zz,l1,h0,nR];exact aiw
    ·refine bK.of ?_;rw [MB];simp only [KV,zz,l1,h0',nR,Int.reduceLT];exact aiw
   ·by_cases l2:(kids.l.length:Int)=2
    ·obtain⟨h0,h0'⟩:=h0 J;obtain⟨U,Iw⟩:=U J;simp only [bj,bo] at h0 h0' U Iw;constructor
     ·refine bK.of ?_;rw [Ec];simp only [yG,zz,l1,l2,h0,U,Hv,nR,bz,CR,pQ,kU]
      repeat' first |(refine .out (congrArg (fun x=>[x]) ?_); unfold NP ae4 sPl sMi sTi sEq sLs; grind)|refine .ite (fun _=>?_) (fun _=>?_)
      refine .out (congrArg (fun x=>[x]) ?_);unfold NP ae4 sPl sMi sTi sEq sLs;by_cases q1:D.p (.i 42) (.i 0)=s
      ·subst q1;simp [D.n]
       grind
      ·by_cases q2:D.p (.i 45) (.i 0)=s
       ·subst q2;simp [D.n]
        grind
       ·by_cases q3:D.p (.i 43) (.i 0)=s
        ·subst q3;simp [D.n]
         grind
        grind
     ·refine bK.of ?_;rw [MB];simp only [KV,zz,l1,l2,h0',Iw,Hv,nR,Int.reduceLT]
      repeat' first |(refine .out (congrArg (fun x=>[x]) ?_); unfold NP ae4 sPl sMi sTi sEq sLs; grind)|refine .ite (fun _=>?_) (fun _=>?_)
    ·constructor
     ·refine bK.of ?_;rw [Ec];simp only [yG,zz,l1,l2]
      repeat' first |(refine .out (congrArg (fun x=>[x]) ?_); unfold NP; grind)|refine .ite (fun _=>?_) (fun _=>?_)
     ·refine bK.of ?_;rw [MB];simp only [KV,zz,l1,l2]
      repeat' first |(refine .out (congrArg (fun x=>[x]) ?_); unfold NP; grind)|refine .ite (fun _=>?_) (fun _=>?_)|(exfalso; omega)
  obtain⟨⟨ys,hA,rfl⟩,ys',hB,rfl⟩:=key
  grind
section
variable {m:Int} {l:List D}
theorem Wt (r:D) (t:Int) (Y:r.l.length<=140737488351232): ∀(j i:Nat),i+j=r.l.length->L 4401 [t,enc r,(i:Int)]=some [j3 t (r.l.drop i) i]
 |0,i,h=>by
  have c1: ¬(i:Int)<(r.l.length:Int):=J
  rw [bB,acK,aN J];simp only [I_,zz,c1,fin];rfl
 |j+1,i,h=>by
  have hi:i<r.l.length:=J
  have c1:(i:Int)<(r.l.length:Int):=J
  have c2: ¬((i:Int)<0):=J
  have w:=bx (n:=i) J;have ih:=Wt r t Y j (i+1) J;rw [bB,acK,aG hi];simp only [I_,zz,c1,c2,bF hi,w,j3];split
  ·rfl
  ·exact ih
theorem wR (r:D) (t:Int) (Y:r.l.length<=140737488351232):L 4400 [t,enc r]=some [place r t]:=by rw [bB,ak0];simp only [ajx,zz,fin];exact Wt r t Y r.l.length 0 J
def QK (k m o dn g:Int) (rl vl:Nat):Prop:=
 -1<=o/\o<m/\0<=g/\g<=4611686018427387904/\(0<=o->k=1\/k=2\/k=6)/\(0<(rl:Int)->k=4\/k=2)/\(0<(vl:Int)->k=8)/\(dn≠0->k=6)/\(0<g->k=5)
def QO (k N o c dn:Int) (rl vl:Nat):Prop:=
 (o<0\/(rl:Int)=0/\dn=0)/\(k=9\/(k=3/\0<=c/\c<=N)\/(k=5/\0<=c/\c<N)\/(k=7/\0<=c/\c<=1099511627776)\/(k=8/\c=0/\(vl:Int)<=N)\/(k≠3/\k≠5/\k≠7/\k≠8/\k≠9/\c=0))
theorem Lb {k N o c dn g:Int} {r v:D} (hk:(k=3\/k=8->1<=N/\N<=1048576)/\(k=5->1<=N/\N<=16)/\(k=1\/k=2\/k=6\/k=7->N=0)/\(k=4->0<=N)):Nf k N m o c dn g r v↔QK k m o dn g r.l.length v.l.length/\nV m r.l/\QO k N o c dn r.l.length v.l.length:=by
 unfold Nf aeL QK QO QP xA;generalize nV m r.l=R;have w:1<=N->N<=16->IntKind.i64.wrap (N-1)=N-1:=fun U Z=>fg J J;constructor
 all_goals grind
theorem N7 {x:D}:nV m (l++ [x])↔nV m l/\0<=x.n/\x.n<m/\x.n∉l.map D.n:=by
 unfold nV
 grind
theorem Jk (r:D) (t:Int):place r t<0↔t∉r.l.map D.n:=by
 rcases kS r t with ⟨h,hn⟩|⟨k,hk,h,U,_⟩
 all_goals grind
theorem afE (i:Nat) (h:nV m l):nV m (l.take i):=
 ⟨fun x hx=>h.1 x (awT hx),by rw [axK]; exact h.2.sublist (List.take_sublist i _)⟩
theorem Jc (m:Int) (r:D) (Y:r.l.length<=140737488351232) (k x1 N x3 x4 o c dn g:Int) (v:D): ∀(j i:Nat),i+j=r.l.length->nV m (r.l.take i)->
 bK 4101 [m,k,(i:Int),x1,N,x3,x4,o,c,dn,g,enc r,enc v] (cx (nV m r.l/\QO k N o c dn r.l.length v.l.length))
 |0,i,hi,hR=>by
  have c1: ¬(i:Int)<(r.l.length:Int):=J
  rw [axm J] at hR;refine bK.iff (p:=QO k N o c dn r.l.length v.l.length) ?_ ⟨fun h=> ⟨hR,h⟩,fun h=>h.2⟩;refine bK.of ?_;unfold QO;rw [acO];simp only [J_,zz,c1]
  repeat' first
   |exact .out (dP J)
   |exact .out (eX J)
   |refine .ite (fun _=>?_) (fun _=>?_)
 |j+1,i,hi,hR=>by
  have cY:i<r.l.length:=J
  have c1:(i:Int)<(r.l.length:Int):=J
  have c2: ¬((i:Int)<0):=J
  have w:=bx (n:=i) J;have ht:r.l.take (i+1)=r.l.take i++ [r.l[i]]:=ayb cY;have hI:=wR (fu r (r.l.take i)) (r.l[i]).n (by rw [bP,aY]; omega);have hp:=Jk (fu r (r.l.take i)) (r.l[i]).n;rw [bP] at hp
  have no: ¬(0<=(r.l[i]).n/\(r.l[i]).n<m/\(r.l[i]).n∉(r.l.take i).map D.n)->¬(nV m r.l/\QO k N o c dn r.l.length v.l.length):=fun h q=>by
   have:=afE (i+1) q.1;rw [ht,N7] at this
   grind
  refine bK.of ?_;rw [acO];simp only [J_,zz,c1,c2,bF cY,aW,hI,w];refine .ite (fun h=> .out (dP (no fun q=>by omega))) fun U=> .ite (fun Z=> .ite (fun h3=> .jump (Jc m r Y k x1 N x3 x4 o c dn g v j (i+1) J ?_)) fun h3=> .out (dP (no fun q=>h3 (hp.2 q.2.2)))) fun Z=> .out (dP (no fun q=>Z q.2.1));rw [ht,N7]
  grind
theorem anO (k x1 N x3 x4 m o c dn g:Int) (r v:D) (Y:r.l.length<=140737488351232):bK 4100 [k,x1,N,x3,x4,o,c,dn,g,enc r,enc v,m] (cx (QK k m o dn g r.l.length v.l.length/\nV m r.l/\QO k N o c dn r.l.length v.l.length)):=by
 have ih:=Jc m r Y k x1 N x3 x4 o c dn g v r.l.length 0 J ⟨ad,ad⟩;generalize (nV m r.l/\QO k N o c dn r.l.length v.l.length)=Q at *;refine bK.of ?_;rw [ak4];by_cases h4:k=4
 ·subst h4;exact amd
 by_cases U:k=1
 ·subst U;exact amd
 by_cases Z:k=2
 ·subst Z;exact amd
 simp only [J',zz,h4,U,Z]
 repeat' first
  |exact .out (dP fun h=>by have:=h.1; unfold QK at this; omega)
  |exact .jump (ih.iff ⟨fun q=> ⟨by unfold QK; omega,q⟩,fun q=>q.2⟩)
  |refine .ite (fun _=>?_) (fun _=>?_)
end
theorem uA {d0 x:D} (h:AM d0 x):((x.V 0).n=3\/(x.V 0).n=8->1<=(x.V 2).n/\(x.V 2).n<=1048576)/\((x.V 0).n=5->1<=(x.V 2).n/\(x.V 2).n<=16)/\((x.V 0).n=1\/(x.V 0).n=2\/(x.V 0).n=6\/(x.V 0).n=7->(x.V 2).n=0)/\((x.V 0).n=4->0<=(x.V 2).n):=by unfold AM OkO at h;omega
section
variable {d0 d1 s:D} {n:Nat} (h0:Wd (.sl 3) d0) (U:Wd (.sl 4) d1) (G:Gs s n) (hn:n<17592186044000)
include h0 U G hn
theorem DE (hC:Iz d0 d1) (hle:s.l.length=d0.l.length): ∀(j i:Nat),i+j=s.l.length->bK 3901 [enc s,(i:Int),enc d0,enc d1] (cx (∀(k:Nat) (hk:k<s.l.length),i<=k->Snd (d0.l[k]'(hle▸hk)) s.l[k] d1.l.length))
 |0,i,hi=>by
  have c1: ¬(i:Int)<(s.l.length:Int):=J
  refine bK.of ?_;rw [acU];simp only [Vm,zz,c1];exact .out (eX fun k hk h=>by omega)
 |j+1,i,hi=>by
  have hsl:=G.wd.len;have cY:i<s.l.length:=J
  have hid:i<d0.l.length:=J
  have c1:(i:Int)<(s.l.length:Int):=J
  have c2: ¬((i:Int)<0):=J
  have c3:(i:Int)<(d0.l.length:Int):=J
  have w:=bx (n:=i) J;obtain⟨o,c,dn,g,r,v,T⟩:=tu (G.wd.j7 _ (aq cY));have ig:=(G.rows _ (aq cY)).1;have e4:(s.l[i]).V 4=r:=by rw [T.is,dN]; rfl
  rw [e4] at ig;have hS:=Si (d:=d0.l[i]) (m:=d1.l.length) T J;rw [Lb (uA (hC.2.2.1 _ (aq hid)))] at hS;have hR:=anO ((d0.l[i]).V 0).n (enc ((d0.l[i]).V 1)) ((d0.l[i]).V 2).n (enc ((d0.l[i]).V 3)) ((d0.l[i]).V 4).n (d1.l.length:Int) o c dn g r v J;rw [<- hS] at hR;obtain⟨ys,hR,b,rfl,hb,Iu⟩:=hR;have ih:=DE hC hle j (i+1) J
  have awK: ∀R:RS,R=(if b=0 then RS.out [0] else RS.jump 3901 [enc s,((i+1:Nat):Int),enc d0,enc d1])->Ends (cx (∀(k:Nat) (hk:k<s.l.length),i<=k->Snd (d0.l[k]'(hle▸hk)) s.l[k] d1.l.length)) R:=fun R hRR=>by
   rw [hRR];refine .ite (fun mT=> .out (dP fun h=>?_)) fun mT=> .jump (ih.iff ⟨fun h k hk hik=>?_,fun h k hk hik=>h k hk J⟩)
   all_goals grind
  refine bK.of ?_;rw [acU];rcases T.V with rfl|rfl
  ·simp only [Vm,zz,c1,c2,c3,bF cY,bF hid,T.is,zg,hR,w]
   grind
  ·simp only [Vm,zz,c1,c2,c3,bF cY,bF hid,T.is,zg,hR,w,Int.reduceEq]
   grind
theorem uz: ∃b:Int,(b=0\/b=1)/\L 350 [enc d0,enc d1,enc s]=some [b]/\L 3900 [enc d0,enc d1,enc s]=some [b]/\(b=1->Iz d0 d1):=by
 obtain⟨b,hA,hb,Iu⟩:=kP h0 U (G.lD J).rows;obtain⟨c,hc,O8,hp,hr⟩:=zS h0 U;refine⟨b,hb,hA,?_,fun h=>?_⟩
 ·have key:bK 3900 [enc d0,enc d1,enc s] (·= [b]):=by
   refine bK.of ?_;rw [ak8];simp only [ajD,zz,hr];refine .ite (fun LU=> .ite (fun c1=>?_) fun c1=> .out ?_) fun LU=> .out ?_
   ·have hC:=O8.1 LU;have hle:s.l.length=d0.l.length:=J
    obtain⟨ys,hL,e,rfl,he,Ts⟩:=DE h0 U G hn hC hle s.l.length 0 J
    have hbe:b=1↔e=1:=by
     grind
    exact .jump ⟨_,hL,by rw [show e=b by omega]⟩
   all_goals grind
  exact U3
 grind
end
theorem anz (x:D) (h:fD .i64 (x.V 2).n):iY (fe x):=by
 refine⟨-1,_,0,0,.i 1,.i 1,rfl,⟨J,J⟩,?_,.inl rfl,⟨J,J⟩,.nil 0,.nil 0⟩;split
 ·exact h
 ·exact⟨J,J⟩
section
variable {d0 d1:D} (h0:Wd (.sl 3) d0) (U:Wd (.sl 4) d1)
theorem DL (d0:D) (x3:Int) (hlen:d0.l.length<=64): ∀(k i:Nat) (acc:List D),i+k=d0.l.length->acc.length=i->
 bK 3852 [enc (dL acc),(i:Int),enc d0,x3] (·= [enc (dL (acc++(d0.l.drop i).map fe))])
 |0,i,acc,U,Z=>by
  have c1: ¬(i:Int)<(d0.l.length:Int):=J
  refine bK.of ?_;rw [acV,aN J];simp only [L_,zz,c1];exact Ii
 |k+1,i,acc,U,Z=>by
  have hi:i<d0.l.length:=J
  have V:d0.l.drop i=d0.l[i]::d0.l.drop (i+1):=aG hi;have ih:=DL d0 x3 hlen k (i+1) (acc++ [fe d0.l[i]]) J (by simp [Z]);have w:=bx (n:=i) J;have c1:(i:Int)<(d0.l.length:Int):=J
  have c2: ¬((i:Int)<0):=J
  have c3:(acc.length:Int)<1759218604440:=J
  rw [bk,bn] at ih;refine bK.of ?_;rw [acV,V,aC];simp only [L_,zz,c1,c2,c3,w,bF hi,bz];refine .ite (fun h3=> .jump ?_) fun h3=> .ite (fun h9=> .jump ?_) fun h9=> .jump ?_
  ·have e:fe d0.l[i]=dL [.i (-1),.i (d0.l[i].V 2).n,.i 0,.i 0,.i 1,.i 1]:=by unfold fe; rw [ag (.inl h3)]
   rw [e] at ih ⊢;exact ih
  ·have e:fe d0.l[i]=dL [.i (-1),.i (d0.l[i].V 2).n,.i 0,.i 0,.i 1,.i 1]:=by unfold fe; rw [ag (.inr h9)]
   rw [e] at ih ⊢;exact ih
  ·have e:fe d0.l[i]=dL [.i (-1),.i 0,.i 0,.i 0,.i 1,.i 1]:=by unfold fe; rw [af J]
   rw [e] at ih ⊢;exact ih
include h0 U
theorem UG: ∃b:D,L 300 [enc d0,enc d1]=some [enc b]/\L 3850 [enc d0,enc d1]=some [enc b]/\Gs b 0:=by
 obtain⟨c,hc,O8,hp,hr⟩:=zS h0 U;have gn:Gs (.i 1) 0:=⟨.nil 7,fun x hx=>by simp [D.l] at hx⟩;by_cases LU:c=0
 ·subst LU;have hC:=O8.1 rfl;by_cases hz:d0.l.length=0
  ·have:bK 3850 [enc d0,enc d1] (·= [enc (.i 1)]):=by
    have c1: ¬(0:Int)<(d0.l.length:Int):=J
    refine bK.of ?_;rw [W3];simp only [Vn,zz,hr];refine .jump (bK.of ?_);rw [acW];simp only [L!,zz,c1];exact .out rfl
   obtain⟨ys,h,rfl⟩:=this;exact⟨.i 1,HR hp (.inr hz),h,gn⟩
  ·have hi:0<d0.l.length:=J
   have:bK 3850 [enc d0,enc d1] (·= [enc (dL (d0.l.map fe))]):=by
    have V:d0.l=d0.l[0]::d0.l.drop 1:=by exact NC
    have ih:=DL d0 (enc d1) hC.1 (d0.l.length-1) 1 [fe d0.l[0]] J rfl;rw [bn,<- aC,<- V] at ih;have c1:(0:Int)<(d0.l.length:Int):=J
    have fU:d0.at 0=d0.l[0]:=bF hi;refine bK.of ?_;rw [W3];simp only [Vn,zz,hr];refine .jump (bK.of ?_);rw [acW];simp only [L!,zz,c1,fU,pQ,aw];refine .ite (fun h3=> .jump ?_) fun h3=> .ite (fun h9=> .jump ?_) fun h9=> .jump ?_
    ·have e:fe d0.l[0]=dL [.i (-1),.i (d0.l[0].V 2).n,.i 0,.i 0,.i 1,.i 1]:=by unfold fe; rw [ag (.inl h3)]
     rw [e] at ih;exact ih
    ·have e:fe d0.l[0]=dL [.i (-1),.i (d0.l[0].V 2).n,.i 0,.i 0,.i 1,.i 1]:=by unfold fe; rw [ag (.inr h9)]
     rw [e] at ih;exact ih
    ·have e:fe d0.l[0]=dL [.i (-1),.i 0,.i 0,.i 0,.i 1,.i 1]:=by unfold fe; rw [af J]
     rw [e] at ih;exact ih
   obtain⟨ys,h,rfl⟩:=this;refine⟨_,P5 hp hC.1 hi,h,xI (fun x hx=>?_) (by simp; exact axk.1 hi) (by rw [a8]; have:=hC.1; omega),fun x hx=>?_⟩
   ·obtain⟨y,hy,rfl⟩:=aQ.1 hx;obtain⟨kd,sc,ln,s1,s2,he,_,YT,_⟩:=h0.decl y hy;rw [he];exact anz _ YT
   ·exact aqO
 ·have:bK 3850 [enc d0,enc d1] (·= [enc (.i 1)]):=by
   refine bK.of ?_;rw [W3];simp only [Vn,zz,hr,LU];exact .out rfl
  obtain⟨ys,h,rfl⟩:=this;exact⟨.i 1,HR hp (.inl LU),h,gn⟩
end
def mS (d:D):D:=if (d.l.length:Int)=0 then .i 2 else d
def jL (x:D):D:=dL [.i (x.V 0).n,.i (x.V 1).n,.i (if (x.V 2).n=0 then 0 else 1),.i (x.V 3).n,mS (x.V 4),mS (x.V 5)]
theorem vu (d:D):(mS d).l=d.l:=by
 unfold mS;split
 ·rename_i h;rw [aw4.1 (by omega:d.l.length=0)];rfl
 ·rfl
theorem aps {x:D} (h:iY x):ZX (jL x) x:=by obtain⟨o,c,d,g,r,v,rfl,_,_,V,_⟩:=h;unfold jL;simp only [dN];refine⟨rfl,rfl,?_,rfl,vu r,vu v⟩;rcases V with rfl|rfl<;>rfl
def Ad (x:D):Prop:=(x.V 4).l.length<17592186044415/\(x.V 5).l.length<17592186044415
theorem Ee (s:D) (hs:s.l.length<=1759218604390) (hc: ∀x∈s.l,Ad x): ∀(k i:Nat) (acc:List D),i+k=s.l.length->acc.length=i->
 bK 3952 [enc s,enc (dL acc),(i:Int)] (·= [enc (dL (acc++(s.l.drop i).map jL))])
 |0,i,acc,U,Z=>by
  have c1: ¬(i:Int)<(s.l.length:Int):=J
  refine bK.of ?_;rw [acT,aN J];simp only [K!,zz,c1];exact Ii
 |k+1,i,acc,U,Z=>by
  have hi:i<s.l.length:=J
  have V:s.l.drop i=s.l[i]::s.l.drop (i+1):=aG hi;have ih:=Ee s hs hc k (i+1) (acc++ [jL s.l[i]]) J (by simp [Z]);have w:=bx (n:=i) J;have c1:(i:Int)<(s.l.length:Int):=J
  have c2: ¬((i:Int)<0):=J
  have c3:(acc.length:Int)<1759218604440:=J
  obtain⟨q4,q5⟩:=hc _ (aq hi);rw [bk,bn] at ih;refine bK.of ?_;rw [acT,V,aC];have fU:=bF hi;generalize s.l[i]=x at *;have q4:((x.V 4).l.length:Int)<17592186044416:=J
  have q5:((x.V 5).l.length:Int)<17592186044416:=J
  by_cases r4:((x.V 4).l.length:Int)=0<;>by_cases r5:((x.V 5).l.length:Int)=0<;>
  ·have e:jL x=dL [.i (x.V 0).n,.i (x.V 1).n,.i (if (x.V 2).n=0 then 0 else 1),.i (x.V 3).n,mS (x.V 4),mS (x.V 5)]:=rfl;unfold mS at e;simp only [r4,r5,if_true,if_false] at e;rw [e] at ih
   try rw [e]
   simp only [K!,zz,c1,c2,c3,w,fU,bz,q4,q5,r4,r5];exact .jump ih
theorem zn (s:D) (hs:s.l.length<=1759218604390) (hc: ∀x∈s.l,Ad x):L 3950 [enc s]=some [enc (if s.l.length=0 then .i 1 else dL (s.l.map jL))]:=by
 have:bK 3950 [enc s] (·= [enc (if s.l.length=0 then .i 1 else dL (s.l.map jL))]):=by
  refine bK.of ?_;rw [ak7];simp only [ajC,zz];refine .jump (bK.of ?_);rw [ak6];by_cases hz:s.l.length=0
  ·have c1: ¬(0:Int)<(s.l.length:Int):=J
   simp only [K?,zz,c1];exact .out (by rw [ag hz])
  ·have hi:0<s.l.length:=J
   have c1:(0:Int)<(s.l.length:Int):=J
   have fU:s.at 0=s.l[0]:=bF hi
   have V:s.l=s.l[0]::s.l.drop 1:=by exact NC
   have ih:=Ee s hs hc (s.l.length-1) 1 [jL s.l[0]] J rfl;rw [bn,<- aC,<- V] at ih;obtain⟨q4,q5⟩:=hc _ (aq hi);rw [af hz];generalize s.l[0]=x at *;have q4:((x.V 4).l.length:Int)<17592186044416:=J
   have q5:((x.V 5).l.length:Int)<17592186044416:=J
   by_cases r4:((x.V 4).l.length:Int)=0<;>by_cases r5:((x.V 5).l.length:Int)=0<;>
   ·have e:jL x=dL [.i (x.V 0).n,.i (x.V 1).n,.i (if (x.V 2).n=0 then 0 else 1),.i (x.V 3).n,mS (x.V 4),mS (x.V 5)]:=rfl;unfold mS at e;simp only [r4,r5,if_true,if_false] at e;rw [e] at ih
    try rw [e]
    simp only [K?,zz,c1,fU,q4,q5,pQ,aw,r4,r5];exact .jump ih
 exact rX
theorem zR {s:D} (hs:s.l.length<=1759218604390) (ht: ∀x∈s.l,iY x) (hc: ∀x∈s.l,Ad x): ∃s':D,L 3950 [enc s]=some [enc s']/\xx s' s/\(s.l.length≠0->s'=dL (s.l.map jL)):=by
 refine⟨_,zn s hs hc,?_,fun h=>by rw [af h]⟩;split
 ·rename_i h;have h0:=aw4.1 h;exact⟨by rw [h0]; rfl,fun i=>by rw [eE,eE,h0]; exact .pX _⟩
 ·refine⟨by rw [bz,a8],fun i=>?_⟩;rw [eE,eE,bz,bg];exact aie
def ph:D:=dL [.i 0,.i 0,.i 0,.i 0,.i 1,.i 1]
def B1 (x:D):Int:=if ((x.V 4).l.length:Int)=0 then (if ((x.V 5).l.length:Int)=0 then 1 else 2) else (if ((x.V 5).l.length:Int)=0 then 3 else 4)
def DI (x:D):List Int:=[(x.V 0).n,(x.V 1).n,(x.V 2).n,(x.V 3).n]++(if ((x.V 4).l.length:Int)=0 then [] else [enc (x.V 4)])++(if ((x.V 5).l.length:Int)=0 then [] else [enc (x.V 5)])
theorem FB (s:D) (ob:Nat) (hs:s.l.length<=1759218604390) (hc: ∀x∈s.l,Ad x) (y4 y5 y6 y7:Int): ∀(k i:Nat) (acc:List D),i+k=s.l.length->acc.length=i->ob<i->
 bK 9102 [(ob:Int),enc s,enc (dL acc),(i:Int),y4,y5,y6,y7] (·= [1,(ob:Int),enc (dL (acc++(s.l.drop i).map jL)),y4,y5,y6,y7])
 |0,i,acc,U,Z,h3=>by
  have c1: ¬(i:Int)<(s.l.length:Int):=J
  have c0: ¬(i:Int)=(ob:Int):=J
  refine bK.of ?_;rw [acb,aN J];simp only [z_,zz,c1,c0];exact Ii
 |k+1,i,acc,U,Z,h3=>by
  have hi:i<s.l.length:=J
  have V:s.l.drop i=s.l[i]::s.l.drop (i+1):=aG hi;have ih:=FB s ob hs hc y4 y5 y6 y7 k (i+1) (acc++ [jL s.l[i]]) J (by simp [Z]) J;have w:=bx (n:=i) J;have c0: ¬(i:Int)=(ob:Int):=J
  have c1:(i:Int)<(s.l.length:Int):=J
  have c2: ¬((i:Int)<0):=J
  have c3:(acc.length:Int)<1759218604440:=J
  have c4:(ob:Int)<(acc.length:Int):=J
  obtain⟨q4,q5⟩:=hc _ (aq hi);rw [bk,bn] at ih;refine bK.of ?_;rw [acb,V,aC];have fU:=bF hi;generalize s.l[i]=x at *;have q4:((x.V 4).l.length:Int)<17592186044416:=J
  have q5:((x.V 5).l.length:Int)<17592186044416:=J
  by_cases r4:((x.V 4).l.length:Int)=0<;>by_cases r5:((x.V 5).l.length:Int)=0<;>
  ·have e:jL x=dL [.i (x.V 0).n,.i (x.V 1).n,.i (if (x.V 2).n=0 then 0 else 1),.i (x.V 3).n,mS (x.V 4),mS (x.V 5)]:=rfl;unfold mS at e;simp only [r4,r5,if_true,if_false] at e;rw [e] at ih
   try rw [e]
   simp only [z_,zz,c0,c1,c2,c3,c4,w,fU,bz,q4,q5,r4,r5];exact .jump ih
theorem FA (s:D) (ob:Nat) (hs:s.l.length<=1759218604390) (hc: ∀x∈s.l,Ad x) (y4 y5 y6 y7 y8:Int): ∀(k i:Nat) (acc:List D),i+k=s.l.length->acc.length=i->ob<i->
 bK 9103 [(ob:Int),enc s,enc (dL acc),(i:Int),y4,y5,y6,y7,y8] (·= [2,(ob:Int),enc (dL (acc++(s.l.drop i).map jL)),y4,y5,y6,y7,y8])
 |0,i,acc,U,Z,h3=>by
  have c1: ¬(i:Int)<(s.l.length:Int):=J
  have c0: ¬(i:Int)=(ob:Int):=J
  refine bK.of ?_;rw [aca,aN J];simp only [y?,zz,c1,c0];exact Ii
 |k+1,i,acc,U,Z,h3=>by
  have hi:i<s.l.length:=J
  have V:s.l.drop i=s.l[i]::s.l.drop (i+1):=aG hi;have ih:=FA s ob hs hc y4 y5 y6 y7 y8 k (i+1) (acc++ [jL s.l[i]]) J (by simp [Z]) J;have w:=bx (n:=i) J;have c0: ¬(i:Int)=(ob:Int):=J
  have c1:(i:Int)<(s.l.length:Int):=J
  have c2: ¬((i:Int)<0):=J
  have c3:(acc.length:Int)<1759218604440:=J
  have c4:(ob:Int)<(acc.length:Int):=J
  obtain⟨q4,q5⟩:=hc _ (aq hi);rw [bk,bn] at ih;refine bK.of ?_;rw [aca,V,aC];have fU:=bF hi;generalize s.l[i]=x at *;have q4:((x.V 4).l.length:Int)<17592186044416:=J
  have q5:((x.V 5).l.length:Int)<17592186044416:=J
  by_cases r4:((x.V 4).l.length:Int)=0<;>by_cases r5:((x.V 5).l.length:Int)=0<;>
  ·have e:jL x=dL [.i (x.V 0).n,.i (x.V 1).n,.i (if (x.V 2).n=0 then 0 else 1),.i (x.V 3).n,mS (x.V 4),mS (x.V 5)]:=rfl;unfold mS at e;simp only [r4,r5,if_true,if_false] at e;rw [e] at ih
   try rw [e]
   simp only [y?,zz,c0,c1,c2,c3,c4,w,fU,bz,q4,q5,r4,r5];exact .jump ih
theorem Fz (s:D) (ob:Nat) (hs:s.l.length<=1759218604390) (hc: ∀x∈s.l,Ad x) (y4 y5 y6 y7 y8:Int): ∀(k i:Nat) (acc:List D),i+k=s.l.length->acc.length=i->ob<i->
 bK 9104 [(ob:Int),enc s,enc (dL acc),(i:Int),y4,y5,y6,y7,y8] (·= [3,(ob:Int),enc (dL (acc++(s.l.drop i).map jL)),y4,y5,y6,y7,y8])
 |0,i,acc,U,Z,h3=>by
  have c1: ¬(i:Int)<(s.l.length:Int):=J
  have c0: ¬(i:Int)=(ob:Int):=J
  refine bK.of ?_;rw [ab9,aN J];simp only [y!,zz,c1,c0];exact Ii
 |k+1,i,acc,U,Z,h3=>by
  have hi:i<s.l.length:=J
  have V:s.l.drop i=s.l[i]::s.l.drop (i+1):=aG hi;have ih:=Fz s ob hs hc y4 y5 y6 y7 y8 k (i+1) (acc++ [jL s.l[i]]) J (by simp [Z]) J;have w:=bx (n:=i) J;have c0: ¬(i:Int)=(ob:Int):=J
  have c1:(i:Int)<(s.l.length:Int):=J
  have c2: ¬((i:Int)<0):=J
  have c3:(acc.length:Int)<1759218604440:=J
  have c4:(ob:Int)<(acc.length:Int):=J
  obtain⟨q4,q5⟩:=hc _ (aq hi);rw [bk,bn] at ih;refine bK.of ?_;rw [ab9,V,aC];have fU:=bF hi;generalize s.l[i]=x at *;have q4:((x.V 4).l.length:Int)<17592186044416:=J
  have q5:((x.V 5).l.length:Int)<17592186044416:=J
  by_cases r4:((x.V 4).l.length:Int)=0<;>by_cases r5:((x.V 5).l.length:Int)=0<;>
  ·have e:jL x=dL [.i (x.V 0).n,.i (x.V 1).n,.i (if (x.V 2).n=0 then 0 else 1),.i (x.V 3).n,mS (x.V 4),mS (x.V 5)]:=rfl;unfold mS at e;simp only [r4,r5,if_true,if_false] at e;rw [e] at ih
   try rw [e]
   simp only [y!,zz,c0,c1,c2,c3,c4,w,fU,bz,q4,q5,r4,r5];exact .jump ih
theorem Fy (s:D) (ob:Nat) (hs:s.l.length<=1759218604390) (hc: ∀x∈s.l,Ad x) (y4 y5 y6 y7 y8 y9:Int): ∀(k i:Nat) (acc:List D),i+k=s.l.length->acc.length=i->ob<i->
 bK 9105 [(ob:Int),enc s,enc (dL acc),(i:Int),y4,y5,y6,y7,y8,y9] (·= [4,(ob:Int),enc (dL (acc++(s.l.drop i).map jL)),y4,y5,y6,y7,y8,y9])
 |0,i,acc,U,Z,h3=>by
  have c1: ¬(i:Int)<(s.l.length:Int):=J
  have c0: ¬(i:Int)=(ob:Int):=J
  refine bK.of ?_;rw [ab8,aN J];simp only [y_,zz,c1,c0];exact Ii
 |k+1,i,acc,U,Z,h3=>by
  have hi:i<s.l.length:=J
  have V:s.l.drop i=s.l[i]::s.l.drop (i+1):=aG hi;have ih:=Fy s ob hs hc y4 y5 y6 y7 y8 y9 k (i+1) (acc++ [jL s.l[i]]) J (by simp [Z]) J;have w:=bx (n:=i) J;have c0: ¬(i:Int)=(ob:Int):=J
  have c1:(i:Int)<(s.l.length:Int):=J
  have c2: ¬((i:Int)<0):=J
  have c3:(acc.length:Int)<1759218604440:=J
  have c4:(ob:Int)<(acc.length:Int):=J
  obtain⟨q4,q5⟩:=hc _ (aq hi);rw [bk,bn] at ih;refine bK.of ?_;rw [ab8,V,aC];have fU:=bF hi;generalize s.l[i]=x at *;have q4:((x.V 4).l.length:Int)<17592186044416:=J
  have q5:((x.V 5).l.length:Int)<17592186044416:=J
  by_cases r4:((x.V 4).l.length:Int)=0<;>by_cases r5:((x.V 5).l.length:Int)=0<;>
  ·have e:jL x=dL [.i (x.V 0).n,.i (x.V 1).n,.i (if (x.V 2).n=0 then 0 else 1),.i (x.V 3).n,mS (x.V 4),mS (x.V 5)]:=rfl;unfold mS at e;simp only [r4,r5,if_true,if_false] at e;rw [e] at ih
   try rw [e]
   simp only [y_,zz,c0,c1,c2,c3,c4,w,fU,bz,q4,q5,r4,r5];exact .jump ih
theorem x_ (s:D) (ob:Nat) (vv:ob<s.l.length) (hs:s.l.length<=1759218604390) (hc: ∀x∈s.l,Ad x) (acc:List D) (ha:acc.length=ob) :
 bK 9106 [(ob:Int),enc s,enc (dL acc),(ob:Int)] (·= B1 s.l[ob]::(ob:Int)::enc (dL (acc++ph::(s.l.drop (ob+1)).map jL))::DI s.l[ob]):=by
 have w:=bx (n:=ob) J;have c1:(ob:Int)<(s.l.length:Int):=J
 have c2: ¬((ob:Int)<0):=J
 have c3:(acc.length:Int)<1759218604440:=J
 have c4:(acc.length:Int)=(ob:Int):=J
 have c5:(ob:Int)<1759218604440:=J
 obtain⟨q4,q5⟩:=hc _ (aq vv);have t2:=fun a b c d=>FB s ob hs hc a b c d (s.l.length-(ob+1)) (ob+1) (acc++ [ph]) J (by simp [ha]) J;have t3:=fun a b c d e=>FA s ob hs hc a b c d e (s.l.length-(ob+1)) (ob+1) (acc++ [ph]) J (by simp [ha]) J;have t4:=fun a b c d e=>Fz s ob hs hc a b c d e (s.l.length-(ob+1)) (ob+1) (acc++ [ph]) J (by simp [ha]) J;have t5:=fun a b c d e f=>Fy s ob hs hc a b c d e f (s.l.length-(ob+1)) (ob+1) (acc++ [ph]) J (by simp [ha]) J;rw [bk,bn] at t2 t3 t4 t5;refine bK.of ?_;rw [PE];have fU:=bF vv;unfold B1 DI;generalize s.l[ob]=x at *;have q4:((x.V 4).l.length:Int)<17592186044416:=J
 have q5:((x.V 5).l.length:Int)<17592186044416:=J
 by_cases r4:((x.V 4).l.length:Int)=0<;>by_cases r5:((x.V 5).l.length:Int)=0<;>
 ·simp only [Vi,zz,c1,c2,c5,c4,w,fU,bz,r4,r5,q4,q5];exact aiu
theorem ahead (s:D) (ob:Nat) (vv:ob<s.l.length) (hs:s.l.length<=1759218604390) (hc: ∀x∈s.l,Ad x): ∀(k i:Nat) (acc:List D),i+k=ob->acc.length=i->
 bK 9106 [(ob:Int),enc s,enc (dL acc),(i:Int)] (·= B1 s.l[ob]::(ob:Int)::enc (dL (acc++((s.l.drop i).take k).map jL++ph::(s.l.drop (ob+1)).map jL))::DI s.l[ob])
 |0,i,acc,U,Z=>by
  obtain rfl:i=ob:=J
  have:=x_ s i vv hs hc acc Z
  grind
 |k+1,i,acc,U,Z=>by
  have hi:i<s.l.length:=J
  have V:s.l.drop i=s.l[i]::s.l.drop (i+1):=aG hi;have ih:=ahead s ob vv hs hc k (i+1) (acc++ [jL s.l[i]]) J (by simp [Z]);have w:=bx (n:=i) J;have c0: ¬(i:Int)=(ob:Int):=J
  have c1:(i:Int)<(s.l.length:Int):=J
  have c2: ¬((i:Int)<0):=J
  have c3:(acc.length:Int)<1759218604440:=J
  obtain⟨q4,q5⟩:=hc _ (aq hi)
  have hap:acc++((s.l.drop i).take (k+1)).map jL=acc++ [jL s.l[i]]++((s.l.drop (i+1)).take k).map jL:=by
   grind
  rw [<- hap] at ih;refine bK.of ?_;rw [PE];have fU:=bF hi;clear hap V;exact aqI
theorem PQ (s:D) (ob:Nat) (vv:ob<s.l.length) (hs:s.l.length<=1759218604390) (hc: ∀x∈s.l,Ad x) :
 L 9100 [(ob:Int),enc s]=some (B1 s.l[ob]::(ob:Int)::enc (dL ((s.l.take ob).map jL++ph::(s.l.drop (ob+1)).map jL))::DI s.l[ob]):=by
 have:bK 9100 [(ob:Int),enc s] (·= B1 s.l[ob]::(ob:Int)::enc (dL ((s.l.take ob).map jL++ph::(s.l.drop (ob+1)).map jL))::DI s.l[ob]):=by
  refine bK.of ?_;rw [ace];simp only [z!,zz];refine .jump (bK.of ?_);have hi:0<s.l.length:=J
  have c1:(0:Int)<(s.l.length:Int):=J
  have fU:s.at 0=s.l[0]:=bF hi
  have V:s.l=s.l[0]::s.l.drop 1:=by exact NC
  obtain⟨q4,q5⟩:=hc _ (aq hi);rw [acd];by_cases h0:ob=0
  ·subst h0;have t2:=fun a b c d=>FB s 0 hs hc a b c d (s.l.length-1) 1 [ph] J rfl J;have t3:=fun a b c d e=>FA s 0 hs hc a b c d e (s.l.length-1) 1 [ph] J rfl J;have t4:=fun a b c d e=>Fz s 0 hs hc a b c d e (s.l.length-1) 1 [ph] J rfl J;have t5:=fun a b c d e f=>Fy s 0 hs hc a b c d e f (s.l.length-1) 1 [ph] J rfl J;rw [bn] at t2 t3 t4 t5;rw [ax2,axt,aw];have c0:(0:Int)=((0:Nat):Int):=rfl;unfold B1 DI;clear V;generalize s.l[0]=x at *;have q4:((x.V 4).l.length:Int)<17592186044416:=J
   have q5:((x.V 5).l.length:Int)<17592186044416:=J
   by_cases r4:((x.V 4).l.length:Int)=0<;>by_cases r5:((x.V 5).l.length:Int)=0<;>
   ·simp only [Vj,zz,c1,fU,r4,r5,q4,q5,pQ,aw,<- c0];exact aiu
  ·have c0: ¬(0:Int)=(ob:Int):=J
   have ih:=ahead s ob vv hs hc (ob-1) 1 [jL s.l[0]] J rfl
   have hap:(s.l.take ob).map jL= [jL s.l[0]]++((s.l.drop 1).take (ob-1)).map jL:=by
    obtain⟨m,rfl⟩ : ∃m,ob=m+1:=⟨ob-1,J⟩
    grind
   rw [<- hap] at ih;clear hap V;generalize s.l[0]=x at *;have q4:((x.V 4).l.length:Int)<17592186044416:=J
   have ih:bK 9106 [(ob:Int),enc s,enc (dL [jL x]),1] _:=ih;have q5:((x.V 5).l.length:Int)<17592186044416:=J
   exact aqD
 exact rX
section
variable {cs s x a y r v r' v':D} {obj th op M o c dn g oc t:Int} {l:List D}
def Ld (d:D):Prop:=d= .i 1\/d= .i 2\/d=dL d.l/\d.l≠[]
theorem wy {t:Nat} (h:Wd (.sl t) a):Ld a:=by
 rcases h.sh with U|U|⟨U,Z⟩
 ·exact .inl U
 ·exact .inr (.inl U)
 ·exact .inr (.inr ⟨U,Z⟩)
theorem eB (h:l≠[]):Ld (dL l):=.inr (.inr ⟨by rw [bz],by rwa [bz]⟩)
theorem fL (d:D) (l:List D):Ld (fu d l):=by
 cases l with
 |nil=>
  simp only [fu];split
  ·exact .inl rfl
  ·exact .inr (.inl rfl)
 |cons a l=>exact eB ad
theorem Vw {d:D} (h:Ld d):Ld (mS d):=by
 unfold mS;split
 ·exact .inr (.inl rfl)
 ·exact h
def shR (x:D):Prop:= ∃o c b g r v,x=dL [.i o,.i c,.i b,.i g,r,v]/\Ld r/\Ld v
theorem Sj (h:iY x):shR (jL x):=by obtain⟨o,c,d,g,r,v,T⟩:=tu h;rw [T.is];unfold jL;simp only [zg,ax,zw];exact⟨_,_,_,_,_,_,rfl,Vw (wy T.hr),Vw (wy T.hv)⟩
def shS (s:D):Prop:=Ld s/\∀x∈s.l,shR x
structure SQ (s' s:D):Prop where
 e:xx s' s
 h:shS s'
structure CEq (cs s:D) (obj:Int):Prop where
 len:cs.l.length=s.l.length
 vP: ∀i:Nat,(i:Int)≠obj->ZX (cs.at (i:Int)) (s.at (i:Int))
 six: ∀i:Nat,(i:Int)≠obj->i<s.l.length->∃a b c d e f,cs.at (i:Int)=dL [a,b,c,d,e,f]/\∃a' b' c' d' e' f',s.at (i:Int)=dL [a',b',c',d',e',f']
 sh: ∀i:Nat,(i:Int)≠obj->i<s.l.length->shR (cs.at (i:Int))
theorem UC (C:CEq cs s obj) (h0:0<=obj) (U:obj<(s.l.length:Int)) (hx:shR x):shS (dL (dg cs.l obj x)):=by
 obtain⟨j,rfl⟩ : ∃j:Nat,obj=(j:Int):=⟨obj.toNat,J⟩;have Y:=C.len;refine⟨eB fun h=>?_,fun y hy=>?_⟩
 ·have:=congrArg List.length h;rw [dM] at this;simp only [bd] at this;omega
 ·rw [bz] at hy;obtain⟨i,hi0,rfl⟩:=axi hy
  have hi:i<cs.l.length:=by have:=hi0;rwa [dM] at this
  by_cases hij:i=j
  ·subst hij;have:(dg cs.l (i:Int) x)[i]?=some x:=pI hi;rw [aM hi0] at this;rw [Option.some.inj this];exact hx
  ·have:=C.sh i J J;have e:(dg cs.l (j:Int) x)[i]?=cs.l[i]?:=lg J;rw [aM hi0,aM hi] at e;rw [Option.some.inj e,<- bF hi];exact this
theorem MV (C:CEq cs s obj) (h0:0<=obj) (hx:ZX x y):xx (dL (dg cs.l obj x)) (dL (dg s.l obj y)):=by
 refine⟨by rw [bz,bz,dM,dM]; exact C.len.symm,fun i=>?_⟩;by_cases hz:(i:Int)=obj
 ·subst hz;by_cases hi:i<s.l.length
  ·have e1:(dL (dg cs.l (i:Int) x)).at (i:Int)=x:=zX (by rw [bz]; exact pI (by have:=C.len; omega));have e2:(dL (dg s.l (i:Int) y)).at (i:Int)=y:=zX (by rw [bz]; exact pI hi)
   grind
  ·have e1:(dL (dg cs.l (i:Int) x)).at (i:Int)= .i 0:=by rw [eE,bz,awZ (by rw [dM]; have:=C.len; omega)]; rfl
   have e2:(dL (dg s.l (i:Int) y)).at (i:Int)= .i 0:=by rw [eE,bz,awZ (by rw [dM]; omega)]; rfl
   rw [e1,e2];exact .pX _
 ·have e1:(dL (dg cs.l obj x)).at (i:Int)=cs.at (i:Int):=by rw [eE,eE,bz,lg hz]
  have e2:(dL (dg s.l obj y)).at (i:Int)=s.at (i:Int):=by rw [eE,eE,bz,lg hz]
  rw [e1,e2];exact C.vP i hz
theorem x? (h:ZX x y) (hx: ∃a b c d e f,x=dL [a,b,c,d,e,f]) (hy: ∃a b c d e f,y=dL [a,b,c,d,e,f]) (q:Int):ZX (dL (dg x.l 0 (.i q))) (dL (dg y.l 0 (.i q))):=by obtain⟨a,b,c,d,e,f,rfl⟩:=hx;obtain⟨a',b',c',d',e',f',rfl⟩:=hy;obtain⟨_,q1,q2,q3,q4,q5⟩:=h;rw [bz,bz];exact⟨rfl,q1,q2,q3,q4,q5⟩
theorem Xs (C:CEq cs s obj) {M:Nat} (hM:(M:Int)≠obj) (hMl:M<s.l.length) (q:Int):CEq (dL (dg cs.l (M:Int) (dL (dg (cs.at (M:Int)).l 0 (.i q))))) (dL (dg s.l (M:Int) (dL (dg (s.at (M:Int)).l 0 (.i q))))) obj:=by
 have hMc:M<cs.l.length:=by have:=C.len; omega
 obtain⟨a,b,c,d,e,f,hx,a',b',c',d',e',f',hy⟩:=C.six M hM hMl;have e1:(dL (dg cs.l (M:Int) (dL (dg (cs.at (M:Int)).l 0 (.i q))))).at (M:Int)=dL (dg (cs.at (M:Int)).l 0 (.i q)):=zX (by rw [bz]; exact pI hMc);have e2:(dL (dg s.l (M:Int) (dL (dg (s.at (M:Int)).l 0 (.i q))))).at (M:Int)=dL (dg (s.at (M:Int)).l 0 (.i q)):=zX (by rw [bz]; exact pI hMl);have n1: ∀{i:Nat},¬(i:Int)=(M:Int)->(dL (dg cs.l (M:Int) (dL (dg (cs.at (M:Int)).l 0 (.i q))))).at (i:Int)=cs.at (i:Int):=fun hz=>by rw [eE,bz,lg hz]; rfl
 have n2: ∀{i:Nat},¬(i:Int)=(M:Int)->(dL (dg s.l (M:Int) (dL (dg (s.at (M:Int)).l 0 (.i q))))).at (i:Int)=s.at (i:Int):=fun hz=>by rw [eE,bz,lg hz]; rfl
 refine⟨by rw [bz,bz,dM,dM]; exact C.len,fun i hi=>?_,fun i hi cY=>?_,fun i hi cY=>?_⟩
 ·by_cases hz:(i:Int)=(M:Int)
  ·rw [hz,e1,e2];exact x? (C.vP M hM) ⟨a,b,c,d,e,f,hx⟩ ⟨a',b',c',d',e',f',hy⟩ q
  ·rw [n1 hz,n2 hz];exact C.vP i hi
 ·rw [bz,dM] at cY;by_cases hz:(i:Int)=(M:Int)
  ·rw [hz,e1,e2,hx,hy,bz,bz];exact⟨_,_,_,_,_,_,rfl,_,_,_,_,_,_,rfl⟩
  ·rw [n1 hz,n2 hz];exact C.six i hi cY
 ·rw [bz,dM] at cY;by_cases hz:(i:Int)=(M:Int)
  ·rw [hz,e1];obtain⟨o',c',b',g',r',v',hy',sr,sv⟩:=C.sh M hM hMl;rw [hy',bz];exact⟨_,_,_,_,_,_,rfl,sr,sv⟩
  ·rw [n1 hz];exact C.sh i hi cY
def AE (s:D) (th op obj M:Int):Act->List Int->Prop
 | .n7,ys=> ∃s':D,SQ s' s/\ys= [enc s',0,0,0,0,0,0]
 | .wM,ys=> ∃s':D,SQ s' s/\ys= [enc s',th,27,obj,IntKind.i64.wrap op,0,2]
 | .res o c dn g r v m a oc,ys=> ∃s':D,SQ s' (F7 s obj M (.res o c dn g r v m a oc))/\ys= [enc s',th,op,obj,a,0,oc]
theorem qX {a:Int} (C:CEq cs s obj) (h0:0<=obj) (U:obj<(s.l.length:Int)) (b:Int) (hb:b=(if dn=0 then 0 else 1)) (hr:r'.l=r.l) (hv:v'.l=v.l) (sr:Ld r') (sv:Ld v') :
 AE s th op obj M (.res o c dn g r v none a oc) [enc (dL (dg cs.l obj (dL [.i o,.i c,.i b,.i g,r',v']))),th,op,obj,a,0,oc]:=by
 subst hb;exact⟨_,⟨MV C h0 (Ch hr hv),UC C h0 U ⟨_,_,_,_,_,_,rfl,sr,sv⟩⟩,rfl⟩
theorem FZ {a q:Int} (C:CEq cs s obj) (h0:0<=obj) (U:obj<(s.l.length:Int)) (m0:0<=M) (m1:M<(s.l.length:Int)) (m2:M≠obj) (hr:r'.l=r.l) (hv:v'.l=v.l) (sr:Ld r') (sv:Ld v') :
 AE s th op obj M (.res o c dn g r v (some q) a oc) [enc (dL (dg (dg cs.l M (dL (dg (cs.at M).l 0 (.i q)))) obj (dL [.i o,.i c,.i (if dn=0 then 0 else 1),.i g,r',v']))),th,op,obj,a,0,oc]:=by
 obtain⟨m,rfl⟩ : ∃m:Nat,M=(m:Int):=⟨M.toNat,J⟩;have:=MV (Xs C m2 J q) h0 (Ch (o:=o) (c:=c) (dn:=if dn=0 then 0 else 1) (g:=g) hr hv);have Z:=UC (Xs C m2 J q) h0 (by rw [bz,dM]; exact U) (x:=dL [.i o,.i c,.i (if dn=0 then 0 else 1),.i g,r',v']) ⟨_,_,_,_,_,_,rfl,sr,sv⟩;rw [bz,bz] at this;rw [bz] at Z;exact⟨_,⟨this,Z⟩,rfl⟩
theorem aiX (h:a.n=t):wo t (a::l)=wo t l:=by
 unfold wo
 grind
theorem aiW (h: ¬a.n=t):wo t (a::l)=a::wo t l:=by
 unfold wo
 grind
theorem vZ (t:Int):L 20000 [t]=some [0,t]:=by
 have:bK 20000 [t] (·= [0,t]):=by refine bK.of ?_;rw [ado];simp only [Q',zz];refine .jump (bK.of ?_);rw [adn];simp only [Q_,zz];exact .out rfl
 exact rX
theorem ud (r:D) (t:Int) (Y:r.l.length<17592186044415) (hn: ∀x∈r.l,x= .i x.n): ∀(k i:Nat) (acc:List D),i+k=r.l.length->acc.length<=i->
 bK 20052 [enc r,t,enc (dL acc),(i:Int)] (·= [1,enc r,t,enc (dL (acc++wo t (r.l.drop i)))])
 |0,i,acc,U,Z=>by
  have c1: ¬(i:Int)<(r.l.length:Int):=J
  refine bK.of ?_;rw [Um,aN J];simp only [RT,zz,c1];exact .out (by simp [wo])
 |k+1,i,acc,U,Z=>by
  have hi:i<r.l.length:=J
  have V:r.l.drop i=r.l[i]::r.l.drop (i+1):=aG hi;have w:=bx (n:=i) J;have c1:(i:Int)<(r.l.length:Int):=J
  have c2: ¬((i:Int)<0):=J
  have c3:(acc.length:Int)<17592186044415:=J
  have i1:=ud r t Y hn k (i+1) acc J J;have i2:=ud r t Y hn k (i+1) (acc++ [r.l[i]]) J (by simp; omega);have hx:=hn _ (aq hi);refine bK.of ?_;rw [Um,V];simp only [RT,zz,c1,c2,c3,w,bF hi,bz];exact aqt
def woA (r:D) (t:Int):List Int:=if wo t r.l= [] then [0,enc r,t] else [1,enc r,t,enc (dL (wo t r.l))]
theorem yE (r:D) (t:Int) (Y:r.l.length<17592186044415) (hn: ∀x∈r.l,x= .i x.n): ∀(k i:Nat),i+k=r.l.length->
 bK 20051 [enc r,t,(i:Int)] (·= (if wo t (r.l.drop i)= [] then [0,enc r,t] else [1,enc r,t,enc (dL (wo t (r.l.drop i)))]))
 |0,i,U=>by
  have c1: ¬(i:Int)<(r.l.length:Int):=J
  refine bK.of ?_;rw [Un,aN J];simp only [RU,zz,c1];exact .out (by simp [wo])
 |k+1,i,U=>by
  have hi:i<r.l.length:=J
  have V:r.l.drop i=r.l[i]::r.l.drop (i+1):=aG hi;have w:=bx (n:=i) J;have c1:(i:Int)<(r.l.length:Int):=J
  have c2: ¬((i:Int)<0):=J
  have i1:=yE r t Y hn k (i+1) J;have i2:=ud r t Y hn k (i+1) [r.l[i]] J ad;have hx:=hn _ (aq hi);refine bK.of ?_;rw [Un,V];simp only [RU,zz,c1,c2,w,bF hi,pQ,aw];exact aqt
theorem ue (r:D) (t:Int) (Y:r.l.length<17592186044415) (hn: ∀x∈r.l,x= .i x.n):L 20050 [enc r,t]=some (woA r t):=by
 have:bK 20050 [enc r,t] (·= woA r t):=by refine bK.of ?_;rw [adm];simp only [P?,zz];exact .jump (yE r t Y hn r.l.length 0 J)
 exact rX
theorem Rz: ∀(l:List D) (t:Int) (k:Nat) (hk:k<l.length),(l.map D.n).Nodup->(l[k]).n=t->wo t l=l.take k++l.drop (k+1)
 |[],_,_,hk,_,_=>by simp at hk
 |a::l,t,0,_,hn,h=>by simp only [List.getElem_cons_zero] at h;simp only [aC,List.nodup_cons] at hn;have: ∀x∈l,x.n≠t:=fun x hx q=>hn.1 (by rw [h,<- q]; exact ayw hx);rw [aiX h,xG this];rfl
 |a::l,t,k+1,hk,hn,h=>by simp only [List.getElem_cons_succ] at h;simp only [aC,List.nodup_cons] at hn;have jK:a.n≠t:=fun q=>hn.1 (by rw [q,<- h]; exact ayw (aq _));have ih:=Rz l t k (by simpa using hk) hn.2 h;rw [aiW jK,ih];rfl
end
section
variable {r d0 d1 s cs s2 v:D} {th obj arg tries o c dn g op:Int}
structure RH (d0 d1 s cs s2:D) (th op obj arg tries o c dn g:Int) (r v:D):Prop where
 Ic:L 3950 [enc s]=some [enc s2]
 GJ:SQ s2 s
 C:CEq cs s obj
 hR:L 3900 [enc d0,enc d1,enc s]=some [1]
 tQ:0<=th
 mi:th<(d1.l.length:Int)
 lV:0<=obj
 jm:obj<(s.l.length:Int)
 hlen:s.l.length=d0.l.length
 hk:L 4150 [op]=some [((d0.at obj).V 0).n]
 hr:(r.l.length:Int)<17592186044415
 hv:(v.l.length:Int)<17592186044415
 hn: ∀x∈r.l,x= .i x.n
 nd:(r.l.map D.n).Nodup
 ho: -1<=o
 hc:fD .i64 c
 hM:op=12\/op=24->0<=Mx d0 obj/\Mx d0 obj<(s.l.length:Int)/\Mx d0 obj≠obj/\((cs.at (Mx d0 obj)).V 0).n=Mo d0 s obj/\-1<=Mo d0 s obj
 h7:op=17->0<=c/\c<=1099511627776/\fD .i64 arg
 sr:Ld r
 sv:Ld v
theorem jM (h:r.l= []):(D.i 1).l=r.l:=by rw [h]; rfl
theorem iZ (h:r.l= []):(D.i 2).l=r.l:=by rw [h]; rfl
set_option maxHeartbeats 20000000 in
theorem ZR (pb:op=1\/op=2\/op=3\/op=4\/op=5\/op=6\/op=7\/op=8\/op=9\/op=10\/op=11\/op=13\/op=14\/op=15\/op=16\/op=18\/op=19\/op=20\/op=21\/op=22\/op=23\/op=25\/op=26) (H:RH d0 d1 s cs s2 th op obj arg tries o c dn g r v) (gY:r.l= []) (kq:v.l= []) (eR:L 9100 [obj,enc s]=some [1,obj,enc cs,o,c,dn,g]) :
 bK 4000 [enc d0,enc d1,enc s,th,op,obj,arg,tries] (AE s th op obj (Mx d0 obj) (act (Mx d0 obj) (Mo d0 s obj) th op arg tries o c dn g r v)):=by
 obtain⟨Ic,GJ,C,hR,tQ,mi,lV,jm,hlen,hk,hr,hv,hn,nd,ho,hc,hM,h7,sr,sv⟩:=H;have a1: ¬th<0:=J
 have a2: ¬obj<0:=J
 have a3:obj<(d0.l.length:Int):=J
 have a4:obj<(cs.l.length:Int):=by rw [C.len]; exact jm
 clear hM h7;have p0:=lz gY th;have b0:(r.l.length:Int)=0:=by rw [gY]; rfl
 have bv0:(v.l.length:Int)=0:=by rw [kq]; rfl
 have n2:L 4400 [th,enc (.i 2)]=some [-1]:=wR (.i 2) th ae;refine bK.of ?_;rw [mu]
 rcases pb with rfl|rfl|rfl|rfl|rfl|rfl|rfl|rfl|rfl|rfl|rfl|rfl|rfl|rfl|rfl|rfl|rfl|rfl|rfl|rfl|rfl|rfl|rfl<;>
 ·simp only [mf,zz,Int.reduceEq,Int.reduceLT,aL,a1,mi,a2,a3,a4,eR,hR,hk,Ic,hr,hv,n2,vZ];simp only [act,Int.reduceEq,if_true,if_false,p0,b0,bv0];exact aqQ
set_option maxHeartbeats 20000000 in
theorem oG3 (pb:op=5\/op=7\/op=8\/op=14) (H:RH d0 d1 s cs s2 th op obj arg tries o c dn g r v) (gY:0<r.l.length) (kq:v.l= []) (eR:L 9100 [obj,enc s]=some [3,obj,enc cs,o,c,dn,g,enc r]) :
 bK 4000 [enc d0,enc d1,enc s,th,op,obj,arg,tries] (AE s th op obj (Mx d0 obj) (act (Mx d0 obj) (Mo d0 s obj) th op arg tries o c dn g r v)):=by
 obtain⟨Ic,GJ,C,hR,tQ,mi,lV,jm,hlen,hk,hr,hv,hn,nd,ho,hc,hM,h7,sr,sv⟩:=H;have a1: ¬th<0:=J
 have a2: ¬obj<0:=J
 have a3:obj<(d0.l.length:Int):=J
 have a4:obj<(cs.l.length:Int):=by rw [C.len]; exact jm
 clear hM h7;have p1:=gS r th;have b0:0<(r.l.length:Int):=J
 have n2:=wR r th J;refine bK.of ?_;rw [mu]
 rcases pb with rfl|rfl|rfl|rfl<;>
 ·simp only [mf,zz,Int.reduceEq,Int.reduceLT,aL,a1,mi,a2,a3,a4,eR,hR,hk,Ic,hr,hv,n2];simp only [act,Int.reduceEq,if_true,if_false];exact aqQ
set_option maxHeartbeats 1000000 in
theorem ast (H:RH d0 d1 s cs s2 th 12 obj arg tries o c dn g r v) (gY:r.l= []) (kq:v.l= []) (eR:L 9100 [obj,enc s]=some [1,obj,enc cs,o,c,dn,g]) :
 bK 4000 [enc d0,enc d1,enc s,th,12,obj,arg,tries] (AE s th 12 obj (Mx d0 obj) (act (Mx d0 obj) (Mo d0 s obj) th 12 arg tries o c dn g r v)):=by
 exact zm4
set_option maxHeartbeats 1000000 in
theorem asq (H:RH d0 d1 s cs s2 th 17 obj arg tries o c dn g r v) (gY:r.l= []) (kq:v.l= []) (eR:L 9100 [obj,enc s]=some [1,obj,enc cs,o,c,dn,g]) :
 bK 4000 [enc d0,enc d1,enc s,th,17,obj,arg,tries] (AE s th 17 obj (Mx d0 obj) (act (Mx d0 obj) (Mo d0 s obj) th 17 arg tries o c dn g r v)):=by
 obtain⟨Ic,GJ,C,hR,tQ,mi,lV,jm,hlen,hk,hr,hv,hn,nd,ho,hc,hM,h7,sr,sv⟩:=H;have a1: ¬th<0:=J
 have a2: ¬obj<0:=J
 have a3:obj<(d0.l.length:Int):=J
 have a4:obj<(cs.l.length:Int):=by rw [C.len]; exact jm
 have p0:=lz gY th;have b0:(r.l.length:Int)=0:=by rw [gY]; rfl
 have n2:L 4400 [th,enc (.i 2)]=some [-1]:=wR (.i 2) th ae;obtain⟨c0,c1,c2⟩:=h7 rfl;have w1:IntKind.i64.wrap (0-c)=0-c:=fg J J;have w2:IntKind.i64.wrap (1099511627776-c)=1099511627776-c:=fg J J;have w3: -1099511627776<=arg->arg<=1099511627776->IntKind.i64.wrap (c+arg)=c+arg:=fun _ _=>fg J J;refine bK.of ?_;rw [mu];simp only [mf,zz,Int.reduceEq,Int.reduceLT,aL,a1,mi,a2,a3,a4,eR,hR,hk,Ic,hr,hv,n2,vZ];simp only [act,Int.reduceEq,if_true,if_false,p0,b0,w1,w2];exact zm3
set_option maxHeartbeats 1000000 in
theorem asn (H:RH d0 d1 s cs s2 th 24 obj arg tries o c dn g r v) (gY:r.l= []) (kq:v.l= []) (eR:L 9100 [obj,enc s]=some [1,obj,enc cs,o,c,dn,g]) :
 bK 4000 [enc d0,enc d1,enc s,th,24,obj,arg,tries] (AE s th 24 obj (Mx d0 obj) (act (Mx d0 obj) (Mo d0 s obj) th 24 arg tries o c dn g r v)):=by
 exact zm4
set_option maxHeartbeats 1000000 in
theorem au7 (H:RH d0 d1 s cs s2 th 6 obj arg tries o c dn g r v) (gY:0<r.l.length) (kq:v.l= []) (eR:L 9100 [obj,enc s]=some [3,obj,enc cs,o,c,dn,g,enc r]) :
 bK 4000 [enc d0,enc d1,enc s,th,6,obj,arg,tries] (AE s th 6 obj (Mx d0 obj) (act (Mx d0 obj) (Mo d0 s obj) th 6 arg tries o c dn g r v)):=by
 obtain⟨Ic,GJ,C,hR,tQ,mi,lV,jm,hlen,hk,hr,hv,hn,nd,ho,hc,hM,h7,sr,sv⟩:=H;have a1: ¬th<0:=J
 have a2: ¬obj<0:=J
 have a3:obj<(d0.l.length:Int):=J
 have a4:obj<(cs.l.length:Int):=by rw [C.len]; exact jm
 have p1:=gS r th;have b0:0<(r.l.length:Int):=J
 have n2:=wR r th J;have n3:=ue r th J hn;unfold woA at n3;have n5:(wo th r.l).length<=r.l.length:=KG th r.l;have n6:((wo th r.l).length:Int)<17592186044415:=J
 have hx: ¬place r th<0->wo th r.l=r.l.take (place r th).toNat++r.l.drop ((place r th).toNat+1):=fun h=>by
  grind [kS,Rz]
 by_cases hw:wo th r.l= []
 ·rw [ag hw] at n3;refine bK.of ?_;rw [mu];simp only [mf,zz,Int.reduceEq,Int.reduceLT,aL,a1,mi,a2,a3,a4,eR,hR,hk,Ic,hr,hv,n2,n3];simp only [act,Int.reduceEq,if_true,if_false]
  repeat' first |(exfalso; omega)|(refine .out ?_; (repeat first |rw [ag J]|rw [af J]); first |exact⟨s2,GJ,rfl⟩|exact qX C lV jm _ (by first |rfl|simp [*]) (by (first |rfl|exact iZ gY|exact jM gY|exact iZ kq|exact jM kq|(rw [gY]; rfl)|(rw [kq]; rfl)|(rw [jh gY]; rfl)|(rw [hw]; rfl)|(rw [bP,<- hx J,hw]; rfl)|(rw [bP,<- hx J,bz])|(simp only [bz,bP]; first |exact (hw▸hx J)|exact Ez|rfl))) (by (first |rfl|exact iZ gY|exact jM gY|exact iZ kq|exact jM kq|(rw [gY]; rfl)|(rw [kq]; rfl)|(rw [jh gY]; rfl)|(rw [hw]; rfl)|(rw [bP,<- hx J,hw]; rfl)|(rw [bP,<- hx J,bz])|(simp only [bz,bP]; first |exact (hw▸hx J)|exact Ez|rfl))) (by first |exact sr|exact sv|exact .inl rfl|exact .inr (.inl rfl)|exact fL _ _|exact eB hw|exact eB ad) (by first |exact sr|exact sv|exact .inl rfl|exact .inr (.inl rfl)|exact fL _ _|exact eB hw|exact eB ad))|refine .ite (fun _=>?_) (fun _=>?_)|(exfalso; omega)
 ·rw [af hw] at n3;refine bK.of ?_;rw [mu];simp only [mf,zz,Int.reduceEq,Int.reduceLT,aL,a1,mi,a2,a3,a4,eR,hR,hk,Ic,hr,hv,n2,n3,n6];simp only [act,Int.reduceEq,if_true,if_false]
  repeat' first |(exfalso; omega)|(refine .out ?_; (repeat first |rw [ag J]|rw [af J]); first |exact⟨s2,GJ,rfl⟩|exact qX C lV jm _ (by first |rfl|simp [*]) (by (first |rfl|exact iZ gY|exact jM gY|exact iZ kq|exact jM kq|(rw [gY]; rfl)|(rw [kq]; rfl)|(rw [jh gY]; rfl)|(rw [hw]; rfl)|(rw [bP,<- hx J,hw]; rfl)|(rw [bP,<- hx J,bz])|(simp only [bz,bP]; first |exact hx J|exact Ez|rfl))) (by (first |rfl|exact iZ gY|exact jM gY|exact iZ kq|exact jM kq|(rw [gY]; rfl)|(rw [kq]; rfl)|(rw [jh gY]; rfl)|(rw [hw]; rfl)|(rw [bP,<- hx J,hw]; rfl)|(rw [bP,<- hx J,bz])|(simp only [bz,bP]; first |exact hx J|exact Ez|rfl))) (by first |exact sr|exact sv|exact .inl rfl|exact .inr (.inl rfl)|exact fL _ _|exact eB hw|exact eB ad) (by first |exact sr|exact sv|exact .inl rfl|exact .inr (.inl rfl)|exact fL _ _|exact eB hw|exact eB ad))|refine .ite (fun _=>?_) (fun _=>?_)|(exfalso; omega)
set_option maxHeartbeats 1000000 in
theorem ass (H:RH d0 d1 s cs s2 th 12 obj arg tries o c dn g r v) (gY:0<r.l.length) (kq:v.l= []) (eR:L 9100 [obj,enc s]=some [3,obj,enc cs,o,c,dn,g,enc r]) :
 bK 4000 [enc d0,enc d1,enc s,th,12,obj,arg,tries] (AE s th 12 obj (Mx d0 obj) (act (Mx d0 obj) (Mo d0 s obj) th 12 arg tries o c dn g r v)):=by
 obtain⟨Ic,GJ,C,hR,tQ,mi,lV,jm,hlen,hk,hr,hv,hn,nd,ho,hc,hM,h7,sr,sv⟩:=H;have a1: ¬th<0:=J
 have a2: ¬obj<0:=J
 have a3:obj<(d0.l.length:Int):=J
 have a4:obj<(cs.l.length:Int):=by rw [C.len]; exact jm
 have p1:=gS r th;have b0:0<(r.l.length:Int):=J
 have n2:=wR r th J;obtain⟨m0,m1,m2,m3,m4⟩:=hM J;have a5: ¬Mx d0 obj<0:=J
 have a6:Mx d0 obj<(cs.l.length:Int):=by rw [C.len]; exact m1
 have n3:=ue r th J hn;unfold woA at n3;have n5:(wo th r.l).length<=r.l.length:=KG th r.l;have n6:((wo th r.l).length:Int)<17592186044415:=J
 by_cases hw:wo th r.l= []
 ·rw [ag hw] at n3;refine bK.of ?_;rw [mu];simp only [mf,zz,Int.reduceEq,Int.reduceLT,aL,a1,mi,a2,a3,a4,eR,hR,hk,Ic,hr,hv,bz,n2,n3,a5,a6,m2,m3];simp only [act,Int.reduceEq,if_true,if_false]
  repeat' first |(exfalso; omega)|(refine .out ?_; (repeat first |rw [ag J]|rw [af J]); first |exact⟨s2,GJ,rfl⟩|exact qX C lV jm _ (by first |rfl|simp [*]) (by (first |rfl|exact iZ gY|exact jM gY|exact iZ kq|exact jM kq|(rw [gY]; rfl)|(rw [kq]; rfl)|(rw [jh gY]; rfl)|(rw [hw]; rfl)|(rw [bP,<- hx J,hw]; rfl)|(rw [bP,<- hx J,bz])|(simp only [bz,bP]; first |rw [hw]; rfl|exact Ez|rfl))) (by (first |rfl|exact iZ gY|exact jM gY|exact iZ kq|exact jM kq|(rw [gY]; rfl)|(rw [kq]; rfl)|(rw [jh gY]; rfl)|(rw [hw]; rfl)|(rw [bP,<- hx J,hw]; rfl)|(rw [bP,<- hx J,bz])|(simp only [bz,bP]; first |rw [hw]; rfl|exact Ez|rfl))) (by first |exact sr|exact sv|exact .inl rfl|exact .inr (.inl rfl)|exact fL _ _|exact eB hw|exact eB ad) (by first |exact sr|exact sv|exact .inl rfl|exact .inr (.inl rfl)|exact fL _ _|exact eB hw|exact eB ad)|exact FZ C lV jm m0 m1 m2 (by (first |rfl|exact iZ gY|exact jM gY|exact iZ kq|exact jM kq|(rw [gY]; rfl)|(rw [kq]; rfl)|(rw [jh gY]; rfl)|(rw [hw]; rfl)|(rw [bP,<- hx J,hw]; rfl)|(rw [bP,<- hx J,bz])|(simp only [bz,bP]; first |rw [hw]; rfl|exact Ez|rfl))) (by (first |rfl|exact iZ gY|exact jM gY|exact iZ kq|exact jM kq|(rw [gY]; rfl)|(rw [kq]; rfl)|(rw [jh gY]; rfl)|(rw [hw]; rfl)|(rw [bP,<- hx J,hw]; rfl)|(rw [bP,<- hx J,bz])|(simp only [bz,bP]; first |rw [hw]; rfl|exact Ez|rfl))) (by first |exact sr|exact sv|exact .inl rfl|exact .inr (.inl rfl)|exact fL _ _|exact eB hw|exact eB ad) (by first |exact sr|exact sv|exact .inl rfl|exact .inr (.inl rfl)|exact fL _ _|exact eB hw|exact eB ad))|refine .ite (fun _=>?_) (fun _=>?_)|(exfalso; omega)
 ·rw [af hw] at n3;refine bK.of ?_;rw [mu];simp only [mf,zz,Int.reduceEq,Int.reduceLT,aL,a1,mi,a2,a3,a4,eR,hR,hk,Ic,hr,hv,bz,n2,n3,n6,a5,a6,m2,m3];exact zm8
set_option maxHeartbeats 1000000 in
theorem asr (H:RH d0 d1 s cs s2 th 13 obj arg tries o c dn g r v) (gY:0<r.l.length) (kq:v.l= []) (eR:L 9100 [obj,enc s]=some [3,obj,enc cs,o,c,dn,g,enc r]) :
 bK 4000 [enc d0,enc d1,enc s,th,13,obj,arg,tries] (AE s th 13 obj (Mx d0 obj) (act (Mx d0 obj) (Mo d0 s obj) th 13 arg tries o c dn g r v)):=by
 obtain⟨Ic,GJ,C,hR,tQ,mi,lV,jm,hlen,hk,hr,hv,hn,nd,ho,hc,hM,h7,sr,sv⟩:=H;have a1: ¬th<0:=J
 have a2: ¬obj<0:=J
 have a3:obj<(d0.l.length:Int):=J
 have a4:obj<(cs.l.length:Int):=by rw [C.len]; exact jm
 have p1:=gS r th;have b0:0<(r.l.length:Int):=J
 have n2:=wR r th J;have n3:=ue r th J hn;have q1:IntKind.i64.wrap ((r.l.length:Int)-1)=(r.l.length:Int)-1:=fg J J;have q2:IntKind.i64.wrap (1+((r.l.length:Int)-1))=(r.l.length:Int):=by rw [fg J J]; omega
 have q3: ¬((r.l.length:Int)-1<0):=J
 refine bK.of ?_;rw [mu];simp only [mf,zz,Int.reduceEq,Int.reduceLT,aL,a1,mi,a2,a3,a4,eR,hR,hk,Ic,hr,hv,n2,n3,q1,q2,q3];have Iq:(r.l.take (1+((r.l.length:Int)-1)).toNat).drop 1=r.l.drop 1:=by rw [axm J]
 simp only [act,Int.reduceEq,if_true,if_false];exact zm3
set_option maxHeartbeats 1000000 in
theorem asm (H:RH d0 d1 s cs s2 th 24 obj arg tries o c dn g r v) (gY:0<r.l.length) (kq:v.l= []) (eR:L 9100 [obj,enc s]=some [3,obj,enc cs,o,c,dn,g,enc r]) :
 bK 4000 [enc d0,enc d1,enc s,th,24,obj,arg,tries] (AE s th 24 obj (Mx d0 obj) (act (Mx d0 obj) (Mo d0 s obj) th 24 arg tries o c dn g r v)):=by
 obtain⟨Ic,GJ,C,hR,tQ,mi,lV,jm,hlen,hk,hr,hv,hn,nd,ho,hc,hM,h7,sr,sv⟩:=H;have a1: ¬th<0:=J
 have a2: ¬obj<0:=J
 have a3:obj<(d0.l.length:Int):=J
 have a4:obj<(cs.l.length:Int):=by rw [C.len]; exact jm
 have p1:=gS r th;have b0:0<(r.l.length:Int):=J
 have n2:=wR r th J;have n3:=ue r th J hn;obtain⟨m0,m1,m2,m3,m4⟩:=hM J;have a5: ¬Mx d0 obj<0:=J
 have a6:Mx d0 obj<(cs.l.length:Int):=by rw [C.len]; exact m1
 refine bK.of ?_;rw [mu];simp only [mf,zz,Int.reduceEq,Int.reduceLT,aL,a1,mi,a2,a3,a4,eR,hR,hk,Ic,hr,hv,bz,n2,n3,a5,a6,m2,m3];exact zm8
set_option maxHeartbeats 1000000 in
theorem asp (H:RH d0 d1 s cs s2 th 20 obj arg tries o c dn g r v) (gY:r.l= []) (kq:0<v.l.length) (eR:L 9100 [obj,enc s]=some [2,obj,enc cs,o,c,dn,g,enc v]) :
 bK 4000 [enc d0,enc d1,enc s,th,20,obj,arg,tries] (AE s th 20 obj (Mx d0 obj) (act (Mx d0 obj) (Mo d0 s obj) th 20 arg tries o c dn g r v)):=by
 obtain⟨Ic,GJ,C,hR,tQ,mi,lV,jm,hlen,hk,hr,hv,hn,nd,ho,hc,hM,h7,sr,sv⟩:=H;have a1: ¬th<0:=J
 have a2: ¬obj<0:=J
 have a3:obj<(d0.l.length:Int):=J
 have a4:obj<(cs.l.length:Int):=by rw [C.len]; exact jm
 have p0:=lz gY th;have b0:(r.l.length:Int)=0:=by rw [gY]; rfl
 have n2:L 4400 [th,enc (.i 2)]=some [-1]:=wR (.i 2) th ae;refine bK.of ?_;rw [mu];simp only [mf,zz,Int.reduceEq,Int.reduceLT,aL,a1,mi,a2,a3,a4,eR,hR,hk,Ic,hr,hv,n2,vZ];have bv1:0<(v.l.length:Int):=J
 exact aqR
set_option maxHeartbeats 1000000 in
theorem aso (H:RH d0 d1 s cs s2 th 21 obj arg tries o c dn g r v) (gY:r.l= []) (kq:0<v.l.length) (eR:L 9100 [obj,enc s]=some [2,obj,enc cs,o,c,dn,g,enc v]) :
 bK 4000 [enc d0,enc d1,enc s,th,21,obj,arg,tries] (AE s th 21 obj (Mx d0 obj) (act (Mx d0 obj) (Mo d0 s obj) th 21 arg tries o c dn g r v)):=by
 obtain⟨Ic,GJ,C,hR,tQ,mi,lV,jm,hlen,hk,hr,hv,hn,nd,ho,hc,hM,h7,sr,sv⟩:=H;have a1: ¬th<0:=J
 have a2: ¬obj<0:=J
 have a3:obj<(d0.l.length:Int):=J
 have a4:obj<(cs.l.length:Int):=by rw [C.len]; exact jm
 have p0:=lz gY th;have b0:(r.l.length:Int)=0:=by rw [gY]; rfl
 have n2:L 4400 [th,enc (.i 2)]=some [-1]:=wR (.i 2) th ae;have q1:IntKind.i64.wrap ((v.l.length:Int)-1)=(v.l.length:Int)-1:=fg J J;have q2:IntKind.i64.wrap (1+((v.l.length:Int)-1))=(v.l.length:Int):=by rw [fg J J]; omega
 have q3: ¬((v.l.length:Int)-1<0):=J
 refine bK.of ?_;rw [mu];simp only [mf,zz,Int.reduceEq,Int.reduceLT,aL,a1,mi,a2,a3,a4,eR,hR,hk,Ic,hr,hv,n2,vZ,q1,q2,q3];have bv1:0<(v.l.length:Int):=J
 have Iq:(v.l.take (1+((v.l.length:Int)-1)).toNat).drop 1=v.l.drop 1:=by rw [axm J]
 exact aqR
end
section
variable {ob:Nat}
theorem Sq (o:Int) (h:fD .u8 o):L 4150 [o]=some [kindOf o]:=by
 have:bK 4150 [o] (·= [kindOf o]):=by
  have hr:=Ob o;obtain⟨k0,k1⟩:=h;refine bK.of ?_;rw [ak3];simp only [ajA,zz,hr];refine .ite (fun h=> .out (by rw [h]; rfl)) fun U=> .ite (fun h=> .out (by rw [h]; rfl)) fun Z=> .ite (fun h=> .out (by rw [h]; rfl)) fun h3=> .out ?_;refine congrArg (fun x=>[x]) ?_;by_cases hh:1<=o/\o<=23
  ·rw [ag hh];have:o=1\/o=2\/o=3\/o=4\/o=5\/o=6\/o=7\/o=8\/o=9\/o=10\/o=11\/o=12\/o=13\/o=14\/o=15\/o=16\/o=17\/o=18\/o=19\/o=20\/o=21\/o=22\/o=23:=J
   rcases this with rfl|rfl|rfl|rfl|rfl|rfl|rfl|rfl|rfl|rfl|rfl|rfl|rfl|rfl|rfl|rfl|rfl|rfl|rfl|rfl|rfl|rfl|rfl<;>rfl
  ·rw [af hh];by_cases hz:o=0
   ·subst hz; rfl
   ·unfold kindOf;rw [af J]
 exact rX
theorem ad9 {s:D} (vv:ob<s.l.length) (ht: ∀x∈s.l,iY x):CEq (dL ((s.l.take ob).map jL++ph::(s.l.drop (ob+1)).map jL)) s (ob:Int):=by
 have hlen:((s.l.take ob).map jL++ph::(s.l.drop (ob+1)).map jL).length=s.l.length:=by
  grind
 have key: ∀i:Nat,i≠ob->((s.l.take ob).map jL++ph::(s.l.drop (ob+1)).map jL)[i]?=(s.l[i]?).map jL:=fun i hi=>by
  grind
 refine⟨by rw [bz]; exact hlen,fun i hi=>?_,fun i hi cY=>?_,fun i hi cY=>?_⟩
 ·rw [eE,eE,bz,key i J];exact aie
 ·obtain⟨a,b,c,d,e,f,hx,_⟩:=ht _ (aq cY)
  have e1:(dL ((s.l.take ob).map jL++ph::(s.l.drop (ob+1)).map jL)).at (i:Int)=jL s.l[i]:=by rw [eE,bz,key i J,aM cY];rfl
  have e2:s.at (i:Int)=dL [.i a,.i b,.i c,.i d,e,f]:=by rw [bF cY]; exact hx
  unfold jL at e1;exact⟨_,_,_,_,_,_,e1,_,_,_,_,_,_,e2⟩
 ·rw [eE,bz,key i J,aM cY];exact Sj (ht _ (aq cY))
theorem aa4 {cs s:D} {o c dn g:Int} {r v r' v':D} (C:CEq cs s (ob:Int)) (vv:ob<s.l.length) (T:Tg (s.at (ob:Int)) o c dn g r v) (hr:r'.l=r.l) (hv:v'.l=v.l) (sr:Ld r') (sv:Ld v') :
 SQ (dL (dg cs.l (ob:Int) (dL [.i o,.i c,.i (if dn=0 then 0 else 1),.i g,r',v']))) s:=by
 have e:dg s.l (ob:Int) (s.at (ob:Int))=s.l:=by rw [qU,bF vv,ayL]
 have V:(if dn=0 then (0:Int) else 1)=dn:=by rcases T.V with rfl|rfl<;>rfl
 have:=MV C J (x:=dL [.i o,.i c,.i (if dn=0 then 0 else 1),.i g,r',v']) (y:=s.at (ob:Int)) (by rw [T.is,V]; exact Ch hr hv);rw [e] at this;exact⟨⟨by have:=this.len; rwa [bz] at this,fun i=>by have:=this.vP i; rwa [eE (dL s.l),bz] at this⟩,UC C J J ⟨_,_,_,_,_,_,rfl,sr,sv⟩⟩
theorem Ot (s:D) (ob:Int) (vv:ob<0\/(s.l.length:Int)<=ob) (hs:s.l.length<=1759218604390) (hc: ∀x∈s.l,Ad x): ∀(k i:Nat) (acc:List D),i+k=s.l.length->acc.length=i->
 bK 9106 [ob,enc s,enc (dL acc),(i:Int)] (·= [5,ob,enc (dL (acc++(s.l.drop i).map jL))])
 |0,i,acc,U,Z=>by
  have c1: ¬(i:Int)<(s.l.length:Int):=J
  refine bK.of ?_;rw [PE,aN J];simp only [Vi,zz,c1];exact ait
 |k+1,i,acc,U,Z=>by
  have hi:i<s.l.length:=J
  have V:s.l.drop i=s.l[i]::s.l.drop (i+1):=aG hi;have ih:=Ot s ob vv hs hc k (i+1) (acc++ [jL s.l[i]]) J (by simp [Z]);have w:=bx (n:=i) J;have c0: ¬(i:Int)=ob:=J
  have c1:(i:Int)<(s.l.length:Int):=J
  have c2: ¬((i:Int)<0):=J
  have c3:(acc.length:Int)<1759218604440:=J
  obtain⟨q4,q5⟩:=hc _ (aq hi);rw [bk,bn] at ih;refine bK.of ?_;rw [PE,V,aC];have fU:=bF hi;exact aqI
theorem aeb (s:D) (ob:Int) (vv:ob<0\/(s.l.length:Int)<=ob) (hs:s.l.length<=1759218604390) (hc: ∀x∈s.l,Ad x) :
 L 9100 [ob,enc s]=some (if s.l.length=0 then [0,ob] else [5,ob,enc (dL (s.l.map jL))]):=by
 have:bK 9100 [ob,enc s] (·= (if s.l.length=0 then [0,ob] else [5,ob,enc (dL (s.l.map jL))])):=by
  refine bK.of ?_;rw [ace];simp only [z!,zz];refine .jump (bK.of ?_);rw [acd];by_cases hz:s.l.length=0
  ·have c1: ¬(0:Int)<(s.l.length:Int):=J
   simp only [Vj,zz,c1];refine .ite (fun _=> .out (by rw [ag hz])) fun _=> .out (by rw [ag hz])
  ·have hi:0<s.l.length:=J
   have c1:(0:Int)<(s.l.length:Int):=J
   have c0: ¬(0:Int)=ob:=J
   have fU:s.at 0=s.l[0]:=bF hi
   have V:s.l=s.l[0]::s.l.drop 1:=by exact NC
   have ih:=Ot s ob vv hs hc (s.l.length-1) 1 [jL s.l[0]] J rfl;rw [bn,<- aC,<- V] at ih;obtain⟨q4,q5⟩:=hc _ (aq hi);rw [af hz];clear V;generalize s.l[0]=x at *;have q4:((x.V 4).l.length:Int)<17592186044416:=J
   have q5:((x.V 5).l.length:Int)<17592186044416:=J
   have ih:bK 9106 [ob,enc s,enc (dL [jL x]),1] _:=ih;exact aqD
 exact rX
def wD (s:D) (ys:List Int):Prop:= ∃s':D,SQ s' s/\ys= [enc s',0,0,0,0,0,0]
section
variable {d0 d1 s:D} {th op obj arg tries:Int} {n:Nat} (h0:Wd (.sl 3) d0) (U:Wd (.sl 4) d1) (G:Gs s n) (hn:n<17592186044000) (pb:fD .u8 op)
include h0 U G hn pb
theorem aly:s.l.length<=1759218604390/\(∀x∈s.l,iY x)/\∀x∈s.l,Ad x:=by
 refine⟨?_,G.wd.j7,fun x hx=> ⟨?_,?_⟩⟩
 ·have:=G.wd.room;have e:l4 7=80:=rfl
  grind
 ·have:=(G.rows x hx).1; omega
 ·have:=(G.rows x hx).2; omega
set_option maxHeartbeats 8000000 in
theorem anR (A: ¬Acc d0 d1 s th op obj):bK 4000 [enc d0,enc d1,enc s,th,op,obj,arg,tries] (wD s):=by
 obtain⟨hs,ht,hc⟩:=aly h0 U G hn pb;obtain⟨b,hb,hA,hR,hch⟩:=uz h0 U G hn;have hk:=Sq op pb;by_cases vv:obj<0\/(s.l.length:Int)<=obj
 ·have eR:=aeb s obj vv hs hc;obtain⟨s3,h3,Tm,e3⟩:=zR hs ht hc;have hle:b=1->s.l.length=d0.l.length:=fun Iu=>(qz h0 U G J (by rw [hA,Iu])).2.2;by_cases hz:s.l.length=0
  ·rw [ag hz] at eR
   have Wy:SQ (.i 1) s:=by have e0:=aw4.1 hz;exact⟨⟨by rw [e0]; rfl,fun i=>by rw [eE,eE,e0]; exact .pX _⟩,.inl rfl,fun x hx=>by simp [D.l] at hx⟩
   by_cases mT:b=0
   ·refine bK.of ?_;rw [mu];simp only [mf,zz,eR,hR,mT];exact .out ⟨_,Wy,rfl⟩
   ·have h01:=hle J;have a3:0<=obj->¬obj<(d0.l.length:Int):=fun _=>by omega
    refine bK.of ?_;rw [mu];simp only [mf,zz,eR,hR,mT,hk]
    repeat' first |(exfalso; omega)|exact .out ⟨_,Wy,rfl⟩|refine .ite (fun _=>?_) (fun _=>?_)
  ·rw [af hz] at eR;rw [e3 hz] at Tm
   have Tm:SQ (dL (s.l.map jL)) s:=⟨Tm,eB (by simpa using fun h=>hz (congrArg List.length h)),fun x hx=>by
    rw [bz] at hx;obtain⟨y,hy,rfl⟩:=aQ.1 hx
    exact Sj (ht y hy)⟩
   have a4:0<=obj->¬obj<((s.l.map jL).length:Int):=fun _=>by rw [a8]; omega
   rw [a8] at a4;have hlm:(((dL (s.l.map jL)).l.length:Nat):Int)=(s.l.length:Int):=by rw [bz,a8]
   by_cases mT:b=0
   ·refine bK.of ?_;rw [mu];simp only [mf,zz,eR,hR,mT,hlm]
    repeat' first |(exfalso; omega)|exact .out ⟨_,Tm,rfl⟩|refine .ite (fun _=>?_) (fun _=>?_)
   ·have h01:=hle J;refine bK.of ?_;rw [mu];simp only [mf,zz,eR,hR,mT,hk,hlm]
    repeat' first |(exfalso; omega)|exact .out ⟨_,Tm,rfl⟩|refine .ite (fun _=>?_) (fun _=>?_)
 ·obtain⟨i,rfl⟩ : ∃i:Nat,obj=(i:Int):=⟨obj.toNat,J⟩;have hi:i<s.l.length:=J
  obtain⟨o,c,dn,g,r,v,T⟩:=tu (G.wd.j7 _ (aq hi));have eR:=PQ s i hi hs hc;have C:=ad9 hi ht;have T':Tg (s.at (i:Int)) o c dn g r v:=by rw [bF hi]; exact T
  unfold B1 DI at eR;rw [T.is] at eR;simp only [dN,az,aA,ax,zw] at eR;generalize dL ((s.l.take i).map jL++ph::(s.l.drop (i+1)).map jL)=cs at *;have a2: ¬(i:Int)<0:=J
  have row: ∀k:Int,∀l:List Int,∀r' v':D,Ld r'->Ld v'->r'.l=r.l->v'.l=v.l->(L 9100 [(i:Int),enc s]=some (k::(i:Int)::enc cs::o::c::dn::g::l))->(k=1/\r'= .i 2/\v'= .i 2/\l= []\/k=2/\r'= .i 2/\l= [enc v']\/k=3/\v'= .i 2/\l= [enc r']\/k=4/\l= [enc r',enc v'])->bK 4000 [enc d0,enc d1,enc s,th,op,(i:Int),arg,tries] (wD s):=by
   intro k l r' v' sr sv hr hv eR hk4;have Tm:=aa4 C hi T' hr hv sr sv;by_cases mT:b=0
   ·refine bK.of ?_;rw [mu]
    rcases hk4 with ⟨rfl,rfl,rfl,rfl⟩|⟨rfl,rfl,rfl⟩|⟨rfl,rfl,rfl⟩|⟨rfl,rfl⟩ <;>
    ·simp only [mf,zz,Int.reduceEq,eR,hR,mT];exact .out ⟨_,Tm,rfl⟩
   ·by_cases ht0:th<0
    ·refine bK.of ?_;rw [mu]
     rcases hk4 with ⟨rfl,rfl,rfl,rfl⟩|⟨rfl,rfl,rfl⟩|⟨rfl,rfl,rfl⟩|⟨rfl,rfl⟩ <;>
     ·simp only [mf,zz,Int.reduceEq,eR,hR,mT,ht0];exact .out ⟨_,Tm,rfl⟩
    ·by_cases ht1:th<(d1.l.length:Int)
     ·have h01:=(qz h0 U G J (by rw [hA,show b=1 by omega])).2.2;have a3:(i:Int)<(d0.l.length:Int):=J
      have hkn: ¬kindOf op=((d0.at (i:Int)).V 0).n:=fun q=>A ⟨by rw [hA,show b=1 by omega],J,ht1,J,J,q⟩;refine bK.of ?_;rw [mu]
      rcases hk4 with ⟨rfl,rfl,rfl,rfl⟩|⟨rfl,rfl,rfl⟩|⟨rfl,rfl,rfl⟩|⟨rfl,rfl⟩ <;>
      ·simp only [mf,zz,Int.reduceEq,eR,hR,mT,ht0,ht1,a2,a3,hk,hkn];exact .out ⟨_,Tm,rfl⟩
     ·refine bK.of ?_;rw [mu]
      rcases hk4 with ⟨rfl,rfl,rfl,rfl⟩|⟨rfl,rfl,rfl⟩|⟨rfl,rfl,rfl⟩|⟨rfl,rfl⟩ <;>
      ·simp only [mf,zz,Int.reduceEq,eR,hR,mT,ht0,ht1];exact .out ⟨_,Tm,rfl⟩
  by_cases r4:((r.l.length:Nat):Int)=0<;>by_cases r5:((v.l.length:Nat):Int)=0
  ·have e4:r.l= []:=aw4.1 J;have e5:v.l= []:=aw4.1 J;simp only [r4,r5,if_true,awU] at eR;exact row 1 [] (.i 2) (.i 2) (.inr (.inl rfl)) (.inr (.inl rfl)) (iZ e4) (iZ e5) eR (.inl ⟨rfl,rfl,rfl,rfl⟩)
  ·have e4:r.l= []:=aw4.1 J;simp only [r4,r5,if_true,if_false,awU] at eR;exact row 2 _ (.i 2) v (.inr (.inl rfl)) (wy T.hv) (iZ e4) rfl eR (.inr (.inl ⟨rfl,rfl,rfl⟩))
  ·have e5:v.l= []:=aw4.1 J;simp only [r4,r5,if_true,if_false,awU] at eR;exact row 3 _ r (.i 2) (wy T.hr) (.inr (.inl rfl)) rfl (iZ e5) eR (.inr (.inr (.inl ⟨rfl,rfl,rfl⟩)))
  ·simp only [r4,r5,if_false] at eR;exact row 4 _ r v (wy T.hr) (wy T.hv) rfl rfl eR (.inr (.inr (.inr ⟨rfl,rfl⟩)))
end
end
section
variable {d0 d1 s:D} {th op obj arg tries:Int} {n:Nat} (h0:Wd (.sl 3) d0) (U:Wd (.sl 4) d1) (G:Gs s n) (hn:n<17592186044000) (pb:fD .u8 op) (agi:fD .i64 arg)
include h0 U G hn pb agi
theorem afH (A:Acc d0 d1 s th op obj) {o c dn g:Int} {r v:D} (T:Tg (s.at obj) o c dn g r v) (hr:r.l.length<=n) (hv:v.l.length<=n) (sj:op∈ops) :
 bK 4000 [enc d0,enc d1,enc s,th,op,obj,arg,tries] (AE s th op obj (Mx d0 obj) (act (Mx d0 obj) (Mo d0 s obj) th op arg tries o c dn g r v)):=by
 obtain⟨hs,ht,hc⟩:=aly h0 U G hn pb;obtain⟨b,hb,hA,hR,hch⟩:=uz h0 U G hn;have hf:=G.lD (by omega:n<17592186044415);have a1:=A.o0; have a2:=A.o1;have P:=FP h0 U G J A.r (i:=obj) a1 a2 T;have hle:=(qz h0 U G J A.r).2.2;have vv:=M8 h0 U hf A;have cnd:=HV h0 U G.wd hf pb A
 have Iu:b=1:=by
  have:=A.r
  grind
 rw [Iu] at hR;rw [Lb (uA vv.1)] at P;obtain⟨P1,P2,P3⟩:=P;obtain⟨s3,h3,Tm,e3⟩:=zR hs ht hc
 have Tm:SQ s3 s:=by
  have hz:s.l.length≠0:=J
  rw [e3 hz] at Tm ⊢
  exact⟨Tm,eB (by simpa using fun h=>hz (congrArg List.length h)),fun x hx=>by
   rw [bz] at hx;obtain⟨y,hy,rfl⟩:=aQ.1 hx
   exact Sj (ht y hy)⟩
 clear e3;obtain⟨i,rfl⟩ : ∃i:Nat,obj=(i:Int):=⟨obj.toNat,J⟩;have hi:i<s.l.length:=J
 have eR:=PQ s i hi hs hc;have C:=ad9 hi ht;have hk:=Sq op pb;rw [A.k] at hk;have T0:=T;rw [bF hi] at T0;unfold B1 DI at eR;rw [T0.is] at eR;simp only [dN,az,aA,ax,zw] at eR;generalize dL ((s.l.take i).map jL++ph::(s.l.drop (i+1)).map jL)=cs at *
 have av1:op=12\/op=24->0<=Mx d0 (i:Int)/\Mx d0 (i:Int)<(s.l.length:Int)/\Mx d0 (i:Int)≠(i:Int)/\((cs.at (Mx d0 (i:Int))).V 0).n=Mo d0 s (i:Int)/\-1<=Mo d0 s (i:Int):=fun h=>by
  obtain⟨m0,m1,m2⟩:=cnd h;obtain⟨m,hm⟩ : ∃m:Nat,Mx d0 (i:Int)=(m:Int):=⟨_,(Int.toNat_of_nonneg m0).symm⟩;refine⟨m0,m1,m2,?_,?_⟩
  ·have ZU:((d0.at (i:Int)).V 2).n=(m:Int):=hm;have q:=C.vP m (fun q=>m2 (hm.trans q));show ((cs.at ((d0.at (i:Int)).V 2).n).V 0).n=((s.at ((d0.at (i:Int)).V 2).n).V 0).n;rw [ZU];exact q.c0
  ·obtain⟨o',c',EE,g',r',v',T',_⟩:=vz G m0 m1;have P':=FP h0 U G J A.r m0 m1 T'
   have:Mo d0 s (i:Int)=o':=by show ((s.at (Mx d0 (i:Int))).V 0).n=o';rw [T'.is,dN];rfl
   rw [this];exact P'.1.2.1
 unfold QK at P1;have sY:kindOf op=((d0.at (i:Int)).V 0).n:=A.k
 have H:RH d0 d1 s cs s3 th op (i:Int) arg tries o c dn g r v:=⟨h3,Tm,C,hR,A.t0,A.t1,a1,a2,hle,hk,J,J,KH T.hr,P2.2,P1.1,T.hc,av1,fun h=>by
  have h7:((d0.at (i:Int)).V 0).n=7:=by rw [<- sY,h]; rfl
  have:=P3.2
  exact⟨J,J,agi⟩,wy T.hr,wy T.hv⟩
 have r0:((d0.at (i:Int)).V 0).n≠4->((d0.at (i:Int)).V 0).n≠2->r.l= []:=fun x y=>by have:=P1.2.2.2.2.2.1;exact aw4.1 J
 have v0:((d0.at (i:Int)).V 0).n≠8->v.l= []:=fun x=>by have:=P1.2.2.2.2.2.2.1;exact aw4.1 J
 have e1:r.l= []->v.l= []->L 9100 [(i:Int),enc s]=some [1,(i:Int),enc cs,o,c,dn,g]:=fun x y=>by
  grind
 have e2:r.l= []->0<v.l.length->L 9100 [(i:Int),enc s]=some [2,(i:Int),enc cs,o,c,dn,g,enc v]:=fun x y=>by
  grind
 have e3:0<r.l.length->v.l= []->L 9100 [(i:Int),enc s]=some [3,(i:Int),enc cs,o,c,dn,g,enc r]:=fun x y=>by
  grind
 clear eR
 have avM:op=1\/op=2\/op=8\/op=3\/op=4\/op=5\/op=6\/op=7\/op=9\/op=11\/op=10\/op=17\/op=18\/op=19\/op=22\/op=23\/op=20\/op=21\/op=12\/op=13\/op=14\/op=24\/op=15\/op=25\/op=16\/op=26:=by unfold ops at sj;simpa only [aF,aw7,or_false] using sj
 rcases avM with rfl|rfl|rfl|rfl|rfl|rfl|rfl|rfl|rfl|rfl|rfl|rfl|rfl|rfl|rfl|rfl|rfl|rfl|rfl|rfl|rfl|rfl|rfl|rfl|rfl|rfl
 ·exact aeZ
 ·exact aeZ
 ·exact amb
 ·exact aeZ
 ·exact aeZ
 ·exact amb
 ·have kk:=(show ((d0.at (i:Int)).V 0).n=2 from sY.symm.trans rfl);have v1:=v0 J;rcases gv r.l with h|h
  ·exact ZR J H h v1 (e1 h v1)
  ·exact au7 H h v1 (e3 h v1)
 ·exact amb
 ·exact al8
 ·exact al8
 ·exact al8
 ·have kk:=(show ((d0.at (i:Int)).V 0).n=7 from sY.symm.trans rfl);have r1:=r0 J J;have v1:=v0 J;exact asq H r1 v1 (e1 r1 v1)
 ·exact aiR
 ·exact aiR
 ·exact aiQ
 ·exact aiQ
 ·have kk:=(show ((d0.at (i:Int)).V 0).n=8 from sY.symm.trans rfl);have r1:=r0 J J;rcases gv v.l with h|h
  ·exact ZR J H r1 h (e1 r1 h)
  ·exact asp H r1 h (e2 r1 h)
 ·have kk:=(show ((d0.at (i:Int)).V 0).n=8 from sY.symm.trans rfl);have r1:=r0 J J;rcases gv v.l with h|h
  ·exact ZR J H r1 h (e1 r1 h)
  ·exact aso H r1 h (e2 r1 h)
 ·have kk:=(show ((d0.at (i:Int)).V 0).n=4 from sY.symm.trans rfl);have v1:=v0 J;rcases gv r.l with h|h
  ·exact ast H h v1 (e1 h v1)
  ·exact ass H h v1 (e3 h v1)
 ·have kk:=(show ((d0.at (i:Int)).V 0).n=4 from sY.symm.trans rfl);have v1:=v0 J;rcases gv r.l with h|h
  ·exact ZR J H h v1 (e1 h v1)
  ·exact asr H h v1 (e3 h v1)
 ·have kk:=(show ((d0.at (i:Int)).V 0).n=4 from sY.symm.trans rfl);have v1:=v0 J;rcases gv r.l with h|h
  ·exact ZR J H h v1 (e1 h v1)
  ·exact oG3 J H h v1 (e3 h v1)
 ·have kk:=(show ((d0.at (i:Int)).V 0).n=4 from sY.symm.trans rfl);have v1:=v0 J;rcases gv r.l with h|h
  ·exact asn H h v1 (e1 h v1)
  ·exact asm H h v1 (e3 h v1)
 ·exact aiP
 ·exact aiP
 ·exact aiO
 ·exact aiO
theorem Yd (hn2:n<17592186043904) (hth:fD .i64 th) (abv:fD .i64 obj): ∃(a b:D) (e1 e2 e3 e4 e5 oc:Int),B2 d0 d1 s th op obj arg tries n a e1 e2 e3 e4 e5 oc/\L 4000 [enc d0,enc d1,enc s,th,op,obj,arg,tries]=some [enc b,e1,e2,e3,e4,e5,oc]/\SQ b a:=by
 obtain⟨a,e1,e2,e3,e4,e5,oc,TT⟩:=KL (t:=th) (op:=op) (obj:=obj) (arg:=arg) (tries:=tries) h0 U G hn2 hth pb abv agi;have hf:=G.lD (by omega:n<17592186044415);by_cases A:Acc d0 d1 s th op obj
 ·obtain⟨sj,o,c,dn,g,r,v,T,hL⟩:=Aq (arg:=arg) (tries:=tries) h0 U G.wd hf pb A;obtain⟨o',c',EE,g',r',v',T',To,hv'⟩:=vz G A.o0 A.o1;obtain⟨ys,hY,vI⟩:=afH (tries:=tries) h0 U G hn pb agi A T' To hv' sj;have hE:=TT.eq
  obtain⟨z1,z2,z3,z4,z5,z6⟩ : o=o'/\c=c'/\dn=EE/\g=g'/\r=r'/\v=v':=by
   have:=T.is.symm.trans T'.is;simp only [dL,D.p.injEq,D.i.injEq,and_true] at this
   grind
  subst z1 z2 z3 z4 z5 z6;rw [AK,hE] at hL;obtain⟨X,hX⟩ : ∃X,act (Mx d0 obj) (Mo d0 s obj) th op arg tries o c dn g r v=X:=⟨_,rfl⟩;rw [hX] at hL vI;refine⟨a,?_⟩
  cases X with
  |n7=> exact amc
  |wM=> exact amc
  |res o c dn g r v m a' oc'=> exact amc
 ·have hL:=Fw (arg:=arg) (tries:=tries) h0 U G.wd hf pb A;obtain⟨ys,hY,s',q,rfl⟩:=anR (tries:=tries) (arg:=arg) h0 U G hn pb A;have hE:=TT.eq;rw [hE] at hL;simp only [ah,List.cons.injEq,and_true] at hL;obtain⟨p,rfl,rfl,rfl,rfl,rfl,rfl⟩:=hL;exact⟨a,s',_,_,_,_,_,_,TT,hY,by rw [ff p]; exact q⟩
end
section
variable {s s' a b d:D} {n:Nat}
theorem sy (h:xx s s'):xx s' s:=⟨h.len.symm,fun i=> ⟨(h.vP i).c0.symm,(h.vP i).c1.symm,(h.vP i).c2.symm,(h.vP i).c3.symm,(h.vP i).c4.symm,(h.vP i).c5.symm⟩⟩
theorem tr {c:D} (h:xx a b) (h':xx b c):xx a c:=⟨h'.len.trans h.len,fun i=> ⟨(h.vP i).c0.trans (h'.vP i).c0,(h.vP i).c1.trans (h'.vP i).c1,(h.vP i).c2.trans (h'.vP i).c2,(h.vP i).c3.trans (h'.vP i).c3,(h.vP i).c4.trans (h'.vP i).c4,(h.vP i).c5.trans (h'.vP i).c5⟩⟩
theorem afB (G:Gs a n) (hn:n<17592186044000) (h:xx a b):L 200 [enc a,enc b]=some [1]:=by obtain⟨c,U,_,h3⟩:=I6 a b G.wd.len (fun x hx=>by have:=G.rows x hx; omega);have hI: ∀{x y:D},x.l=y.l->XC x y:=fun {x y} e=> ⟨by rw [e],fun k U Z _=>by simp only [e]⟩;rw [U,h3.2 ⟨h.len.symm,fun k U Z _=>?_⟩];have q:=h.vP k;rw [bF U,bF Z] at q;exact⟨q.c0,q.c1,by rw [q.c2],q.c3,hI q.c4,hI q.c5⟩
theorem Lv (h:Wd (.sl 0) d):Wd (.sl 0) (mS d):=by
 unfold mS;split
 ·exact .wL 0
 grind
theorem apt {x:D} (h:iY x):iY (jL x):=by
 obtain⟨o,c,d,g,r,v,rfl,U,Z,h3,h4,h5,h6⟩:=h;unfold jL;simp only [dN];refine⟨o,c,(if d=0 then 0 else 1),g,mS r,mS v,rfl,U,Z,?_,h4,Lv h5,Lv h6⟩
 grind
theorem at1 (G:Gs s n) (hn:n<17592186044000): ∃s1:D,L 3950 [enc s]=some [enc s1]/\xx s1 s/\Gs s1 n:=by
 have hs:s.l.length<=1759218604390:=by
  have:=G.wd.room;have e:l4 7=80:=rfl
  grind
 have ht:=G.wd.j7;have hc: ∀x∈s.l,Ad x:=fun x hx=> ⟨by have:=(G.rows x hx).1; omega,by have:=(G.rows x hx).2; omega⟩;have eR:=zn s hs hc;obtain⟨s1,U,Z,_⟩:=zR hs ht hc;refine⟨s1,U,Z,?_⟩;rw [U] at eR;simp only [ah,List.cons.injEq,and_true] at eR;rw [ff eR];split
 ·exact⟨.nil 7,fun x hx=>by simp [D.l] at hx⟩
 ·rename_i hz;refine⟨xI (fun x hx=>?_) (fun h=>hz (by simpa using congrArg List.length h)) (by rw [a8]; omega),fun x hx=>?_⟩
  ·obtain⟨y,hy,rfl⟩:=aQ.1 hx;exact apt (ht y hy)
  ·rw [bz] at hx;obtain⟨y,hy,rfl⟩:=aQ.1 hx;have e4:(jL y).V 4=mS (y.V 4):=by unfold jL; rw [dN]; rfl
   have e5:(jL y).V 5=mS (y.V 5):=by unfold jL; rw [dN]; rfl
   rw [e4,e5,vu,vu];exact G.rows y hy
theorem abR: ∀(m:Nat) (l:List D),nV (m:Int) l->l.length<=m
 |0,l,h=>by
  cases l with
  |nil=>simp
  |cons a l=>have:=h.1 a (awO ..); omega
 |m+1,l,h=>by
  have hw:nV (m:Int) (wo (m:Int) l):=by
   refine⟨fun x hx=>?_,?_⟩
   ·unfold wo at hx;rw [axh] at hx;have:=h.1 x hx.1
    grind
   ·unfold wo;exact h.2.sublist (List.Sublist.map _ List.filter_sublist)
  have ih:=abR m _ hw;rcases kS (dL l) (m:Int) with ⟨_,sX⟩|⟨k,hk,_,Z,_⟩
  ·rw [bz] at sX;rw [xG sX] at ih;omega
  ·simp only [bz] at hk Z;rw [Rz l _ k hk h.2 Z] at ih
   grind
section
variable {d0 d1:D} (h0:Wd (.sl 3) d0) (U:Wd (.sl 4) d1)
include h0 U
theorem FY (h:xx s s') (G:Gs s n) (G':Gs s' n) (hn:n<17592186044000) (R:L 350 [enc d0,enc d1,enc s]=some [1]):L 350 [enc d0,enc d1,enc s']=some [1]:=by exact aqH
theorem Oa (G:Gs s n) (hn:n<17592186044000) (R:L 350 [enc d0,enc d1,enc s]=some [1]):Gs s 1048576:=by
 obtain⟨hC,ok,hle⟩:=qz h0 U G J R;refine⟨G.wd,fun x hx=>?_⟩;obtain⟨i,hi,rfl⟩:=axi hx;obtain⟨o,c,dn,g,r,v,T,_⟩:=vz G (i:=(i:Int)) J J;have P:=FP h0 U G J R (i:=(i:Int)) J J T;have hid:i<d0.l.length:=J
 have hO:=ok.2.2 _ (aq hid);rw [bF hid] at P;rw [Lb (uA hO)] at P;obtain⟨P1,P2,P3⟩:=P;have hr:=abR d1.l.length r.l P2;have h16:=ok.2.1;have hN:=(uA hO).1;have e4:(s.l[i]).V 4=r:=by rw [bF hi] at T; rw [T.is,dN]; rfl
 have e5:(s.l[i]).V 5=v:=by rw [bF hi] at T; rw [T.is,dN]; rfl
 rw [e4,e5];refine⟨J,?_⟩;have p1:=P1.2.2.2.2.2.2.1;have p2:=P3.2
 grind
theorem HP (s:D) (hs:s.l.length<=140737488351232): ∀(k i:Nat) (x:Int),i+k=s.l.length->bK 3801 [enc s,x,(s.l.length:Int),(i:Int)] vG
 |0,i,x,h=>by
  have c1: ¬(i:Int)<(s.l.length:Int):=J
  refine bK.of ?_;rw [acX];simp only [L?,zz,c1];exact .ite (fun _=> .out sV) fun _=> .out zD
 |k+1,i,x,h=>by
  have c1:(i:Int)<(s.l.length:Int):=J
  have c2: ¬(i:Int)<0:=J
  have w:=bx (n:=i) J;refine bK.of ?_;rw [acX];simp only [L?,zz,c1,c2,w];exact .jump (HP s hs k (i+1) _ J)
end
end
theorem V8:kindOf 24=4/\kindOf 25=5:=⟨rfl,rfl⟩
section
variable {d0 d1 k:D} (hk:Wd (.sl 8) k) (hle:k.l.length=d1.l.length)
include hk hle
theorem VD (s:D): ∀(j i:Nat),i+j=k.l.length->bK 22201 [(i:Int),enc d0,enc d1,enc s,enc k] (Ey (∀(n:Nat) (hn:n<k.l.length),i<=n->f? d0 (d1.l[n]'(hle▸hn)) k.l[n]))
 |0,i,hi=>by
  have c1: ¬(i:Int)<(k.l.length:Int):=J
  refine bK.of ?_;rw [Uh];simp only [FG,zz,c1];exact .out (A6 fun n hn h=>by omega)
 |j+1,i,hi=>by
  have Y:=hk.len;have cY:i<k.l.length:=J
  have hid:i<d1.l.length:=J
  have c1:(i:Int)<(k.l.length:Int):=J
  have c2: ¬((i:Int)<0):=J
  have c3:(i:Int)<(d1.l.length:Int):=J
  have w:=bx (n:=i) J;obtain⟨a,lc,w',o,g,tr,T⟩:=fq hk _ (aq cY);have hw:fD .u8 ((k.l[i]).V 2).n:=by rw [T.is,dN]; exact T.hw
  have hO:=Sq _ hw;obtain⟨ys,hL,b,rfl,ih⟩:=VD s j (i+1) J;have no: ¬f? d0 d1.l[i] k.l[i]->¬(∀(n:Nat) (hn:n<k.l.length),i<=n->f? d0 (d1.l[n]'(hle▸hn)) k.l[n]):=fun h q=>h (q i cY (au _))
  have go:f? d0 d1.l[i] k.l[i]->Ey (∀(n:Nat) (hn:n<k.l.length),i<=n->f? d0 (d1.l[n]'(hle▸hn)) k.l[n]) [b]:=fun h=> ⟨b,rfl,ih.imp (fun q=> ⟨q.1,fun z=>q.2 fun n hn hni=>z n hn J⟩) fun q=> ⟨q.1,fun n hn hni=>by
   by_cases he:n=i
   ·subst he; exact h
   ·exact q.2 n hn J⟩⟩
  clear ih;unfold f? OkT at no go;have k1:=V8.1;have k2:=V8.2;refine bK.of ?_;rw [Uh];by_cases h24:((k.l[i]).V 2).n=24
  ·rw [h24,k1] at hO;simp only [FG,zz,c1,c2,c3,bF cY,bF hid,w,h24,hO,Int.reduceEq];exact al7
  ·by_cases h25:((k.l[i]).V 2).n=25
   ·rw [h25,k2] at hO;simp only [FG,zz,c1,c2,c3,bF cY,bF hid,w,h25,hO,Int.reduceEq];exact al7
   ·simp only [FG,zz,c1,c2,c3,bF cY,bF hid,w,h24,h25];exact al7
end
theorem N9 {d0 d1 s k:D} {n:Nat} (h0:Wd (.sl 3) d0) (U:Wd (.sl 4) d1) (S:Sw s k n) (hn:n<17592186044000):bK 22200 [enc d0,enc d1,enc s,enc k] (Ey (MR d0 d1 s k)):=by
 obtain⟨b,hb,hA,hR,_⟩:=uz h0 U S.g hn;refine bK.of ?_;rw [adf];simp only [O_,zz,hR];refine .ite (fun h=> .out (kA fun q=>?_)) (fun h=> .ite (fun Y=>?_) (fun Y=> .out (kA fun q=>?_)))
 ·have:=q.1
  grind
 ·have hle:k.l.length=d1.l.length:=J
  obtain⟨ys,hL,b',rfl,tT⟩:=VD (d0:=d0) S.wk hle s k.l.length 0 J;refine .jump ⟨_,hL,b',rfl,?_⟩;have vJ:b=1:=J
  subst vJ;rcases tT with ⟨q,tT⟩|⟨q,tT⟩
  ·exact .inl ⟨q,fun h=>tT fun n hn _=>h.2.2 n hn⟩
  ·exact .inr ⟨q,hA,hle,fun n hn=>tT n hn (aw1 _)⟩
 ·have:=q.2.1;omega
theorem zt {d0 d1 s k:D} {n:Nat} (h0:Wd (.sl 3) d0) (U:Wd (.sl 4) d1) (S:Sw s k n) (hn:n<17592186044000) (t:Int):L 1550 [enc d0,enc d1,enc s,enc k,t]=some [0]↔¬(0<=t/\t<(d1.l.length:Int)/\MR d0 d1 s k):=af9 (FX (k:=k) h0 U (S.g.lD J).rows U.len t)
theorem xD {d0 d1 s k:D} {n:Nat} (h0:Wd (.sl 3) d0) (U:Wd (.sl 4) d1) (S:Sw s k n) (hn:n<17592186044000) (t:Int):L 1550 [enc d0,enc d1,enc s,enc k,t]=some [1]↔(0<=t/\t<(d1.l.length:Int)/\MR d0 d1 s k):=LN (FX (k:=k) h0 U (S.g.lD J).rows U.len t)
theorem fP:((1:Int)=0)=False:=ad
section
variable {d0 d1 s k:D} {n:Nat} {t:Int} (h0:Wd (.sl 3) d0) (U:Wd (.sl 4) d1) (S:Sw s k n) (hn:n<17592186044000)
include h0 U S hn
theorem abQ (h:L 1550 [enc d0,enc d1,enc s,enc k,t]=some [0]):L 22300 [enc d0,enc d1,enc s,enc k,t]=some [0]:=by
 rw [zt h0 U S J] at h;obtain⟨ys,hL,b,rfl,hb⟩:=N9 h0 U S J
 have:bK 22300 [enc d0,enc d1,enc s,enc k,t] (·= [0]):=by refine bK.of ?_;rw [Uf];simp only [RP,zz,hL];exact ais
 exact rX
theorem Yy (h:L 1550 [enc d0,enc d1,enc s,enc k,t]=some [0]):L 22350 [enc d0,enc d1,enc s,enc k,t]=some [0,0,0,0,0]:=by
 rw [zt h0 U S J] at h;obtain⟨ys,hL,b,rfl,hb⟩:=N9 h0 U S J
 have:bK 22350 [enc d0,enc d1,enc s,enc k,t] (·= [0,0,0,0,0]):=by refine bK.of ?_;rw [Ue];simp only [wg,zz,hL];exact ais
 exact rX
theorem aaP (h:L 1550 [enc d0,enc d1,enc s,enc k,t]=some [0]):L 1800 [enc d0,enc d1,enc s,enc k,t]=some [0,0,0,0,0]:=by rw [bB,adp];simp only [Q!,zz,h];rfl
variable {x:KT} (R:Rs d0 d1 s k t x)
include R
theorem tG:L 22200 [enc d0,enc d1,enc s,enc k]=some [1]:=by have h:=(xD h0 U S J t).1 R.yes;exact (LN (N9 h0 U S J)).2 h.2.2
theorem anM:Iz d0 d1:=by
 have h:=(xD h0 U S J t).1 R.yes;obtain⟨b,_,hA,_,hc⟩:=uz h0 U S.g J;have:=h.2.2.1
 grind
theorem rB:L 22300 [enc d0,enc d1,enc s,enc k,t]=some [fh d1 t x]:=by
 have hr:=tG h0 U S hn R;have c1: ¬t<0:=by have:=R.r.t0; omega
 have c2:=R.r.t1;have ht:=R.ht;have hk:=R.hk;unfold fh Nc;rw [bB,Uf];simp only [RP,zz,hr,fP,c1,c2,ht,hk,zg,ax];exact aqf
theorem OF:L 1800 [enc d0,enc d1,enc s,enc k,t]=some (fS d1 t x):=by
 have hN:=Lx (s:=s) R.c R.hk R.ht R.r;have hy:=R.yes
 have key: ∀ys:List Int,fS d1 t x=ys->ys.length=5->L 1800 [enc d0,enc d1,enc s,enc k,t]=some ys:=fun ys h Y=>by
  match ys,Y with
  |[a,b,c,d,e],_=>
   rw [h] at hN;obtain⟨q,hq⟩ : ∃q:Int,q=0\/q≠0:=⟨0,.inl rfl⟩
   have he:e=0\/e=1:=by
    unfold fS at h
    grind
   have:bK 1800 [enc d0,enc d1,enc s,enc k,t] (·= [a,b,c,d,e]):=by
    refine bK.of ?_;rw [adp];simp only [Q!,zz,hy,hN,fP]
    repeat' first |exact .out (by rcases he with rfl|rfl<;>first |rfl|omega)|refine .ite (fun _=>?_) (fun _=>?_)
   obtain⟨ys,h',rfl⟩:=this;exact h'
 refine key _ rfl ?_;unfold fS
 grind
theorem ao5 {ub lc:D} (ha:Wd (.sl 6) ub) {i:Int} (i0:0<=i) (i1:i<(ub.l.length:Int)):L 22500 [((ub.at i).V 0).n,enc ((ub.at i).V 1),((ub.at i).V 2).n,enc ((ub.at i).V 3),enc lc]=some [ev (ub.at i) lc]:=by
 obtain⟨j,rfl⟩ : ∃j:Nat,i=(j:Int):=⟨i.toNat,J⟩;have hj:j<ub.l.length:=J
 obtain⟨k',s',n',AX,he,_,_,E8,Z⟩:=qG ha hj;obtain⟨z,hA,hB⟩:=C9 _ AX (au _) Z k' n' s' lc;have e1:ub.at (j:Int)=dL [.i k',s',.i n',AX]:=by rw [bF hj,he]
 unfold ev;rw [e1];simp only [zg,ax,zw,hA,hB,cT]
theorem auf (h:x.a<(Nc d1 t:Int)) (n1:((fk d1 t x).V 0).n=1):((fk d1 t x).V 6).l.length<=1:=by have hC:=anM h0 U S hn R;have ht:=hC.2.2.2 _ (R.c.at R.r.t0 R.r.t1);have hy:=ht.2.2 (fk d1 t x) (SP R.r.ok.1 h);have hi:=hy.1;rw [n1] at hi;unfold si at hi;have:=j6 ((fk d1 t x).V 1).n;omega
theorem CN:L 22350 [enc d0,enc d1,enc s,enc k,t]=some (fS d1 t x):=by
 have hr:=tG h0 U S hn R;have c1: ¬t<0:=by have:=R.r.t0; omega
 have c2:=R.r.t1;have c3: ¬x.a<0:=by have:=R.r.ok.1; omega
 have ht:=R.ht;have hk:=R.hk;unfold fS;rw [bB,Ue];by_cases w0:x.w=0
 ·by_cases a0:x.a=(Nc d1 t:Int)
  ·rw [ag w0,ag a0];unfold Nc at a0;simp only [wg,zz,hr,fP,c1,c2,ht,hk,zg,ax,w0,a0];rfl
  ·have gk:x.a<(Nc d1 t:Int):=by have:=R.r.ok.2.1; unfold Nc at a0 ⊢; omega
   have F:=R.c.inf R.r gk;have hA:=auf h0 U S hn R gk;have hE:=fun (lc:D)=>ao5 h0 U S hn R (lc:=lc) F.ar (i:=0);rw [ag w0,af a0];unfold EG;unfold fk at F hA hE ⊢;unfold Nc at gk a0;by_cases n1:((((d1.at t).V 2).at x.a).V 0).n=1
   ·have hA:=hA n1;rw [ag n1];by_cases z0:(0:Int)<(((((d1.at t).V 2).at x.a).V 6).l.length:Int)
    ·have hE:=hE x.lc J z0;have z1:(((((d1.at t).V 2).at x.a).V 6).l.length:Int)-1=0:=J
     rw [af J,z1];simp only [wg,zz,hr,fP,c1,c2,c3,ht,hk,zg,ax,w0,a0,gk,n1,z0,hE];rfl
    ·rw [ag J];simp only [wg,zz,hr,fP,c1,c2,c3,ht,hk,zg,ax,w0,a0,gk,n1,z0];rfl
   ·rw [af n1];by_cases n2:((((d1.at t).V 2).at x.a).V 0).n=2
    ·rw [ag n2];simp only [wg,zz,hr,fP,c1,c2,c3,ht,hk,zg,ax,w0,a0,gk,n2,Int.reduceEq];rfl
    ·rw [af n2];simp only [wg,zz,hr,fP,c1,c2,c3,ht,hk,zg,ax,w0,a0,gk,n1,n2];rfl
 ·rw [af w0];simp only [wg,zz,hr,fP,c1,c2,ht,hk,zg,ax,w0];rfl
end
section
variable {s1:Int}
def cK (x:D):D:=dL [.i (x.V 0).n,mS (x.V 1),.i (x.V 2).n,.i (x.V 3).n,.i (x.V 4).n,.i (x.V 5).n]
def iQ (k:D):D:=if k.l.length=0 then .i 1 else dL (k.l.map cK)
theorem rP (k:D):(iQ k).l=k.l.map cK:=by unfold iQ;exact ahk
def phK:D:=dL [.i 0,.i 1,.i 0,.i 0,.i 0,.i 0]
section
variable {s k:D} (hk:k.l.length<=2199023255500) (hc: ∀x∈k.l,(x.V 1).l.length<17592186044415)
include hk hc
theorem VE (s0:D) (s1:Int): ∀(j i:Nat) (acc:List D),i+j=k.l.length->acc.length=i->bK 22252 [(i:Int),enc s0,enc k,s1,enc (dL acc)] (·= [s1,enc (dL (acc++(k.l.drop i).map cK))])
 |0,i,acc,U,Z=>by
  have c1: ¬(i:Int)<(k.l.length:Int):=J
  refine bK.of ?_;rw [Ug,aN J];simp only [KW,zz,c1];exact Ii
 |j+1,i,acc,U,Z=>by
  have hi:i<k.l.length:=J
  have V:k.l.drop i=k.l[i]::k.l.drop (i+1):=aG hi;have ih:=VE s0 s1 j (i+1) (acc++ [cK k.l[i]]) J (by simp [Z]);have w:=bx (n:=i) J;have c1:(i:Int)<(k.l.length:Int):=J
  have c2: ¬((i:Int)<0):=J
  have c3:(acc.length:Int)<2199023255551:=J
  have q:=hc _ (aq hi);rw [bk,bn] at ih;refine bK.of ?_;rw [Ug,V,aC];have fU:=bF hi;generalize k.l[i]=x at *;have q:((x.V 1).l.length:Int)<17592186044416:=J
  unfold cK mS at ih ⊢;by_cases r1:((x.V 1).l.length:Int)=0
  ·simp only [r1,if_true] at ih ⊢;simp only [KW,zz,c1,c2,c3,w,fU,bz,r1];exact .jump ih
  ·simp only [r1,if_false] at ih ⊢;simp only [KW,zz,c1,c2,c3,w,fU,bz,q,r1];exact .jump ih
theorem asa (hs:L 3950 [enc s]=some [s1]):L 22250 [enc s,enc k]=some [s1,enc (iQ k)]:=by
 have:bK 22250 [enc s,enc k] (·= [s1,enc (iQ k)]):=by
  refine bK.of ?_;rw [ade];simp only [N?,zz,hs];refine .jump (bK.of ?_);rw [adb];unfold iQ;by_cases hz:k.l.length=0
  ·have c1: ¬(0:Int)<(k.l.length:Int):=J
   simp only [KX,zz,c1];exact .out (by rw [ag hz])
  ·have hi:0<k.l.length:=J
   have c1:(0:Int)<(k.l.length:Int):=J
   have fU:k.at 0=k.l[0]:=bF hi
   have V:k.l=k.l[0]::k.l.drop 1:=by exact NC
   have ih:=VE hk hc s s1 (k.l.length-1) 1 [cK k.l[0]] J rfl;rw [bn,<- aC,<- V] at ih;have q:=hc _ (aq hi);rw [af hz];generalize k.l[0]=x at *;have q:((x.V 1).l.length:Int)<17592186044416:=J
   unfold cK mS at ih;by_cases r1:((x.V 1).l.length:Int)=0
   ·simp only [r1,if_true] at ih;simp only [KX,zz,c1,fU,r1,pQ,aw];exact .jump ih
   ·simp only [r1,if_false] at ih;simp only [KX,zz,c1,fU,q,r1,pQ,aw];exact .jump ih
 exact rX
theorem Gz (t:Nat) (s0 s1:Int) (y6 y7 y8 y9 lR:Int): ∀(j i:Nat) (acc:List D),i+j=k.l.length->acc.length=i->t<i->
 bK 9152 [(t:Int),(i:Int),s0,enc k,s1,enc (dL acc),y6,y7,y8,y9,lR] (·= [1,(t:Int),s1,enc (dL (acc++(k.l.drop i).map cK)),y6,y7,y8,y9,lR])
 |0,i,acc,U,Z,h3=>by
  have c1: ¬(i:Int)<(k.l.length:Int):=J
  have c0: ¬(i:Int)=(t:Int):=J
  refine bK.of ?_;rw [ab7,aN J];simp only [Vg,zz,c1,c0];exact Ii
 |j+1,i,acc,U,Z,h3=>by
  have hi:i<k.l.length:=J
  have V:k.l.drop i=k.l[i]::k.l.drop (i+1):=aG hi;have ih:=Gz t s0 s1 y6 y7 y8 y9 lR j (i+1) (acc++ [cK k.l[i]]) J (by simp [Z]) J;have w:=bx (n:=i) J;have c0: ¬(i:Int)=(t:Int):=J
  have c1:(i:Int)<(k.l.length:Int):=J
  have c2: ¬((i:Int)<0):=J
  have c3:(acc.length:Int)<2199023255551:=J
  have c4:(t:Int)<(acc.length:Int):=J
  have q:=hc _ (aq hi);rw [bk,bn] at ih;refine bK.of ?_;rw [ab7,V,aC];have fU:=bF hi;generalize k.l[i]=x at *;have q:((x.V 1).l.length:Int)<17592186044416:=J
  unfold cK mS at ih ⊢;by_cases r1:((x.V 1).l.length:Int)=0
  ·simp only [r1,if_true] at ih ⊢;simp only [Vg,zz,c0,c1,c2,c3,c4,w,fU,bz,r1];exact .jump ih
  ·simp only [r1,if_false] at ih ⊢;simp only [Vg,zz,c0,c1,c2,c3,c4,w,fU,bz,q,r1];exact .jump ih
theorem Gy (t:Nat) (s0 s1:Int) (y6 y7 y8 y9 lR mF:Int): ∀(j i:Nat) (acc:List D),i+j=k.l.length->acc.length=i->t<i->
 bK 9153 [(t:Int),(i:Int),s0,enc k,s1,enc (dL acc),y6,y7,y8,y9,lR,mF] (·= [2,(t:Int),s1,enc (dL (acc++(k.l.drop i).map cK)),y6,y7,y8,y9,lR,mF])
 |0,i,acc,U,Z,h3=>by
  have c1: ¬(i:Int)<(k.l.length:Int):=J
  have c0: ¬(i:Int)=(t:Int):=J
  refine bK.of ?_;rw [ab6,aN J];simp only [Vf,zz,c1,c0];exact Ii
 |j+1,i,acc,U,Z,h3=>by
  have hi:i<k.l.length:=J
  have V:k.l.drop i=k.l[i]::k.l.drop (i+1):=aG hi;have ih:=Gy t s0 s1 y6 y7 y8 y9 lR mF j (i+1) (acc++ [cK k.l[i]]) J (by simp [Z]) J;have w:=bx (n:=i) J;have c0: ¬(i:Int)=(t:Int):=J
  have c1:(i:Int)<(k.l.length:Int):=J
  have c2: ¬((i:Int)<0):=J
  have c3:(acc.length:Int)<2199023255551:=J
  have c4:(t:Int)<(acc.length:Int):=J
  have q:=hc _ (aq hi);rw [bk,bn] at ih;refine bK.of ?_;rw [ab6,V,aC];have fU:=bF hi;generalize k.l[i]=x at *;have q:((x.V 1).l.length:Int)<17592186044416:=J
  unfold cK mS at ih ⊢;by_cases r1:((x.V 1).l.length:Int)=0
  ·simp only [r1,if_true] at ih ⊢;simp only [Vf,zz,c0,c1,c2,c3,c4,w,fU,bz,r1];exact .jump ih
  ·simp only [r1,if_false] at ih ⊢;simp only [Vf,zz,c0,c1,c2,c3,c4,w,fU,bz,q,r1];exact .jump ih
def LM (x:D):Int:=if ((x.V 1).l.length:Int)=0 then 1 else 2
def AZ (x:D):List Int:=(x.V 0).n::(if ((x.V 1).l.length:Int)=0 then [] else [enc (x.V 1)])++ [(x.V 2).n,(x.V 3).n,(x.V 4).n,(x.V 5).n]
theorem aoi (t:Nat) (ht:t<k.l.length) (s0 s1:Int) (acc:List D) (ha:acc.length=t) :
 bK 9154 [(t:Int),(t:Int),s0,enc k,s1,enc (dL acc)] (·= LM k.l[t]::(t:Int)::s1::enc (dL (acc++phK::(k.l.drop (t+1)).map cK))::AZ k.l[t]):=by
 have w:=bx (n:=t) J;have c1:(t:Int)<(k.l.length:Int):=J
 have c2: ¬((t:Int)<0):=J
 have c4:(acc.length:Int)=(t:Int):=J
 have c5:(t:Int)<2199023255551:=J
 have q:=hc _ (aq ht);have t2:=fun a b c d e=>Gz hk hc t s0 s1 a b c d e (k.l.length-(t+1)) (t+1) (acc++ [phK]) J (by simp [ha]) J;have t3:=fun a b c d e f=>Gy hk hc t s0 s1 a b c d e f (k.l.length-(t+1)) (t+1) (acc++ [phK]) J (by simp [ha]) J;rw [bk,bn] at t2 t3;refine bK.of ?_;rw [PD];have fU:=bF ht;unfold LM AZ;generalize k.l[t]=x at *;have q:((x.V 1).l.length:Int)<17592186044416:=J
 by_cases r1:((x.V 1).l.length:Int)=0
 ·simp only [IL,zz,c1,c2,c5,c4,w,fU,bz,r1,q];exact .jump (t2 _ _ _ _ _)
 ·simp only [IL,zz,c1,c2,c5,c4,w,fU,bz,r1,q];exact .jump (t3 _ _ _ _ _ _)
theorem OT (t:Nat) (ht:t<k.l.length) (s0 s1:Int): ∀(j i:Nat) (acc:List D),i+j=t->acc.length=i->
 bK 9154 [(t:Int),(i:Int),s0,enc k,s1,enc (dL acc)] (·= LM k.l[t]::(t:Int)::s1::enc (dL (acc++((k.l.drop i).take j).map cK++phK::(k.l.drop (t+1)).map cK))::AZ k.l[t])
 |0,i,acc,U,Z=>by
  grind [aoi]
 |j+1,i,acc,U,Z=>by
  have hi:i<k.l.length:=J
  have V:k.l.drop i=k.l[i]::k.l.drop (i+1):=aG hi;have ih:=OT t ht s0 s1 j (i+1) (acc++ [cK k.l[i]]) J (by simp [Z]);have w:=bx (n:=i) J;have c0: ¬(i:Int)=(t:Int):=J
  have c1:(i:Int)<(k.l.length:Int):=J
  have c2: ¬((i:Int)<0):=J
  have c3:(acc.length:Int)<2199023255551:=J
  have q:=hc _ (aq hi)
  have hap:acc++((k.l.drop i).take (j+1)).map cK=acc++ [cK k.l[i]]++((k.l.drop (i+1)).take j).map cK:=by
   grind
  rw [<- hap] at ih;refine bK.of ?_;rw [PD];have fU:=bF hi;clear hap V;generalize k.l[i]=x at *;have q:((x.V 1).l.length:Int)<17592186044416:=J
  unfold cK mS at ih;by_cases r1:((x.V 1).l.length:Int)=0
  ·simp only [r1,if_true] at ih;exact ahn
  ·simp only [r1,if_false] at ih;exact ahv
def A0 (k:D) (t:Nat):D:=dL ((k.l.take t).map cK++phK::(k.l.drop (t+1)).map cK)
theorem aa6 (t:Nat) (ht:t<k.l.length) (hs:L 3950 [enc s]=some [s1]) :
 L 9150 [(t:Int),enc s,enc k]=some (LM k.l[t]::(t:Int)::s1::enc (A0 k t)::AZ k.l[t]):=by
 have:bK 9150 [(t:Int),enc s,enc k] (·= LM k.l[t]::(t:Int)::s1::enc (A0 k t)::AZ k.l[t]):=by
  unfold A0;refine bK.of ?_;rw [WY];simp only [Vh,zz,hs];refine .jump (bK.of ?_);have hi:0<k.l.length:=J
  have c1:(0:Int)<(k.l.length:Int):=J
  have fU:k.at 0=k.l[0]:=bF hi
  have V:k.l=k.l[0]::k.l.drop 1:=by exact NC
  have q:=hc _ (aq hi);rw [WX];by_cases h0:t=0
  ·subst h0;have t2:=fun a b c d e=>Gz hk hc 0 (enc s) s1 a b c d e (k.l.length-1) 1 [phK] J rfl J;have t3:=fun a b c d e f=>Gy hk hc 0 (enc s) s1 a b c d e f (k.l.length-1) 1 [phK] J rfl J;rw [bn] at t2 t3;rw [ax2,axt,aw];have c0:(0:Int)=((0:Nat):Int):=rfl;unfold LM AZ;clear V;generalize k.l[0]=x at *;have q:((x.V 1).l.length:Int)<17592186044416:=J
   by_cases r1:((x.V 1).l.length:Int)=0
   ·simp only [IM,zz,c1,fU,r1,q,pQ,aw,<- c0];exact .jump (t2 _ _ _ _ _)
   ·simp only [IM,zz,c1,fU,r1,q,pQ,aw,<- c0];exact .jump (t3 _ _ _ _ _ _)
  ·have c0: ¬(0:Int)=(t:Int):=J
   have ih:=OT hk hc t ht (enc s) s1 (t-1) 1 [cK k.l[0]] J rfl
   have hap:(k.l.take t).map cK= [cK k.l[0]]++((k.l.drop 1).take (t-1)).map cK:=by
    obtain⟨m,rfl⟩ : ∃m,t=m+1:=⟨t-1,J⟩
    grind
   rw [<- hap] at ih;clear hap V;generalize k.l[0]=x at *;have ih:bK 9154 [(t:Int),1,enc s,enc k,s1,enc (dL [cK x])] _:=ih;exact aqz
 exact rX
theorem aa5 (t:Int) (ht:t<0\/(k.l.length:Int)<=t) (s0 s1:Int): ∀(j i:Nat) (acc:List D),i+j=k.l.length->acc.length=i->
 bK 9154 [t,(i:Int),s0,enc k,s1,enc (dL acc)] (·= [3,t,s1,enc (dL (acc++(k.l.drop i).map cK))])
 |0,i,acc,U,Z=>by
  have c1: ¬(i:Int)<(k.l.length:Int):=J
  refine bK.of ?_;rw [PD,aN J];simp only [IL,zz,c1];exact ait
 |j+1,i,acc,U,Z=>by
  have hi:i<k.l.length:=J
  have V:k.l.drop i=k.l[i]::k.l.drop (i+1):=aG hi;have ih:=aa5 t ht s0 s1 j (i+1) (acc++ [cK k.l[i]]) J (by simp [Z]);have w:=bx (n:=i) J;have c0: ¬(i:Int)=t:=J
  have c1:(i:Int)<(k.l.length:Int):=J
  have c2: ¬((i:Int)<0):=J
  have c3:(acc.length:Int)<2199023255551:=J
  have q:=hc _ (aq hi);rw [bk,bn] at ih;refine bK.of ?_;rw [PD,V,aC];have fU:=bF hi;generalize k.l[i]=x at *;have q:((x.V 1).l.length:Int)<17592186044416:=J
  unfold cK mS at ih ⊢;by_cases r1:((x.V 1).l.length:Int)=0
  ·simp only [r1,if_true] at ih ⊢;exact ahn
  ·simp only [r1,if_false] at ih ⊢;exact ahv
theorem asH (t:Int) (ht:t<0\/(k.l.length:Int)<=t) (hs:L 3950 [enc s]=some [s1]) :
 L 9150 [t,enc s,enc k]=some [3,t,s1,enc (iQ k)]\/L 9150 [t,enc s,enc k]=some [0,t,s1]/\iQ k= .i 1:=by
 by_cases hz:k.l.length=0
 ·refine .inr ⟨?_,by unfold iQ; rw [ag hz]⟩;have c1: ¬(0:Int)<(k.l.length:Int):=J
  have:bK 9150 [t,enc s,enc k] (·= [0,t,s1]):=by refine bK.of ?_;rw [WY];simp only [Vh,zz,hs];refine .jump (bK.of ?_);rw [WX];simp only [IM,zz,c1];exact k!
  exact rX
 ·refine .inl ?_
  have:bK 9150 [t,enc s,enc k] (·= [3,t,s1,enc (iQ k)]):=by
   refine bK.of ?_;rw [WY];simp only [Vh,zz,hs];refine .jump (bK.of ?_);have hi:0<k.l.length:=J
   have c0: ¬(0:Int)=t:=J
   have c1:(0:Int)<(k.l.length:Int):=J
   have fU:k.at 0=k.l[0]:=bF hi
   have V:k.l=k.l[0]::k.l.drop 1:=by exact NC
   have q:=hc _ (aq hi);have ih:=aa5 hk hc t ht (enc s) s1 (k.l.length-1) 1 [cK k.l[0]] J rfl;rw [bn,<- aC,<- V] at ih;unfold iQ;rw [WX,af hz];clear V;generalize k.l[0]=x at *;have ih:bK 9154 [t,1,enc s,enc k,s1,enc (dL [cK x])] _:=ih;exact aqz
  exact rX
end
end
abbrev vi (s b:D) (oc:Int):D:=if oc=0 then s else b
section
variable {d0 d1 s b k:D} {t op obj arg tries e1 e2 e3 e4 e5 oc:Int} {x:KT} (C:Cd d0 d1) (ht:t<(k.l.length:Int)) (R:Rt d0 d1 t x)
 (hB:L 4000 [enc d0,enc d1,enc s,t,op,obj,arg,tries]=some [enc b,e1,e2,e3,e4,e5,oc]) (hx:x.w=0->x.a<(Nc d1 t:Int))
include C ht R hB hx
set_option maxHeartbeats 4000000 in
theorem aeA:L 24050 [enc d0,enc d1,enc s,enc k,t,op,obj,arg,tries,x.a,enc x.lc,x.w,x.o,x.g,x.tr]=some (0::enc d0::enc d1::enc s::enc k::t::op::obj::arg::tries::x.a::enc x.lc::x.w::x.o::x.g::x.tr::enc (vi s b oc)::(Ix e1 e2 e3 e4 e5 oc++ [oc,(eI (fk d1 t x) x op e2 e3 e4 oc).a,enc (eI (fk d1 t x) x op e2 e3 e4 oc).lc,(eI (fk d1 t x) x op e2 e3 e4 oc).w,(eI (fk d1 t x) x op e2 e3 e4 oc).o,(eI (fk d1 t x) x op e2 e3 e4 oc).g,(eI (fk d1 t x) x op e2 e3 e4 oc).tr])):=by
 have c1: ¬t<0:=by have:=R.t0; omega
 have c2:=R.t1;have c3: ¬x.a<0:=by have:=R.ok.1; omega
 have q0:=R.ok.2.2.2.1;have q1:=R.ok.2.2.2.2.1;by_cases o0:oc=0
 ·subst o0;have e:Ix e1 e2 e3 e4 e5 0= [0,0,0,0,0]:=rfl
  have key:bK 24050 [enc d0,enc d1,enc s,enc k,t,op,obj,arg,tries,x.a,enc x.lc,x.w,x.o,x.g,x.tr] (·= 0::enc d0::enc d1::enc s::enc k::t::op::obj::arg::tries::x.a::enc x.lc::x.w::x.o::x.g::x.tr::enc (vi s b 0)::(Ix e1 e2 e3 e4 e5 0++ [0,(eI (fk d1 t x) x op e2 e3 e4 0).a,enc (eI (fk d1 t x) x op e2 e3 e4 0).lc,(eI (fk d1 t x) x op e2 e3 e4 0).w,(eI (fk d1 t x) x op e2 e3 e4 0).o,(eI (fk d1 t x) x op e2 e3 e4 0).g,(eI (fk d1 t x) x op e2 e3 e4 0).tr])):=by
   rw [e];unfold eI vi;refine bK.of ?_;rw [Mw];by_cases p4:op=4
   ·subst p4;have wt:IntKind.i64.wrap (x.tr+1)=x.tr+1:=fg J J;simp only [Ci,zz,hB,c1,ht,wt,if_true,eq_self,aK,aw];exact ahF
   ·simp only [Ci,zz,hB,c1,ht,p4,if_true,if_false,aK,aw];exact .out rfl
  exact U3
 ·have e:Ix e1 e2 e3 e4 e5 oc= [e1,e2,e3,e4,e5]:=af o0;have ea:vi s b oc=b:=af o0;by_cases w0:x.w=0
  ·have c4:=hx w0;have F:=C.inf R c4;have ok:=F.ok;have Is:(x.lc.l.length:Int)=(((d1.at t).V 1).l.length:Int):=R.ok.2.2.1;have hnc:((d1.at t).V 2).l.length<=140737488351232:=(C.code R.t0 R.t1).len;unfold Nc at c4;have hw:IntKind.i64.wrap (x.a+1)=x.a+1:=fg J J;unfold OkI fk at ok
   have key:bK 24050 [enc d0,enc d1,enc s,enc k,t,op,obj,arg,tries,x.a,enc x.lc,x.w,x.o,x.g,x.tr] (·= 0::enc d0::enc d1::enc s::enc k::t::op::obj::arg::tries::x.a::enc x.lc::x.w::x.o::x.g::x.tr::enc (vi s b oc)::(Ix e1 e2 e3 e4 e5 oc++ [oc,(eI (fk d1 t x) x op e2 e3 e4 oc).a,enc (eI (fk d1 t x) x op e2 e3 e4 oc).lc,(eI (fk d1 t x) x op e2 e3 e4 oc).w,(eI (fk d1 t x) x op e2 e3 e4 oc).o,(eI (fk d1 t x) x op e2 e3 e4 oc).g,(eI (fk d1 t x) x op e2 e3 e4 oc).tr])):=by
    rw [e,ea];unfold eI fk;refine bK.of ?_;rw [Mw];by_cases n1:((((d1.at t).V 2).at x.a).V 0).n=1
    ·have sj:((((d1.at t).V 2).at x.a).V 3).n= -1\/0<=((((d1.at t).V 2).at x.a).V 3).n/\((((d1.at t).V 2).at x.a).V 3).n<(x.lc.l.length:Int):=by
      grind
     simp only [Ci,zz,hB,c1,ht,c2,c3,c4,o0,w0,hw,n1,if_true,if_false,true_and];exact aqy
    ·simp only [Ci,zz,hB,c1,ht,c2,c3,c4,o0,w0,hw,n1,if_true,if_false,false_and];exact amh
   exact U3
  ·have key:bK 24050 [enc d0,enc d1,enc s,enc k,t,op,obj,arg,tries,x.a,enc x.lc,x.w,x.o,x.g,x.tr] (·= 0::enc d0::enc d1::enc s::enc k::t::op::obj::arg::tries::x.a::enc x.lc::x.w::x.o::x.g::x.tr::enc (vi s b oc)::(Ix e1 e2 e3 e4 e5 oc++ [oc,(eI (fk d1 t x) x op e2 e3 e4 oc).a,enc (eI (fk d1 t x) x op e2 e3 e4 oc).lc,(eI (fk d1 t x) x op e2 e3 e4 oc).w,(eI (fk d1 t x) x op e2 e3 e4 oc).o,(eI (fk d1 t x) x op e2 e3 e4 oc).g,(eI (fk d1 t x) x op e2 e3 e4 oc).tr])):=by
    rw [e,ea];unfold eI;refine bK.of ?_;rw [Mw];simp only [Ci,zz,hB,c1,ht,o0,w0,if_true,if_false,aK,aw];exact .out rfl
   exact U3
set_option maxHeartbeats 4000000 in
theorem aeB (hz:x.lc.l.length=0):L 24000 [enc d0,enc d1,enc s,enc k,t,op,obj,arg,tries,x.a,x.w,x.o,x.g,x.tr]=some (0::enc d0::enc d1::enc s::enc k::t::op::obj::arg::tries::x.a::x.w::x.o::x.g::x.tr::enc (vi s b oc)::(Ix e1 e2 e3 e4 e5 oc++ [oc,(eI (fk d1 t x) x op e2 e3 e4 oc).a,(eI (fk d1 t x) x op e2 e3 e4 oc).w,(eI (fk d1 t x) x op e2 e3 e4 oc).o,(eI (fk d1 t x) x op e2 e3 e4 oc).g,(eI (fk d1 t x) x op e2 e3 e4 oc).tr]))/\(eI (fk d1 t x) x op e2 e3 e4 oc).lc=x.lc:=by
 have c1: ¬t<0:=by have:=R.t0; omega
 have c2:=R.t1;have c3: ¬x.a<0:=by have:=R.ok.1; omega
 have q0:=R.ok.2.2.2.1;have q1:=R.ok.2.2.2.2.1;by_cases o0:oc=0
 ·subst o0;have e:Ix e1 e2 e3 e4 e5 0= [0,0,0,0,0]:=rfl
  have key:bK 24000 [enc d0,enc d1,enc s,enc k,t,op,obj,arg,tries,x.a,x.w,x.o,x.g,x.tr] (·= 0::enc d0::enc d1::enc s::enc k::t::op::obj::arg::tries::x.a::x.w::x.o::x.g::x.tr::enc (vi s b 0)::(Ix e1 e2 e3 e4 e5 0++ [0,(eI (fk d1 t x) x op e2 e3 e4 0).a,(eI (fk d1 t x) x op e2 e3 e4 0).w,(eI (fk d1 t x) x op e2 e3 e4 0).o,(eI (fk d1 t x) x op e2 e3 e4 0).g,(eI (fk d1 t x) x op e2 e3 e4 0).tr])):=by
   rw [e];unfold eI vi;refine bK.of ?_;rw [My];by_cases p4:op=4
   ·subst p4;have wt:IntKind.i64.wrap (x.tr+1)=x.tr+1:=fg J J;simp only [Cj,zz,hB,c1,ht,wt,if_true,eq_self,aK,aw];exact ahF
   ·simp only [Cj,zz,hB,c1,ht,p4,if_true,if_false,aK,aw];exact .out rfl
  obtain⟨ys,h,rfl⟩:=key
  grind [eI]
 ·have e:Ix e1 e2 e3 e4 e5 oc= [e1,e2,e3,e4,e5]:=af o0;have ea:vi s b oc=b:=af o0;by_cases w0:x.w=0
  ·have c4:=hx w0;have F:=C.inf R c4;have ok:=F.ok;have Is:(x.lc.l.length:Int)=(((d1.at t).V 1).l.length:Int):=R.ok.2.2.1;have hnc:((d1.at t).V 2).l.length<=140737488351232:=(C.code R.t0 R.t1).len;unfold Nc at c4;have hw:IntKind.i64.wrap (x.a+1)=x.a+1:=fg J J;unfold OkI fk at ok
   have key:bK 24000 [enc d0,enc d1,enc s,enc k,t,op,obj,arg,tries,x.a,x.w,x.o,x.g,x.tr] (·= 0::enc d0::enc d1::enc s::enc k::t::op::obj::arg::tries::x.a::x.w::x.o::x.g::x.tr::enc (vi s b oc)::(Ix e1 e2 e3 e4 e5 oc++ [oc,(eI (fk d1 t x) x op e2 e3 e4 oc).a,(eI (fk d1 t x) x op e2 e3 e4 oc).w,(eI (fk d1 t x) x op e2 e3 e4 oc).o,(eI (fk d1 t x) x op e2 e3 e4 oc).g,(eI (fk d1 t x) x op e2 e3 e4 oc).tr])):=by
    rw [e,ea];unfold eI fk;refine bK.of ?_;rw [My];by_cases n1:((((d1.at t).V 2).at x.a).V 0).n=1
    ·have sj:((((d1.at t).V 2).at x.a).V 3).n= -1\/0<=((((d1.at t).V 2).at x.a).V 3).n/\((((d1.at t).V 2).at x.a).V 3).n<(x.lc.l.length:Int):=by
      grind
     simp only [Cj,zz,hB,c1,ht,c2,c3,c4,o0,w0,hw,n1,if_true,if_false,true_and];exact aqy
    ·simp only [Cj,zz,hB,c1,ht,c2,c3,c4,o0,w0,hw,n1,if_true,if_false,false_and];exact amh
   obtain⟨ys,h,rfl⟩:=key;refine⟨h,?_⟩;unfold eI fk
   grind
  ·have key:bK 24000 [enc d0,enc d1,enc s,enc k,t,op,obj,arg,tries,x.a,x.w,x.o,x.g,x.tr] (·= 0::enc d0::enc d1::enc s::enc k::t::op::obj::arg::tries::x.a::x.w::x.o::x.g::x.tr::enc (vi s b oc)::(Ix e1 e2 e3 e4 e5 oc++ [oc,(eI (fk d1 t x) x op e2 e3 e4 oc).a,(eI (fk d1 t x) x op e2 e3 e4 oc).w,(eI (fk d1 t x) x op e2 e3 e4 oc).o,(eI (fk d1 t x) x op e2 e3 e4 oc).g,(eI (fk d1 t x) x op e2 e3 e4 oc).tr])):=by
    rw [e,ea];unfold eI;refine bK.of ?_;rw [My];simp only [Cj,zz,hB,c1,ht,o0,w0,if_true,if_false,aK,aw];exact .out rfl
   obtain⟨ys,h,rfl⟩:=key
   grind [eI]
end
section
variable {x:D}
def cS (s:D):D:=if s.l.length=0 then .i 1 else dL (s.l.map jL)
theorem at4 (s:D):(cS s).l=s.l.map jL:=by unfold cS;exact ahk
theorem SJ (d:D):mS (mS d)=mS d:=by
 unfold mS
 grind
theorem apu (h:iY x):jL (jL x)=jL x:=by
 obtain⟨o,c,d,g,r,v,rfl,_,_,V,_⟩:=h
 have e:(if d=0 then (0:Int) else 1)=d:=by rcases V with rfl|rfl<;>rfl
 unfold jL;simp only [zg,ax,zw,SJ,e]
theorem at7 (x:D):cK (cK x)=cK x:=by unfold cK;simp only [zg,ax,zw,SJ]
theorem at5 {s:D} (h: ∀x∈s.l,iY x):cS (cS s)=cS s:=by
 have e:(cS s).l.map jL=s.l.map jL:=by rw [at4,axd];exact axn fun x hx=>apu (h x hx)
 have e2:(cS s).l.length=s.l.length:=by rw [at4,a8]
 show (if (cS s).l.length=0 then D.i 1 else dL ((cS s).l.map jL))=_;rw [e,e2];rfl
theorem aen (k:D):iQ (iQ k)=iQ k:=by
 have e:(iQ k).l.map cK=k.l.map cK:=by rw [rP,axd];exact axn fun x _=>at7 x
 have e2:(iQ k).l.length=k.l.length:=by rw [rP,a8]
 show (if (iQ k).l.length=0 then D.i 1 else dL ((iQ k).l.map cK))=_;rw [e,e2];rfl
abbrev nX (x:KT):KT:={ x with lc:=mS x.lc }
theorem Zl (x:KT):cK x.d=(nX x).d:=by unfold cK;simp only [KT.d,zg,ax,zw]
theorem at6 {a:Int} {lc:D} {w o g tr:Int} (T:Kt x a lc w o g tr):Kt (cK x) a (mS lc) w o g tr:=by refine⟨?_,T.ha,Lv T.Y,T.hw,T.ho,T.hg,T.ht⟩;rw [T.is];unfold cK;simp only [zg,ax,zw]
theorem EX (d:D):(mS d).l.length=d.l.length:=by rw [vu]
section
variable {s k:D} {n:Nat} (S:Sw s k n) (hn:n<17592186044000)
include S hn
theorem Sw.cnd:(k.l.length<=2199023255500/\∀x∈k.l,(x.V 1).l.length<17592186044415)/\s.l.length<=1759218604390/\∀x∈s.l,Ad x:=by
 refine⟨⟨?_,fun x hx=>?_⟩,?_,fun x hx=> ⟨by have:=(S.g.rows x hx).1; omega,by have:=(S.g.rows x hx).2; omega⟩⟩
 ·have:=S.wk.room;have e:l4 8=64:=rfl
  grind
 ·obtain⟨a,lc,w,o,g,tr,T⟩:=fq S.wk x hx;rw [T.is,dN];have:=T.Y.room;have e:l4 0=8:=rfl
  grind
 ·have:=S.g.wd.room;have e:l4 7=80:=rfl
  grind
theorem PZ:L 3950 [enc s]=some [enc (cS s)]:=zn s (S.cnd hn).2.1 (S.cnd hn).2.2
theorem ad8:L 22250 [enc s,enc k]=some [enc (cS s),enc (iQ k)]:=asa (S.cnd hn).1.1 (S.cnd hn).1.2 (PZ S hn)
theorem rI:xx (cS s) s/\Sx (cS s) (iQ k) n:=by
 obtain⟨s1,h,hq,G⟩:=at1 S.g hn;rw [PZ S hn] at h;simp only [ah,List.cons.injEq,and_true] at h;have e:=ff h;subst e;refine⟨hq,G,?_,?_,?_⟩
 ·unfold iQ;split
  ·exact .nil 8
  ·rename_i hz;refine Fu (fun x hx=>?_) (fun h=>hz (by simpa using congrArg List.length h)) ?_
   ·obtain⟨y,hy,rfl⟩:=aQ.1 hx;obtain⟨a,lc,w,o,g,tr,T⟩:=fq S.wk y hy;exact⟨a,mS lc,w,o,g,tr,at6 T⟩
   ·have:=S.wk.room;have e:l4 8=64:=rfl
    grind
 ·unfold cS;exact aiF
 ·unfold iQ;exact aiF
end
theorem HL {k:D} {t:Int} (t0:0<=t) (t1:t<(k.l.length:Int)):(iQ k).at t=cK (k.at t):=by obtain⟨i,rfl⟩ : ∃i:Nat,t=(i:Int):=⟨t.toNat,J⟩;rw [eE,rP,bg,aM J,bF (by omega:i<k.l.length)];rfl
theorem aj2 (d0 x y:D):f? d0 x (cK y)↔f? d0 x y:=by unfold f? cK;simp only [zg,ax,zw,EX]
section
variable {d0 d1 s k:D} {n:Nat} (h0:Wd (.sl 3) d0) (U:Wd (.sl 4) d1) (S:Sw s k n) (hn:n<17592186044000)
include h0 U S hn
theorem SO:MR d0 d1 (cS s) (iQ k)↔MR d0 d1 s k:=by
 obtain⟨hq,S1⟩:=rI S J;have Y:(iQ k).l.length=k.l.length:=by rw [rP,a8]
 have ki: ∀(i:Nat) (h:i<k.l.length),(iQ k).l[i]'J=cK k.l[i]:=fun i h=>by simp only [rP,axR]
 refine⟨fun M=> ⟨FY h0 U hq S1.g S.g J M.1,by have:=M.2.1; omega,fun i hi=>?_⟩,fun M=> ⟨FY h0 U (sy hq) S.g S1.g J M.1,by have:=M.2.1; omega,fun i hi=>?_⟩⟩
 ·have:=M.2.2 i J;rw [ki i hi] at this;exact (aj2 ..).1 this
 ·rw [ki i J];exact (aj2 ..).2 (M.2.2 i J)
variable {t:Int}
theorem asv:L 1550 [enc d0,enc d1,enc (cS s),enc (iQ k),t]=some [0]↔L 1550 [enc d0,enc d1,enc s,enc k,t]=some [0]:=by rw [zt h0 U S J,zt h0 U (rI S J).2.sw J,SO h0 U S hn]
theorem So {x:KT} (R:Rs d0 d1 s k t x):Rs d0 d1 (cS s) (iQ k) t (nX x):=by
 have Y:(iQ k).l.length=k.l.length:=by rw [rP,a8]
 refine⟨R.c,⟨R.r.t0,R.r.t1,?_,Lv R.r.Y,R.r.hg⟩,?_,by rw [Y]; exact R.ht,?_⟩
 ·have:=R.r.ok;unfold OkT at this ⊢;rw [EX]
  grind
 ·rw [HL R.r.t0 R.ht,R.hk,Zl]
 ·rw [xD h0 U (rI S J).2.sw J,SO h0 U S hn,<- xD h0 U S J];exact R.yes
end
theorem Ct (l:List D) (t:Nat) (y:D):dg l (t:Int) y=l.set t y:=qU ..
theorem aev {k:D} {t:Nat} (ht:t<k.l.length) (y:D):dL (dg (A0 k t).l (t:Int) y)=dL (dg (iQ k).l (t:Int) y):=by
 have e:(A0 k t).l=(k.l.take t).map cK++phK::(k.l.drop (t+1)).map cK:=by unfold A0; rw [bz]
 rw [e,rP,Ct,Ct];congr 1;apply axv;intro i
 grind
theorem aew {k:D} {t:Nat} (ht:t<k.l.length):(A0 k t).l.length=k.l.length:=by
 unfold A0;rw [bz]
 grind
end
section
variable {d:D}
abbrev kB (k:D) (t:Int):D:=A0 k t.toNat
noncomputable abbrev Nr (d0 d1 s k:D) (t:Int):Nat->Int:=df L (low [enc d0,enc d1,enc s,enc k,t])
theorem GA {k:D} {t:Int} (t0:0<=t) (t1:t<(k.l.length:Int)) (y:KT):dL (dg (kB k t).l t y.d)=gZ (iQ k) t y:=by obtain⟨i,rfl⟩ : ∃i:Nat,t=(i:Int):=⟨t.toNat,J⟩;exact aev J y.d
theorem S7 {k:D} {t:Int} (t0:0<=t) (t1:t<(k.l.length:Int)):((kB k t).l.length:Int)=k.l.length:=by obtain⟨i,rfl⟩ : ∃i:Nat,t=(i:Int):=⟨t.toNat,J⟩;unfold kB;rw [aW,aew J]
theorem Ov (h:d.l.length=0):mS d= .i 2:=ag J
theorem JB (h:d.l.length≠0):mS d=d:=af J
section
variable {d0 d1 s k:D} {n:Nat} (h0:Wd (.sl 3) d0) (U:Wd (.sl 4) d1) (S:Sw s k n) (hn:n<17592186044000) {t:Int}
include h0 U S hn
theorem X5 (h:L 1550 [enc d0,enc d1,enc s,enc k,t]=some [0]):L 22400 [enc d0,enc d1,enc s,enc k,t]=some [enc (cS s),enc (iQ k),0,0,0,0,0,0]:=by
 have hs:=PZ S J;have h:=(zt h0 U S J t).1 h;obtain⟨ys,hR,b,rfl,hb⟩:=N9 h0 U S J;obtain⟨c1,c2⟩:=(S.cnd J).1
 have tT:b=0\/¬b=0/\(t<0\/¬t<0/\¬t<(d1.l.length:Int)):=by
  rcases hb with hb|hb
  ·exact .inl hb.1
  ·refine .inr ⟨J,?_⟩;by_cases t0:t<0
   ·exact .inl t0
   ·exact .inr ⟨t0,fun t1=>h ⟨J,t1,hb.2⟩⟩
 rw [bB,Dg];by_cases ht:t<0\/(k.l.length:Int)<=t
 ·rcases asH c1 c2 t ht hs with hc|⟨hc,he⟩
  ·have K:eA (Nr d0 d1 s k t) jS= .out [enc (cS s),enc (iQ k),0,0,0,0,0,0]:=by
    rcases tT with b0|⟨b1,t0|⟨t0,t1⟩⟩
    ·refine cg [.eq (a0 9150 sk) Q0,.eq me jH,Ac,Ab] [.eq me Qa,.eq me Q0,.eq me eK] (ou [rV,vR,Qa,Qa,Qa,Qa,Qa,Qa]) (by simp only [zz,hc,hR,b0]<;>omega) aa ?_;simp only [zz,hc]
    ·refine cg [.eq (a0 9150 sk) Q0,.eq me jH,Ac,xy] [.eq me Qa,.eq me Q0,.eq me eK,Ab] (ou [rV,vR,Qa,Qa,Qa,Qa,Qa,Qa]) (by simp only [zz,hc,hR,b1,t0]<;>omega) aa ?_;simp only [zz,hc]
    ·refine cg [.eq (a0 9150 sk) Q0,.eq me jH,Ac] [.eq me Qa,.eq me Q0,.eq me eK,Ab,xy,Ak] (ou [rV,vR,Qa,Qa,Qa,Qa,Qa,Qa]) (by simp only [zz,hc,hR,b1,t0,t1]<;>omega) aa ?_;simp only [zz,hc]
   exact tp
  ·rw [he]
   have K:eA (Nr d0 d1 s k t) jS= .out [enc (cS s),enc (.i 1),0,0,0,0,0,0]:=by
    rcases tT with b0|⟨b1,t0|⟨t0,t1⟩⟩
    ·refine cg [.eq (a0 9150 sk) Q0,.eq me Qa,Ac,Ab] [] (ou [rV,Qh,Qa,Qa,Qa,Qa,Qa,Qa]) (by simp only [zz,hc,hR,b0]<;>omega) aa ?_;simp only [zz,hc]
    ·refine cg [.eq (a0 9150 sk) Q0,.eq me Qa,Ac,xy] [Ab] (ou [rV,Qh,Qa,Qa,Qa,Qa,Qa,Qa]) (by simp only [zz,hc,hR,b1,t0]<;>omega) aa ?_;simp only [zz,hc]
    ·refine cg [.eq (a0 9150 sk) Q0,.eq me Qa,Ac] [Ab,xy,Ak] (ou [rV,Qh,Qa,Qa,Qa,Qa,Qa,Qa]) (by simp only [zz,hc,hR,b1,t0,t1]<;>omega) aa ?_;simp only [zz,hc]
   exact tp
 ·obtain⟨i,rfl⟩ : ∃i:Nat,t=(i:Int):=⟨t.toNat,J⟩;have hi:i<k.l.length:=J
  obtain⟨a,lc,w,o,g,tr,T⟩:=fq S.wk _ (aq hi);have hc:=aa6 c1 c2 i hi hs;have hx:=GA (k:=k) (t:=(i:Int)) J J (nX ⟨a,lc,w,o,g,tr⟩);have hw:(iQ k).at (i:Int)=(nX ⟨a,lc,w,o,g,tr⟩).d:=by rw [HL J J,bF hi,T.is,<- Zl]
  have WH:iQ k=dL (iQ k).l:=by rw [rP]; unfold iQ; rw [af J]
  rw [Le WH J (by rw [rP,a8]; omega) hw] at hx;simp only [nX,KT.d,kB,aW] at hx;rw [T.is] at hc;unfold LM AZ at hc;simp only [zg,ax,zw] at hc;by_cases r1:lc.l.length=0
  ·rw [ag J,ag J] at hc;rw [Ov r1] at hx;simp only [ee,eW] at hx;simp only [aK,aw] at hc
   have K:eA (Nr d0 d1 s k (i:Int)) jS= .out [enc (cS s),enc (iQ k),0,0,0,0,0,0]:=by
    rcases tT with b0|⟨b1,t0|⟨t0,t1⟩⟩
    ·refine cg [.eq (a0 9150 sk) Q0,.eq me Q0,Ac,Ab] [.eq me Qa] (ou [rV,Q3u,Qa,Qa,Qa,Qa,Qa,Qa]) (by simp only [zz,hc,hR,b0]<;>omega) aa ?_;exact IF
    ·omega
    ·refine cg [.eq (a0 9150 sk) Q0,.eq me Q0,Ac] [.eq me Qa,Ab,xy,Ak] (ou [rV,Q3u,Qa,Qa,Qa,Qa,Qa,Qa]) (by simp only [zz,hc,hR,b1,t0,t1]<;>omega) aa ?_;exact IF
   exact tp
  ·rw [af J,af J] at hc;rw [JB r1] at hx;simp only [ee,eW] at hx;simp only [aK,aw] at hc
   have K:eA (Nr d0 d1 s k (i:Int)) jS= .out [enc (cS s),enc (iQ k),0,0,0,0,0,0]:=by
    rcases tT with b0|⟨b1,t0|⟨t0,t1⟩⟩
    ·refine cg [.eq (a0 9150 sk) Q0,.eq me eK,Ac,Ab] [.eq me Qa,.eq me Q0] (ou [rV,Q4a,Qa,Qa,Qa,Qa,Qa,Qa]) (by simp only [zz,hc,hR,b0]<;>omega) aa ?_;exact IF
    ·omega
    ·refine cg [.eq (a0 9150 sk) Q0,.eq me eK,Ac] [.eq me Qa,.eq me Q0,Ab,xy,Ak] (ou [rV,Q4a,Qa,Qa,Qa,Qa,Qa,Qa]) (by simp only [zz,hc,hR,b1,t0,t1]<;>omega) aa ?_;exact IF
   exact tp
variable {x:KT} (R:Rs d0 d1 s k t x)
include R
theorem anU (hz:x.lc.l.length=0):L 9150 [t,enc s,enc k]=some [1,t,enc (cS s),enc (kB k t),x.a,x.w,x.o,x.g,x.tr]:=by
 have hs:=PZ S J;obtain⟨c1,c2⟩:=(S.cnd J).1;have t0:=R.r.t0;have ht:=R.ht;have hk:=R.hk;obtain⟨i,rfl⟩ : ∃i:Nat,t=(i:Int):=⟨t.toNat,J⟩;have hi:i<k.l.length:=J
 have hc:=aa6 c1 c2 i hi hs;rw [bF hi] at hk;rw [hk] at hc;unfold LM AZ at hc;simp only [KT.d,zg,ax,zw] at hc;rw [ag J,ag J] at hc;exact hc
theorem anT (hz:x.lc.l.length≠0):L 9150 [t,enc s,enc k]=some [2,t,enc (cS s),enc (kB k t),x.a,enc x.lc,x.w,x.o,x.g,x.tr]:=by
 have hs:=PZ S J;obtain⟨c1,c2⟩:=(S.cnd J).1;have t0:=R.r.t0;have ht:=R.ht;have hk:=R.hk;obtain⟨i,rfl⟩ : ∃i:Nat,t=(i:Int):=⟨t.toNat,J⟩;have hi:i<k.l.length:=J
 have hc:=aa6 c1 c2 i hi hs;rw [bF hi] at hk;rw [hk] at hc;unfold LM AZ at hc;simp only [KT.d,zg,ax,zw] at hc;rw [af J,af J] at hc;exact hc
theorem VA:dL (dg (kB k t).l t (nX x).d)=iQ k:=by
 have R1:=So h0 U S hn R;have Y:0<(iQ k).l.length:=by have:=R1.r.t0; have:=R1.ht; omega
 rw [GA R.r.t0 R.ht];exact Le (Dx (rI S J).2.wk Y).sh R1.r.t0 R1.ht R1.hk
theorem aai:L 22350 [enc d0,enc d1,enc (cS s),enc (iQ k),t]=some (fS d1 t (nX x)):=CN h0 U (rI S J).2.sw hn (So h0 U S hn R)
theorem N3 (ho:fh d1 t x=1):L 22400 [enc d0,enc d1,enc s,enc k,t]=some [enc (cS s),enc (iQ k),0,0,0,0,0,4]:=by
 have hR:=tG h0 U S hn R;have hF:=rB h0 U S hn R;have hx:=VA h0 U S hn R;have c1: ¬t<0:=by have:=R.r.t0; omega
 have c2:=R.r.t1;rw [ho] at hF;rw [bB,Dg];by_cases hz:x.lc.l.length=0
 ·have hc:=anU h0 U S hn R hz;simp only [nX,KT.d,Ov hz,ee,eW] at hx
  have K:eA (Nr d0 d1 s k t) jS= .out [enc (cS s),enc (iQ k),0,0,0,0,0,4]:=by refine cg [.eq (a0 9150 sk) Q0,.eq me Q0,Ac,Ak,Nz] [.eq me Qa,Ab,xy,Ny] (ou [rV,Q3u,Qa,Qa,Qa,Qa,Qa,qx]) (by simp only [zz,hc,hR,hF,c1,c2]<;>omega) aa ?_;exact IF
  exact tp
 ·have hc:=anT h0 U S hn R hz;simp only [nX,KT.d,JB hz,ee,eW] at hx
  have K:eA (Nr d0 d1 s k t) jS= .out [enc (cS s),enc (iQ k),0,0,0,0,0,4]:=by refine cg [.eq (a0 9150 sk) Q0,.eq me eK,Ac,Ak,Nz] [.eq me Qa,.eq me Q0,Ab,xy,Ny] (ou [rV,Q4a,Qa,Qa,Qa,Qa,Qa,qx]) (by simp only [zz,hc,hR,hF,c1,c2]<;>omega) aa ?_;exact IF
  exact tp
theorem R9 {b:D} {op obj arg tries e1 e2 e3 e4 e5 oc:Int} (ho:fh d1 t x=0) (hq:fS d1 t (nX x)= [op,obj,arg,tries,1]) (hB:L 4000 [enc d0,enc d1,enc (cS s),t,op,obj,arg,tries]=some [enc b,e1,e2,e3,e4,e5,oc]) (hE:Ix e1 e2 e3 e4 e5 oc= [e1,e2,e3,e4,e5]) :
 L 22400 [enc d0,enc d1,enc s,enc k,t]=some [enc (vi (cS s) b oc),enc (gZ (iQ k) t (eI (fk d1 t x) (nX x) op e2 e3 e4 oc)),e1,e2,e3,e4,e5,oc]:=by
 have hR:=tG h0 U S hn R;have hF:=rB h0 U S hn R;have hx:=VA h0 U S hn R;have hN:=aai h0 U S hn R;have R1:=So h0 U S hn R;have c1: ¬t<0:=by have:=R.r.t0; omega
 have c2:=R.r.t1;have nZ:=S7 R.r.t0 R.ht
 have hxx:(nX x).w=0->(nX x).a<(Nc d1 t:Int):=fun w0=>by unfold fh at ho;rw [ag w0] at ho;have:=R.r.ok.2.1;show x.a<_;unfold Nc at ho ⊢;split at ho<;>omega
 have hy:=GA R.r.t0 R.ht (eI (fk d1 t x) (nX x) op e2 e3 e4 oc);rw [ho] at hF;rw [hq] at hN;rw [bB,Dg];by_cases hz:x.lc.l.length=0
 ·have hc:=anU h0 U S hn R hz;have A9:(nX x).lc.l.length=0:=(EX x.lc).trans hz;obtain⟨ha,WE⟩:=aeB (k:=kB k t) R1.c (by rw [nZ]; exact R.ht) R1.r hB hxx A9;rw [hE] at ha;simp only [aK,aw] at ha;have atc:(eI (fk d1 t x) (nX x) op e2 e3 e4 oc).lc= .i 2:=by rw [<- Ov hz]; exact WE
  simp only [KT.d,ee,eW,atc] at hy;simp only [nX,KT.d,Ov hz,ee,eW] at hx
  have K:eA (Nr d0 d1 s k t) jS= .out [enc (vi (cS s) b oc),enc (gZ (iQ k) t (eI (fk d1 t x) (nX x) op e2 e3 e4 oc)),e1,e2,e3,e4,e5,oc]:=by refine cg [.eq (a0 9150 sk) Q0,.eq me Q0,Ac,Ak,Nz,Ny,.eq (a0 22350 XL) Q0,.eq (a0 24000 Cb) Q0,.eq (rr 24000 Cb 0) Qa] [.eq me Qa,Ab,xy,.eq (rr 22350 XL 4) Qa] (ou [rr 24000 Cb 15,.op .set vR (cn Nh (cn (mk (rr 24000 Cb 22)) (cn Qk (cn (mk (rr 24000 Cb 23)) (cn (mk (rr 24000 Cb 24)) (cn (mk (rr 24000 Cb 25)) (cn (mk (rr 24000 Cb 26)) iy))))))),rr 24000 Cb 16,rr 24000 Cb 17,rr 24000 Cb 18,rr 24000 Cb 19,rr 24000 Cb 20,rr 24000 Cb 21]) (by simp only [zz,hc,hR,hF,hx,hN,ha,c1,c2]<;>omega) aa ?_;simp only [zz,hc,hx,hN,ha];simp only [gZ,KT.d,ee,eW,atc] at hy ⊢;rw [hy]
  exact tp
 ·have hc:=anT h0 U S hn R hz;have ha:=aeA (k:=kB k t) R1.c (by rw [nZ]; exact R.ht) R1.r hB hxx;rw [hE] at ha;simp only [aK,aw] at ha;simp only [KT.d,ee,eW] at hy;simp only [nX,KT.d,JB hz,ee,eW] at hx ha hy hN ⊢
  have K:eA (Nr d0 d1 s k t) jS= .out [enc (vi (cS s) b oc),enc (gZ (iQ k) t (eI (fk d1 t x) x op e2 e3 e4 oc)),e1,e2,e3,e4,e5,oc]:=by refine cg [.eq (a0 9150 sk) Q0,.eq me eK,Ac,Ak,Nz,Ny,.eq (a0 22350 Ih) Q0,.eq (a0 24050 Am) Q0,.eq (rr 24050 Am 0) Qa] [.eq me Qa,.eq me Q0,Ab,xy,.eq (rr 22350 Ih 4) Qa] (ou [rr 24050 Am 16,.op .set vR (cn Nh (cn (mk (rr 24050 Am 23)) (cn (rr 24050 Am 24) (cn (mk (rr 24050 Am 25)) (cn (mk (rr 24050 Am 26)) (cn (mk (rr 24050 Am 27)) (cn (mk (rr 24050 Am 28)) iy))))))),rr 24050 Am 17,rr 24050 Am 18,rr 24050 Am 19,rr 24050 Am 20,rr 24050 Am 21,rr 24050 Am 22]) (by simp only [zz,hc,hR,hF,hx,hN,ha,c1,c2]<;>omega) aa ?_;simp only [zz,hc,hx,hN,ha];simp only [gZ,KT.d,ee,eW] at hy ⊢;rw [hy]
  exact tp
set_option maxHeartbeats 1000000 in
theorem SZ (ho:fh d1 t x=0) (hq:low (fS d1 t (nX x)) 4=0) (hz:x.lc.l.length=0):L 22400 [enc d0,enc d1,enc s,enc k,t]=some [enc (cS s),enc (gZ (iQ k) t (jk (fk d1 t x) (nX x))),0,0,0,0,0,1]:=by
 have hR:=tG h0 U S hn R;have hF:=rB h0 U S hn R;have hx:=VA h0 U S hn R;have hN:=aai h0 U S hn R;have R1:=So h0 U S hn R;have Lc:=CT R1.r ho hq;have c1: ¬t<0:=by have:=R.r.t0; omega
 have c2:=R.r.t1;have c3: ¬x.a<0:=by have:=R.r.ok.1; omega
 have c4:=Lc.a;have c5:t<((kB k t).l.length:Int):=by rw [S7 R.r.t0 R.ht]; exact R.ht
 have F:=R1.c.inf R1.r c4;have Is:(x.lc.l.length:Int)=(((d1.at t).V 1).l.length:Int):=R.r.ok.2.2.1;have hnc:((d1.at t).V 2).l.length<=140737488351232:=(R.c.code R.r.t0 R.r.t1).len;have n1:=Lc.n1;have n2:=Lc.n2
 have hw:IntKind.i64.wrap (x.a+1)=x.a+1:=by exact aqa
 have hy:=GA R.r.t0 R.ht (jk (fk d1 t x) (nX x));have hE:=fun (lc:D)=>ao5 h0 U S hn R (lc:=lc) F.ar (i:=0);have ok:=F.ok;have hc:=anU h0 U S hn R hz;rw [ho] at hF;simp only [nX,Ov hz] at *;unfold fk Nc at *;dsimp only at *;simp only [KT.d,ee,eW] at hx;rw [bB,Dg];rcases ok with h|h|⟨h,i0,i1,na⟩|⟨h,_,_,na⟩|⟨h,_⟩|⟨h,i0,i1⟩|⟨h,i0,i1,_⟩
 ·exact absurd h.1 n1
 ·exact absurd h.1 n2
 ·omega
 ·have c7:(0:Int)<(((((d1.at t).V 2).at x.a).V 6).l.length:Int):=J
  have hE:=hE (.i 2) J c7;by_cases hv:ev (((((d1.at t).V 2).at x.a).V 6).at 0) (.i 2)=0
  ·have K:eA (Nr d0 d1 s k t) jS= .out [enc (cS s),enc (gZ (iQ k) t (jk (((d1.at t).V 2).at x.a) { x with lc:=.i 2 })),0,0,0,0,0,1]:=by
    refine cg [.eq (a0 9150 sk) Q0,.eq me Q0,Ac,Ak,Nz,Ny,.eq (a0 22350 XL) Q0,.eq (rr 22350 XL 4) Qa,ZE,.lt An (ln Ie),.eq vm qx,Q30,.eq (a0 22500 Q32) Q0,.eq (rr 22500 Q32 0) Qa] [.eq me Qa,Ab,xy,.lt An Qa,.eq vm jH] (ou [rV,.op .set vR (cn Nh (cn (mk (nm (ce 4 ZD))) Q3t)),Qa,Qa,Qa,Qa,Qa,Q0]) (by simp only [zz,hc,hR,hF,hx,hN,hq,c1,c2,c3,c4,c5,h,c7,hE,hv]<;>omega) aa ?_;exact aeX
   exact tp
  ·have K:eA (Nr d0 d1 s k t) jS= .out [enc (cS s),enc (gZ (iQ k) t (jk (((d1.at t).V 2).at x.a) { x with lc:=.i 2 })),0,0,0,0,0,1]:=by
    refine cg [.eq (a0 9150 sk) Q0,.eq me Q0,Ac,Ak,Nz,Ny,.eq (a0 22350 XL) Q0,.eq (rr 22350 XL 4) Qa,ZE,.lt An (ln Ie),.eq vm qx,Q30,.eq (a0 22500 Q32) Q0] [.eq me Qa,Ab,xy,.lt An Qa,.eq vm jH,.eq (rr 22500 Q32 0) Qa] (ou [rV,.op .set vR (cn Nh (cn Q36 Q3t)),Qa,Qa,Qa,Qa,Qa,Q0]) (by simp only [zz,hc,hR,hF,hx,hN,hq,c1,c2,c3,c4,c5,h,c7,hE,hv]<;>omega) aa ?_;exact aeX
   exact tp
 ·have K:eA (Nr d0 d1 s k t) jS= .out [enc (cS s),enc (gZ (iQ k) t (jk (((d1.at t).V 2).at x.a) { x with lc:=.i 2 })),0,0,0,0,0,1]:=by
   refine cg [.eq (a0 9150 sk) Q0,.eq me Q0,Ac,Ak,Nz,Ny,.eq (a0 22350 XL) Q0,.eq (rr 22350 XL 4) Qa,ZE,.lt An (ln Ie),.eq vm B9] [.eq me Qa,Ab,xy,.lt An Qa,.eq vm jH,.eq vm qx] (ou [rV,.op .set vR (cn Nh (cn (mk (nm (ce 4 ZD))) Q3t)),Qa,Qa,Qa,Qa,Qa,Q0]) (by simp only [zz,hc,hR,hF,hx,hN,hq,c1,c2,c3,c4,c5,h,c1]<;>omega) aa ?_;exact aiB
  exact tp
 ·omega
 ·omega
set_option maxHeartbeats 1000000 in
theorem SY (ho:fh d1 t x=0) (hq:low (fS d1 t (nX x)) 4=0) (hz:x.lc.l.length≠0):L 22400 [enc d0,enc d1,enc s,enc k,t]=some [enc (cS s),enc (gZ (iQ k) t (jk (fk d1 t x) (nX x))),0,0,0,0,0,1]:=by
 have hR:=tG h0 U S hn R;have hF:=rB h0 U S hn R;have hx:=VA h0 U S hn R;have hN:=aai h0 U S hn R;have R1:=So h0 U S hn R;have Lc:=CT R1.r ho hq;have c1: ¬t<0:=by have:=R.r.t0; omega
 have c2:=R.r.t1;have c3: ¬x.a<0:=by have:=R.r.ok.1; omega
 have c4:=Lc.a;have c5:t<((kB k t).l.length:Int):=by rw [S7 R.r.t0 R.ht]; exact R.ht
 have F:=R1.c.inf R1.r c4;have Is:(x.lc.l.length:Int)=(((d1.at t).V 1).l.length:Int):=R.r.ok.2.2.1;have hnc:((d1.at t).V 2).l.length<=140737488351232:=(R.c.code R.r.t0 R.r.t1).len;have n1:=Lc.n1;have n2:=Lc.n2
 have hw:IntKind.i64.wrap (x.a+1)=x.a+1:=by exact aqa
 have hy:=GA R.r.t0 R.ht (jk (fk d1 t x) (nX x));have hE:=fun (lc:D)=>ao5 h0 U S hn R (lc:=lc) F.ar (i:=0);have ok:=F.ok;have hc:=anT h0 U S hn R hz;rw [ho] at hF;simp only [nX,JB hz] at *;unfold fk Nc at *;dsimp only at *;simp only [KT.d,ee,eW] at hx;rw [bB,Dg];rcases ok with h|h|⟨h,i0,i1,na⟩|⟨h,_,_,na⟩|⟨h,_⟩|⟨h,i0,i1⟩|⟨h,i0,i1,_⟩
 ·exact absurd h.1 n1
 ·exact absurd h.1 n2
 ·have c7:(0:Int)<(((((d1.at t).V 2).at x.a).V 6).l.length:Int):=J
  have hE:=hE x.lc J c7;have c8: ¬(((((d1.at t).V 2).at x.a).V 3).n<0):=J
  have c9:(((((d1.at t).V 2).at x.a).V 3).n<(x.lc.l.length:Int)):=J
  have K:eA (Nr d0 d1 s k t) jS= .out [enc (cS s),enc (gZ (iQ k) t (jk (((d1.at t).V 2).at x.a) x)),0,0,0,0,0,1]:=by refine cg [.eq (a0 9150 sk) Q0,.eq me eK,Ac,Ak,Nz,Ny,.eq (a0 22350 Ih) Q0,.eq (rr 22350 Ih 4) Qa,ZE,.lt An (ln Ie),.eq vm jH,Q30,.eq (a0 22500 Q4d) Q0,Q4e] [.eq me Qa,.eq me Q0,Ab,xy,.lt An Qa,Q34] (ou [rV,.op .set vR (cn Nh (cn Q36 (cn (.op .set H4 (cn (mk ZG) (mk (rr 22500 Q4d 0)))) ZF))),Qa,Qa,Qa,Qa,Qa,Q0]) (by simp only [zz,hc,hR,hF,hx,hN,hq,c1,c2,c3,c4,c5,h,c7,c8,c9,hE]<;>omega) aa ?_;unfold jk at hy ⊢;simp only [zz,hc,h,hw,c7,c8,c9,hE,Int.reduceEq,if_true,if_false,gZ,KT.d,ee,eW] at hy ⊢;rw [hy]
  exact tp
 ·have c7:(0:Int)<(((((d1.at t).V 2).at x.a).V 6).l.length:Int):=J
  have hE:=hE x.lc J c7;by_cases hv:ev (((((d1.at t).V 2).at x.a).V 6).at 0) x.lc=0
  ·have K:eA (Nr d0 d1 s k t) jS= .out [enc (cS s),enc (gZ (iQ k) t (jk (((d1.at t).V 2).at x.a) x)),0,0,0,0,0,1]:=by
    refine cg [.eq (a0 9150 sk) Q0,.eq me eK,Ac,Ak,Nz,Ny,.eq (a0 22350 Ih) Q0,.eq (rr 22350 Ih 4) Qa,ZE,.lt An (ln Ie),.eq vm qx,Q30,.eq (a0 22500 Q4d) Q0,.eq (rr 22500 Q4d 0) Qa] [.eq me Qa,.eq me Q0,Ab,xy,.lt An Qa,.eq vm jH] (ou [rV,.op .set vR (cn Nh (cn (mk (nm (ce 4 ZD))) (cn H4 ZF))),Qa,Qa,Qa,Qa,Qa,Q0]) (by simp only [zz,hc,hR,hF,hx,hN,hq,c1,c2,c3,c4,c5,h,c7,hE,hv]<;>omega) aa ?_;exact aeX
   exact tp
  ·have K:eA (Nr d0 d1 s k t) jS= .out [enc (cS s),enc (gZ (iQ k) t (jk (((d1.at t).V 2).at x.a) x)),0,0,0,0,0,1]:=by
    refine cg [.eq (a0 9150 sk) Q0,.eq me eK,Ac,Ak,Nz,Ny,.eq (a0 22350 Ih) Q0,.eq (rr 22350 Ih 4) Qa,ZE,.lt An (ln Ie),.eq vm qx,Q30,.eq (a0 22500 Q4d) Q0] [.eq me Qa,.eq me Q0,Ab,xy,.lt An Qa,.eq vm jH,.eq (rr 22500 Q4d 0) Qa] (ou [rV,.op .set vR (cn Nh (cn Q36 (cn H4 ZF))),Qa,Qa,Qa,Qa,Qa,Q0]) (by simp only [zz,hc,hR,hF,hx,hN,hq,c1,c2,c3,c4,c5,h,c7,hE,hv]<;>omega) aa ?_;exact aeX
   exact tp
 ·have K:eA (Nr d0 d1 s k t) jS= .out [enc (cS s),enc (gZ (iQ k) t (jk (((d1.at t).V 2).at x.a) x)),0,0,0,0,0,1]:=by
   refine cg [.eq (a0 9150 sk) Q0,.eq me eK,Ac,Ak,Nz,Ny,.eq (a0 22350 Ih) Q0,.eq (rr 22350 Ih 4) Qa,ZE,.lt An (ln Ie),.eq vm B9] [.eq me Qa,.eq me Q0,Ab,xy,.lt An Qa,.eq vm jH,.eq vm qx] (ou [rV,.op .set vR (cn Nh (cn (mk (nm (ce 4 ZD))) (cn H4 ZF))),Qa,Qa,Qa,Qa,Qa,Q0]) (by simp only [zz,hc,hR,hF,hx,hN,hq,c1,c2,c3,c4,c5,h,c1]<;>omega) aa ?_;exact aiB
  exact tp
 ·have c8: ¬(((((d1.at t).V 2).at x.a).V 3).n<0):=J
  have c9:(((((d1.at t).V 2).at x.a).V 3).n<(x.lc.l.length:Int)):=J
  have K:eA (Nr d0 d1 s k t) jS= .out [enc (cS s),enc (gZ (iQ k) t (jk (((d1.at t).V 2).at x.a) x)),0,0,0,0,0,1]:=by refine cg [.eq (a0 9150 sk) Q0,.eq me eK,Ac,Ak,Nz,Ny,.eq (a0 22350 Ih) Q0,.eq (rr 22350 Ih 4) Qa,ZE,.lt An (ln Ie),.eq vm QJ,Q4e] [.eq me Qa,.eq me Q0,Ab,xy,.lt An Qa,.eq vm jH,.eq vm qx,.eq vm B9,Q34] (ou [rV,.op .set vR (cn Nh (cn Q36 (cn (.op .set H4 (cn (mk ZG) (mk (nm (ce 5 ZD))))) ZF))),Qa,Qa,Qa,Qa,Qa,Q0]) (by simp only [zz,hc,hR,hF,hx,hN,hq,c1,c2,c3,c4,c5,h,c8,c9]<;>omega) aa ?_;unfold jk at hy ⊢;simp only [zz,hc,h,hw,c8,c9,Int.reduceEq,if_true,if_false,gZ,KT.d,ee,eW] at hy ⊢;rw [hy]
  exact tp
 ·have c8: ¬(((((d1.at t).V 2).at x.a).V 3).n<0):=J
  have c9:(((((d1.at t).V 2).at x.a).V 3).n<(x.lc.l.length:Int)):=J
  by_cases hv:0<(x.lc.at ((((d1.at t).V 2).at x.a).V 3).n).n
  ·have K:eA (Nr d0 d1 s k t) jS= .out [enc (cS s),enc (gZ (iQ k) t (jk (((d1.at t).V 2).at x.a) x)),0,0,0,0,0,1]:=by
    refine cg [.eq (a0 9150 sk) Q0,.eq me eK,Ac,Ak,Nz,Ny,.eq (a0 22350 Ih) Q0,.eq (rr 22350 Ih 4) Qa,ZE,.lt An (ln Ie),.eq vm Rm,Q4e,.lt Qa (nm (el H4 ZG))] [.eq me Qa,.eq me Q0,Ab,xy,.lt An Qa,.eq vm jH,.eq vm qx,.eq vm B9,.eq vm QJ,Q34] (ou [rV,.op .set vR (cn Nh (cn Q36 (cn (.op .set H4 (cn (mk ZG) (mk (wr (.sub (nm (el H4 ZG)) Q0))))) ZF))),Qa,Qa,Qa,Qa,Qa,Q0]) (by simp only [zz,hc,hR,hF,hx,hN,hq,c1,c2,c3,c4,c5,h,c8,c9,hv]<;>omega) aa ?_;exact aiH
   exact tp
  ·have K:eA (Nr d0 d1 s k t) jS= .out [enc (cS s),enc (gZ (iQ k) t (jk (((d1.at t).V 2).at x.a) x)),0,0,0,0,0,1]:=by
    refine cg [.eq (a0 9150 sk) Q0,.eq me eK,Ac,Ak,Nz,Ny,.eq (a0 22350 Ih) Q0,.eq (rr 22350 Ih 4) Qa,ZE,.lt An (ln Ie),.eq vm Rm,Q4e] [.eq me Qa,.eq me Q0,Ab,xy,.lt An Qa,.eq vm jH,.eq vm qx,.eq vm B9,.eq vm QJ,Q34,.lt Qa (nm (el H4 ZG))] (ou [rV,.op .set vR (cn Nh (cn (mk (nm (ce 4 ZD))) (cn H4 ZF))),Qa,Qa,Qa,Qa,Qa,Q0]) (by simp only [zz,hc,hR,hF,hx,hN,hq,c1,c2,c3,c4,c5,h,c8,c9,hv]<;>omega) aa ?_;exact aiH
   exact tp
end
end
section
variable {n:Nat}
def EqN (a b:D):Prop:=a.l.length=b.l.length/\∀(i:Nat),(a.at (i:Int)).n=(b.at (i:Int)).n
structure g_ (x y:D):Prop where
 c0:(x.V 0).n=(y.V 0).n
 c1:EqN (x.V 1) (y.V 1)
 c2:(x.V 2).n=(y.V 2).n
 c3:(x.V 3).n=(y.V 3).n
 c4:(x.V 4).n=(y.V 4).n
 c5:(x.V 5).n=(y.V 5).n
theorem EqN.pX (a:D):EqN a a:=⟨rfl,fun _=>rfl⟩
theorem g_.pX (a:D):g_ a a:=⟨rfl,EqN.pX _,rfl,rfl,rfl,rfl⟩
def SW (k:D):Prop:=k.l.length<=140737488351232/\∀i:Nat,((k.at (i:Int)).V 1).l.length<=140737488351232
section
variable {s k s' k':D} (Y:k.l.length=k'.l.length) (hq: ∀i:Nat,g_ (k.at (i:Int)) (k'.at (i:Int))) (hb:SW k)
include Y hq hb
theorem Ay: ∀(j i:Nat),i+j=k.l.length->L 2051 [(k.l.length:Int),(i:Int),enc s,enc k,enc s',enc k']=some [1]
 |0,i,hi=>by
  have c1: ¬(i:Int)<(k.l.length:Int):=J
  rw [bB,adl];simp only [P!,zz,c1,bA]
 |j+1,i,hi=>by
  have c1:(i:Int)<(k.l.length:Int):=J
  have c2: ¬((i:Int)<0):=J
  have c3:(i:Int)<(k'.l.length:Int):=J
  have b1:=hb.1;have w:=bx (n:=i) J;have ih:=Ay j (i+1) J;have q:=hq i;obtain⟨q1,q2⟩:=q.c1;have b2:=hb.2 i
  have lp: ∀(j' i':Nat),i'+j'=((k.at (i:Int)).V 1).l.length->L 2052 [(k.l.length:Int),(i:Int),(((k.at (i:Int)).V 1).l.length:Int),(i':Int),enc s,enc k,enc s',enc k',((k.at (i:Int)).V 0).n,enc ((k.at (i:Int)).V 1),((k.at (i:Int)).V 2).n,((k.at (i:Int)).V 3).n,((k.at (i:Int)).V 4).n,((k.at (i:Int)).V 5).n,((k'.at (i:Int)).V 0).n,enc ((k'.at (i:Int)).V 1),((k'.at (i:Int)).V 2).n,((k'.at (i:Int)).V 3).n,((k'.at (i:Int)).V 4).n,((k'.at (i:Int)).V 5).n]=some [1]:=by
   intro j'
   induction j' with
   |zero=>
    intro i' hi';have d1: ¬(i':Int)<(((k.at (i:Int)).V 1).l.length:Int):=J
    rw [bB,adk];simp only [P_,zz,d1,w,bI,ih]
   |succ j' ihj=>
    intro i' hi';have d1:(i':Int)<(((k.at (i:Int)).V 1).l.length:Int):=J
    have d2: ¬((i':Int)<0):=J
    have d3:(i':Int)<(((k'.at (i:Int)).V 1).l.length:Int):=J
    have w':=bx (n:=i') J;have h':=ihj (i'+1) J;have hn:=q2 i';rw [bB,adk];simp only [P_,zz,d1,d2,d3,w',hn,bI];exact h'
  have l0:=lp ((k.at (i:Int)).V 1).l.length 0 J;have q1':(((k.at (i:Int)).V 1).l.length:Int)=(((k'.at (i:Int)).V 1).l.length:Int):=J
  simp only [q.c0,q.c2,q.c3,q.c4,q.c5,q1',bj] at l0;rw [bB,adl];simp only [P!,zz,c1,c2,c3,q.c0,q.c2,q.c3,q.c4,q.c5,q1',bI];exact l0
theorem I9 (hs:L 200 [enc s,enc s']=some [1]):L 2050 [enc s,enc k,enc s',enc k']=some [1]:=by
 have h:=Ay (s:=s) (s':=s') Y hq hb k.l.length 0 J;have Ia:(k.l.length:Int)=(k'.l.length:Int):=J
 rw [bj] at h;rw [bB,alh];simp only [ajJ,zz,hs,bM,Ia,bI]
 grind
end
theorem Yc {s:D} (hlen:s.l.length<=140737488351232) (hr:Lm s):L 200 [enc s,enc s]=some [1]:=by obtain⟨c,U,_,h3⟩:=I6 s s hlen hr;rw [U,h3.2 ⟨rfl,fun k U Z _=> ⟨rfl,rfl,Iff.rfl,rfl,⟨rfl,fun _ _ _ _=>rfl⟩,⟨rfl,fun _ _ _ _=>rfl⟩⟩⟩]
theorem Sx.avh {s k:D} (S:Sx s k n):SW k:=by
 refine⟨S.wk.len,fun i=>?_⟩;by_cases hi:i<k.l.length
 ·exact aio
 ·rw [eE,awZ J];show ((D.i 0).V 1).l.length<=_;simp [D.V,D.l]
theorem Sx.same {s k:D} (S:Sx s k n) (hn:n<17592186043904):L 2050 [enc s,enc k,enc s,enc k]=some [1]:=
 I9 rfl (fun _=>g_.pX _) S.avh (Yc S.g.wd.len (fun x hx=>by have:=S.g.rows x hx; omega))
end
section
variable {n j:Nat}
set_option maxHeartbeats 4000000 in
theorem Pn: ∀(N:Nat) (kids:D),SizeOf.sizeOf kids<=N->Wd (.sl 6) kids->∀(k n:Int) (s loc S0:D),loc.l=S0.l->L 1950 [k,enc s,n,enc kids,enc loc]=L 1950 [k,enc s,n,enc kids,enc S0]
 |0,kids,hN,_,_,_,_,_,_,_=>by exfalso;cases kids<;>simp at hN
 |N+1,kids,hN,hk,k,n,s,loc,S0,Y=>by
  have sub: ∀i:Nat,∃v:Int,(i<kids.l.length->L 1950 [((kids.at (i:Int)).V 0).n,enc ((kids.at (i:Int)).V 1),((kids.at (i:Int)).V 2).n,enc ((kids.at (i:Int)).V 3),enc loc]=some [v]/\L 1950 [((kids.at (i:Int)).V 0).n,enc ((kids.at (i:Int)).V 1),((kids.at (i:Int)).V 2).n,enc ((kids.at (i:Int)).V 3),enc S0]=some [v]):=by
   intro i;by_cases cY:i<kids.l.length
   ·obtain⟨k',s',n',AX,he,_,_,E8,Z⟩:=qG hk cY
    have jl:SizeOf.sizeOf AX<SizeOf.sizeOf kids.l[i]:=by simp_all [Aw,bz]
    have asX:=Aw (aq cY);obtain⟨v,hL,_⟩:=C9 N AX J Z k' n' s' loc;refine⟨v,fun _=>?_⟩;rw [bF cY,he];simp only [zg,ax];exact⟨hL,(Pn N AX J Z k' n' s' loc S0 Y).symm.trans hL⟩
   ·exact⟨0,fun h=>absurd h cY⟩
  obtain⟨a,h0⟩:=sub 0;obtain⟨b,U⟩:=sub 1;have e1:=bB 1950 [k,enc s,n,enc kids,enc loc];have e2:=bB 1950 [k,enc s,n,enc kids,enc S0];have ha: ∀z,loc.at z=S0.at z:=fun z=>by unfold D.at; rw [Y]
  rw [Ec] at e1 e2;by_cases l1:(kids.l.length:Int)=1
  ·obtain⟨h0,h0'⟩:=h0 J;simp_all [yG,zz,e1,e2]
  ·by_cases l2:(kids.l.length:Int)=2
   ·obtain⟨h0,h0'⟩:=h0 J;obtain⟨U,Iw⟩:=U J;simp only [bj,bo] at h0 h0' U Iw;simp_all [yG,zz,Hv,e1,e2]
   simp_all [yG,zz,e1,e2]
theorem TB {ub lc lc':D} (ha:Wd (.sl 6) ub) (Y:lc.l=lc'.l) {i:Int} (i0:0<=i) (i1:i<(ub.l.length:Int)):ev (ub.at i) lc=ev (ub.at i) lc':=by
 obtain⟨j,rfl⟩ : ∃j:Nat,i=(j:Int):=⟨i.toNat,J⟩;have hj:j<ub.l.length:=J
 obtain⟨k',s',n',AX,he,_,_,E8,Z⟩:=qG ha hj;have e1:ub.at (j:Int)=dL [.i k',s',.i n',AX]:=by rw [bF hj,he]
 unfold ev;rw [e1];simp only [zg,ax,zw];rw [Pn _ AX (au _) Z k' n' s' lc lc' Y]
section
variable {d0 d1:D} {t:Int} {x:KT} (C:Cd d0 d1) (R:Rt d0 d1 t x)
include C R
theorem EY:fS d1 t (nX x)=fS d1 t x:=by
 unfold fS;by_cases w0:x.w=0
 ·by_cases a0:x.a=(Nc d1 t:Int)
  ·grind
  ·have F:=C.inf R (by have:=R.ok.2.1; unfold Nc at a0 ⊢; omega)
   have e:EG ((fk d1 t x).V 6) (mS x.lc)=EG ((fk d1 t x).V 6) x.lc:=by
    unfold EG;by_cases hz:((fk d1 t x).V 6).l.length=0
    ·grind
    ·rw [af hz,af hz];exact TB F.ar (vu _) J J
   grind
 grind
theorem aob (Lc:Loc d1 t x):jk (fk d1 t x) (nX x)=nX (jk (fk d1 t x) x):=by
 have F:=C.inf R Lc.a;have Is:(x.lc.l.length:Int)=(((d1.at t).V 1).l.length:Int):=R.ok.2.2.1;have n1:=Lc.n1;have n2:=Lc.n2;have ok:=F.ok;have ha: ∀z,(mS x.lc).at z=x.lc.at z:=fun z=>by unfold D.at; rw [vu]
 have Tl: ∀z v,0<x.lc.l.length->mS (dL (dg x.lc.l z v))=dL (dg x.lc.l z v):=fun z v h=>JB (by rw [bz,dM]; omega);unfold jk;simp only [nX,vu,ha];unfold OkI at ok;rcases ok with h|h|⟨h,i0,i1,na⟩|⟨h,_,_,na⟩|⟨h,_⟩|⟨h,i0,i1⟩|⟨h,i0,i1,_⟩
 ·grind
 ·grind
 ·simp only [h,if_true];rw [Tl _ _ J,TB F.ar (vu x.lc) J J]
 ·simp only [h,Int.reduceEq,if_true,if_false];rw [TB F.ar (vu x.lc) J J]
  grind
 all_goals grind
theorem anx (hx:x.w=0->x.a<(Nc d1 t:Int)) (op e2 e3 e4 oc:Int):eI (fk d1 t x) (nX x) op e2 e3 e4 oc=nX (eI (fk d1 t x) x op e2 e3 e4 oc):=by
 have Tl: ∀z v,0<x.lc.l.length->mS (dL (dg x.lc.l z v))=dL (dg x.lc.l z v):=fun z v h=>JB (by rw [bz,dM]; omega);unfold eI;simp only [nX,vu];by_cases o0:oc=0
 ·grind
 ·rw [af o0,af o0];by_cases w0:x.w=0
  ·rw [ag w0,ag w0];have F:=C.inf R (hx w0);have Is:(x.lc.l.length:Int)=(((d1.at t).V 1).l.length:Int):=R.ok.2.2.1;have ok:=F.ok
   grind [OkI]
  grind
end
theorem aog (x:KT):g_ x.d (nX x).d:=by
 refine⟨rfl,⟨?_,fun i=>?_⟩,rfl,rfl,rfl,rfl⟩
 ·exact (EX _).symm
 ·show (x.lc.at (i:Int)).n=((mS x.lc).at (i:Int)).n
  grind [eE,vu]
theorem af2 {x y:D} (h:g_ x y):g_ y x:=⟨h.c0.symm,⟨h.c1.1.symm,fun i=>(h.c1.2 i).symm⟩,h.c2.symm,h.c3.symm,h.c4.symm,h.c5.symm⟩
theorem OS {k:D} (hk:Wd (.sl 8) k) (i:Nat):g_ (k.at (i:Int)) ((iQ k).at (i:Int)):=by
 by_cases hi:i<k.l.length
 ·obtain⟨a,lc,w,o,g,tr,T⟩:=fq hk _ (aq hi);rw [HL J J,bF hi,T.is];exact Zl ⟨a,lc,w,o,g,tr⟩▸aog ⟨a,lc,w,o,g,tr⟩
 ·rw [eE,eE,rP,bg,awZ J];exact .pX _
theorem afr {s k:D} (S:Sw s k n):SW k:=by
 refine⟨S.wk.len,fun i=>?_⟩;by_cases hi:i<k.l.length
 ·exact aio
 grind [eE,D.V,D.l]
theorem CB {s k s' k':D} (S:Sw s k n) (hn:n<17592186044000) (hs:xx s s') (Y:k.l.length=k'.l.length) (hq: ∀i:Nat,g_ (k.at (i:Int)) (k'.at (i:Int))):L 2050 [enc s,enc k,enc s',enc k']=some [1]:=
 I9 Y hq (afr S) (afB S.g hn hs)
theorem s? {r r':D} (h:Wd (.sl 0) r') (hs:Ld r) (Y:r.l=r'.l):Wd (.sl 0) r:=by
 rcases hs with rfl|rfl|⟨U,Z⟩
 ·exact .nil 0
 ·exact .wL 0
 ·have h3:r'.l≠[]:=by rwa [<- Y]
  have e:r'=dL r'.l:=by
   rcases h.sh with z|z|⟨z,_⟩
   ·rw [z] at h3;exact absurd rfl h3
   ·rw [z] at h3;exact absurd rfl h3
   ·exact z
  rw [U,Y,<- e];exact h
theorem aty {b a:D} (h:SQ b a) (G:Gs a n):Gs b n:=by
 have Y:=h.e.len
 have key: ∀i:Nat,i<b.l.length->iY (b.at (i:Int))/\((b.at (i:Int)).V 4).l.length<=n/\((b.at (i:Int)).V 5).l.length<=n:=fun i hi=>by
  obtain⟨o,c,dn,g,r,v,T,U,Z⟩:=vz G (i:=(i:Int)) J J;obtain⟨o',c',b',g',r',v',hx,sr,sv⟩:=h.h.2 _ (aq hi);rw [<- bF hi] at hx;have q:=h.e.vP i;obtain⟨q0,q1,q2,q3,q4,q5⟩:=q;rw [hx,T.is] at q0 q1 q2 q3 q4 q5;simp only [zg,ax,zw] at q0 q1 q2 q3 q4 q5;subst q0 q1 q2 q3;rw [hx];refine⟨⟨_,_,_,_,_,_,rfl,T.ho,T.hc,T.V,T.hg,s? T.hr sr q4,s? T.hv sv q5⟩,?_,?_⟩
  ·simp only [zg,ax];rw [q4];exact U
  ·simp only [zg,ax];rw [q5];exact Z
 refine⟨?_,fun x hx=>?_⟩
 ·rcases h.h.1 with e|e|⟨e,ne⟩
  ·rw [e];exact .nil 7
  ·rw [e];exact .wL 7
  ·rw [e];refine xI (fun x hx=>?_) ne ?_
   ·obtain⟨i,hi,rfl⟩:=axi hx;rw [<- bF hi];exact (key i hi).1
   ·have:=G.wd.room;have e:l4 7=80:=rfl;rw [e] at this;omega
 ·obtain⟨i,hi,rfl⟩:=axi hx;rw [<- bF hi];exact (key i hi).2
def Inv (j:Nat) (d0 d1 s k:D):Prop:= ∃n,Sw s k n/\n<17592186044000/\(MR d0 d1 s k->n+j<17592186043800)
theorem Inv.mono {i:Nat} {d0 d1 s k:D} (h:Inv j d0 d1 s k) (hij:i<=j):Inv i d0 d1 s k:=by obtain⟨n,S,hn,hm⟩:=h;exact⟨n,S,hn,fun M=>by have:=hm M; omega⟩
theorem afZ {d0 d1 s k:D} {t:Int} (h:L 1550 [enc d0,enc d1,enc s,enc k,t]=some [0]):L 1700 [enc d0,enc d1,enc s,enc k,t]=some [0]:=by rw [bB,adr];simp only [R_,zz,h];rfl
theorem VX {d0 d1 s k:D} {t:Int} {x:KT} (R:Rs d0 d1 s k t x):L 1700 [enc d0,enc d1,enc s,enc k,t]=some [fh d1 t x]:=by
 have hy:=R.yes;have ho:=AH (s:=s) R.hk R.ht R.r;rcases AI d1 t x with h|h
 ·exact ahE
 ·exact ahE
section
variable {d0 d1 s k:D} (h0:Wd (.sl 3) d0) (U:Wd (.sl 4) d1)
include h0 U
theorem X4 (Z?:Inv (j+1) d0 d1 s k) (t:Int): ∃(a kk b s1 k1:D) (q0 q1 q2 q3 q4 e1 e2 e3 e4 e5 oc f:Int),L 22250 [enc s,enc k]=some [enc s1,enc k1]/\
 L 1800 [enc d0,enc d1,enc s1,enc k1,t]=some [q0,q1,q2,q3,q4]/\L 22350 [enc d0,enc d1,enc s,enc k,t]=some [q0,q1,q2,q3,q4]/\
 L 1850 [enc d0,enc d1,enc s1,enc k1,t]=some [enc a,enc kk,e1,e2,e3,e4,e5,oc]/\L 22400 [enc d0,enc d1,enc s,enc k,t]=some [enc b,enc kk,e1,e2,e3,e4,e5,oc]/\
 L 2050 [enc a,enc kk,enc b,enc kk]=some [1]/\L 1700 [enc d0,enc d1,enc s1,enc k1,t]=some [f]/\L 22300 [enc d0,enc d1,enc s,enc k,t]=some [f]/\
 L 2050 [enc s1,enc k1,enc s,enc k]=some [1]/\(f=0\/f=1)/\(q4=0\/q4=1)/\Inv j d0 d1 a kk/\xx b a/\Inv j d0 d1 b kk:=by
 obtain⟨n,S,hn,hm⟩:=Z?;obtain⟨hq,S1⟩:=rI S hn;have eR:=ad8 S hn;have Wx:L 2050 [enc (cS s),enc (iQ k),enc s,enc k]=some [1]:=CB S1.sw hn hq (by rw [rP,a8]) fun i=>af2 (OS S.wk i);have self: ∀{a b kk:D} {m:Nat},Sw a kk m->m<17592186044000->xx b a->L 2050 [enc a,enc kk,enc b,enc kk]=some [1]:=fun A hm h=>CB A hm (sy h) rfl fun _=> .pX _;rcases Ll (t:=t) S hn h0 U with h|⟨x,R⟩
 ·have h':=(asv h0 U S hn).2 h;have X:Inv j d0 d1 (cS s) (iQ k):=⟨n,S1.sw,hn,fun M=>by have:=hm ((SO h0 U S hn).1 M); omega⟩;exact⟨cS s,iQ k,cS s,cS s,iQ k,0,0,0,0,0,0,0,0,0,0,0,0,eR,aaP h0 U S1.sw hn h',Yy h0 U S hn h,K9 S1 h',X5 h0 U S hn h,self S1.sw hn (.pX _),afZ h',abQ h0 U S hn h,Wx,.inl rfl,.inl rfl,X,.pX _,X⟩
 ·have M:=((xD h0 U S hn t).1 R.yes).2.2;have hm:=hm M;have R1:=So h0 U S hn R;have hxn:=EY R.c R.r;have hN1:=OF h0 U S1.sw hn R1;have hN:=CN h0 U S hn R;rw [hxn] at hN1;have hF1:L 1700 [enc d0,enc d1,enc (cS s),enc (iQ k),t]=some [fh d1 t x]:=by exact VX (x:=nX x) R1
  have hF:=rB h0 U S hn R
  obtain⟨q0,q1,q2,q3,q4,hqq,h4⟩ : ∃q0 q1 q2 q3 q4:Int,fS d1 t x= [q0,q1,q2,q3,q4]/\(q4=0\/q4=1):=by
   grind [fS]
  rw [hqq] at hN hN1;have X:Inv j d0 d1 (cS s) (iQ k):=⟨n,S1.sw,hn,fun _=>by omega⟩;rcases AI d1 t x with ho|ho
  ·by_cases ha:low (fS d1 t x) 4=0
   ·have ha1:low (fS d1 t (nX x)) 4=0:=by rw [hxn]; exact ha
    have hA:=zh S1 R1 ho ha1
    have hB:L 22400 [enc d0,enc d1,enc s,enc k,t]=some [enc (cS s),enc (gZ (iQ k) t (jk (fk d1 t x) (nX x))),0,0,0,0,0,1]:=by
     by_cases hz:x.lc.l.length=0
     ·exact SZ h0 U S hn R ho ha1 hz
     ·exact SY h0 U S hn R ho ha1 hz
    have S2:Sw (cS s) (gZ (iQ k) t (jk (fk d1 t x) (nX x))) n:=(SX S1 J h0 U R1 ho ha1).sw;exact⟨_,_,_,_,_,_,_,_,_,_,_,_,_,_,_,_,_,eR,hN1,hN,hA,hB,self S2 hn (.pX _),hF1,hF,Wx,J,h4,⟨n,S2,hn,fun _=>by omega⟩,.pX _,⟨n,S2,hn,fun _=>by omega⟩⟩
   ·obtain⟨op,obj,arg,tr,hq5⟩:=JG J ha;obtain⟨k1,k2,k3⟩:=VV R.c R.r R.c.ok.1 hq5
    have hU:fD .i64 t:=by exact aqS
    obtain⟨a,b,e1,e2,e3,e4,e5,oc,TT,hB,Tv⟩:=Yd (tries:=tr) (th:=t) (obj:=obj) h0 U S1.g hn k1 k3 J hU k2
    have hE:Ix e1 e2 e3 e4 e5 oc= [e1,e2,e3,e4,e5]:=by
     unfold Ix;split
     ·rename_i z;obtain⟨_,rfl,rfl,rfl,rfl,rfl⟩:=TT.no z;rfl
     ·rfl
    have hq6:fS d1 t (nX x)= [op,obj,arg,tr,1]:=hxn.trans hq5;have hA:=zf S1 R1 ho hq6 TT;have hBB:=R9 h0 U S hn R ho hq6 hB hE
    have hSE:xx (vi (cS s) b oc) a:=by
     unfold vi;split
     ·rename_i z;rw [(TT.no z).1];exact .pX _
     ·exact Tv.e
    have gB:Gs (vi (cS s) b oc) (n+1):=by
     unfold vi;split
     ·exact S1.g.mono (aw8 n)
     ·exact aty Tv TT.gs
    have S2:=(RE S1 R1.c R1.r R1.ht (P7 R1.r ho) TT).sw;exact⟨_,_,_,_,_,_,_,_,_,_,_,_,_,_,_,_,_,eR,hN1,hN,hA,hBB,self S2 J hSE,hF1,hF,Wx,J,h4,⟨n+1,S2,J,fun _=>by omega⟩,hSE,⟨n+1,⟨gB,S2.wk⟩,J,fun _=>by omega⟩⟩
  ·have hA:=Cp S1 R1 ho;have hB:=N3 h0 U S hn R ho;exact⟨_,_,_,_,_,_,_,_,_,_,_,_,_,_,_,_,_,eR,hN1,hN,hA,hB,self S1.sw hn (.pX _),hF1,hF,Wx,J,h4,X,.pX _,X⟩
end
end
section
variable {t:Int} {s' a k':D} {x:KT}
theorem aiZ {t:Nat} (h:Wd (.sl t) a) (hp:a.l.length≠0):a=dL a.l:=by
 rcases h.sh with U|U|⟨U,_⟩
 ·subst U;exact absurd rfl hp
 ·subst U;exact absurd rfl hp
 ·exact U
theorem aaH {t:Nat} {b:D} (ha:Wd (.sl t) a) (hb:Wd (.sl t) b) (h:a.l=b.l):mS a=mS b:=by
 unfold mS;by_cases hz:(a.l.length:Int)=0
 ·rw [ag hz,ag (by rw [<- h]; exact hz)]
 ·rw [af hz,af (by rw [<- h]; exact hz),aiZ ha J,aiZ hb (by rw [<- h]; omega),h]
theorem ael {s:D} {n m:Nat} (h:xx s s') (G:Gs s n) (G':Gs s' m):cS s=cS s':=by
 have Y:=h.len;unfold cS;by_cases hz:s.l.length=0
 ·rw [ag hz,ag J]
 ·rw [af hz,af J];congr 1;refine List.ext_getElem (by rw [a8,a8]; omega) fun i U Z=>?_;rw [a8] at U Z;rw [axR,axR];obtain⟨o,c,dn,g,r,v,T,_⟩:=vz G (i:=(i:Int)) J J;obtain⟨o',c',EE,g',r',v',T',_⟩:=vz G' (i:=(i:Int)) J J;obtain⟨rfl,rfl,rfl,rfl,q4,q5⟩:=KQ T T' (h.vP i);have e1:=T.is;have e2:=T'.is;rw [bF U] at e1;rw [bF Z] at e2;rw [e1,e2];unfold jL;simp only [zg,ax,zw];rw [aaH T.hr T'.hr q4,aaH T.hv T'.hv q5]
theorem MW {s:D} {n m:Nat} {k:D} (S:Sw s k n) (S':Sw s' k' m) (hn:n<17592186044000) (hm:m<17592186044000) (h:cS s=cS s'):xx s s':=by have q:=(rI S hn).1;have q':=(rI S' hm).1;rw [<- h] at q';exact tr (sy q) q'
theorem aaS (f:D->D) (l:List D) (t0:0<=t) (y:D):(dg l t y).map f=dg (l.map f) t (f y):=by obtain⟨i,rfl⟩ : ∃i:Nat,t=(i:Int):=⟨t.toNat,J⟩;rw [Ct,Ct,List.map_set]
theorem Xv {k:D} (h:iQ k=iQ k') (t0:0<=t) {y:KT} (hx:nX x=nX y):iQ (gZ k t x)=iQ (gZ k' t y):=by
 have Y:k.l.length=k'.l.length:=by have:=congrArg (fun d=>d.l.length) h;simpa only [rP,a8] using this
 have hm:k.l.map cK=k'.l.map cK:=by have:=congrArg D.l h;simpa only [rP] using this
 have e: ∀(k:D) (x:KT),(gZ k t x).l.map cK=dg (k.l.map cK) t (nX x).d:=fun k x=>by rw [gZ,bz,aaS cK _ t0,Zl]
 unfold iQ;rw [wz,wz,Y,e,e,hm,hx]
theorem aj4 (x:KT):nX (nX x)=nX x:=by simp only [nX,SJ]
section
variable {d0 d1 s k:D} {n:Nat} (h0:Wd (.sl 3) d0) (U:Wd (.sl 4) d1) (S:Sw s k n) (hn:n<17592186043800)
include h0 U S hn
theorem aoa (R:Rs d0 d1 s k t x) (ho:fh d1 t x=0) (ha:low (fS d1 t x) 4=0):Sw s (gZ k t (jk (fk d1 t x) x)) n:=by
 have hp:0<k.l.length:=by have:=R.r.t0; have:=R.ht; omega
 exact⟨S.g,EM S.wk ((OI R.c R.ht R.r (CT R.r ho ha)).1.kt R.c) hp⟩
theorem anw (R:Rs d0 d1 s k t x) (ho:fh d1 t x=0) {op obj arg tries e1 e2 e3 e4 e5 oc:Int} (A:B2 d0 d1 s t op obj arg tries n s' e1 e2 e3 e4 e5 oc):Sw s' (gZ k t (eI (fk d1 t x) x op e2 e3 e4 oc)) (n+1):=by
 have hp:0<k.l.length:=by have:=R.r.t0; have:=R.ht; omega
 exact⟨A.gs,EM S.wk (w? R.c R.r (P7 R.r ho) A.e3 A.e4) hp⟩
theorem afX (t:Int): ∃(a ka a1 k1:D) (e1 e2 e3 e4 e5 oc:Int),L 1850 [enc d0,enc d1,enc s,enc k,t]=some [enc a,enc ka,e1,e2,e3,e4,e5,oc]/\L 1850 [enc d0,enc d1,enc (cS s),enc (iQ k),t]=some [enc a1,enc k1,e1,e2,e3,e4,e5,oc]/\
 cS a=cS a1/\iQ ka=iQ k1/\Sw a ka (n+1)/\Sx a1 k1 (n+1)/\El d0 d1 (cS s) (iQ k) t n a1 k1 e1 e2 e3 e4 e5 oc:=by
 obtain⟨hq,S1⟩:=rI S J;have hid:cS s=cS (cS s):=ael (sy hq) S.g S1.g;have kid:iQ k=iQ (iQ k):=(aen k).symm;have up:Sw s k (n+1):=⟨S.g.mono (aw8 n),S.wk⟩;rcases Ll (t:=t) S J h0 U with h|⟨x,R⟩
 ·have h':=(asv h0 U S J).2 h;exact⟨_,_,_,_,0,0,0,0,0,0,K9 S h,K9 S1 h',hid,kid,up,S1.mono (aw8 n),.no h'⟩
 ·have R1:=So h0 U S J R;have hxn:=EY R.c R.r;have t0:=R.r.t0;rcases AI d1 t x with ho|ho
  ·have YS:fh d1 t (nX x)=0:=ho;by_cases ha:low (fS d1 t x) 4=0
   ·have ha1:low (fS d1 t (nX x)) 4=0:=by rw [hxn]; exact ha
    have Y:=aob R.c R.r (CT R.r ho ha);have S2:=aoa h0 U S hn R ho ha;refine⟨_,_,_,_,0,0,0,0,0,1,zh S R ho ha,zh S1 R1 YS ha1,hid,Xv kid t0 ?_,⟨S2.g.mono (aw8 n),S2.wk⟩,(SX S1 J h0 U R1 YS ha1).mono (aw8 n),.loc (nX x) R1 YS ha1⟩;rw [show fk d1 t (nX x)=fk d1 t x from rfl,Y,aj4]
   ·obtain⟨op,obj,arg,tr,hq5⟩:=JG J ha;obtain⟨k1,k2,k3⟩:=VV R.c R.r R.c.ok.1 hq5
    have hU:fD .i64 t:=by have:=R.r.t1;have:=U.len;exact⟨J,J⟩
    obtain⟨a,e1,e2,e3,e4,e5,oc,A⟩:=KL (tries:=tr) h0 U S.g J hU k1 k2 k3;obtain⟨a',f1,f2,f3,f4,f5,oc',A'⟩:=KL (tries:=tr) h0 U S1.g J hU k1 k2 k3;have M:=((xD h0 U S J t).1 R.yes).2.2;obtain⟨q,rfl,rfl,rfl,rfl,rfl,rfl⟩:=anv h0 U (sy hq) S.g S1.g J k1 M.1 A A';have hq6:fS d1 t (nX x)= [op,obj,arg,tr,1]:=hxn.trans hq5;have Y:=anx R.c R.r (P7 R.r ho) op f2 f3 f4 oc';refine⟨_,_,_,_,_,_,_,_,_,_,zf S R ho hq5 A,zf S1 R1 YS hq6 A',ael q A.gs A'.gs,Xv kid t0 ?_,anw h0 U S hn R ho A,RE S1 R1.c R1.r R1.ht (P7 R1.r YS) A',.tri (nX x) R1 YS op obj arg tr hq6 k1 k2 k3 hU a' _ _ _ _ _ _ A' (RD h0 U S1.g J k1 A')⟩;rw [show fk d1 t (nX x)=fk d1 t x from rfl,Y,aj4]
  ·exact⟨_,_,_,_,0,0,0,0,0,4,Cp S R ho,Cp S1 R1 ho,hid,kid,up,S1.mono (aw8 n),.over (nX x) R1 ho⟩
end
end
def zZ (s:D) (t:Int) (x:KT):Int:=if x.w=24 then (if place ((s.at x.o).V 4) t<0 then 0 else 1) else if x.w=25 then (if x.g<((s.at x.o).V 3).n then 0 else 1) else 0
def PU (d1 s:D) (t:Int) (x:KT):Int:=if fh d1 t x=1 then 0 else if zZ s t x=0 then 1 else 0
section
variable {d0 d1 s k:D} {t:Int} {n:Nat} {x:KT} (S:Sw s k n) (hn:n<17592186043904) (R:Rs d0 d1 s k t x) (hle:s.l.length=d0.l.length)
include S hn R hle
theorem Ky:L 2850 [enc s,enc k,t]=some [zZ s t x]:=by
 have hk:=R.hk;have ht:=R.ht;have c1: ¬t<0:=by have:=R.r.t0; omega
 have hw:=R.r.ok.2.2.2.2.2;rw [bB,ale];unfold zZ
 have q:(x.w=24\/x.w=25)->((s.at x.o).V 4).l.length<=140737488351232/\¬x.o<0/\x.o<(s.l.length:Int):=fun h=>by exact aqi
 by_cases w4:x.w=24
 ·obtain⟨Y,o0,o1⟩:=q (.inl w4);have hh:=gV ((s.at x.o).V 4) t Y;by_cases hp:place ((s.at x.o).V 4) t<0
  ·rw [ag hp] at hh;simp only [NZ,zz,hk,c1,ht,zg,w4,o0,o1,hh,hp,bA,if_true]
  ·rw [af hp] at hh;simp only [NZ,zz,hk,c1,ht,zg,w4,o0,o1,hh,hp,bA,if_true,if_false,bM]
 ·by_cases w5:x.w=25
  ·obtain⟨Y,o0,o1⟩:=q (.inr w5);by_cases hp:x.g<((s.at x.o).V 3).n
   ·exact ah4
   ·exact ah4
  ·simp only [NZ,zz,hk,c1,ht,zg,w4,w5,bA,if_false]
theorem Zh:L 2900 [enc d0,enc d1,enc s,enc k,t]=some [PU d1 s t x]:=by
 have hk:=R.hk;have ht:=R.ht;have c1: ¬t<0:=by have:=R.r.t0; omega
 have c2:=R.r.t1;have hA:=Ky S hn R hle;rw [bB,ald];unfold PU fh Nc
 have KA:zZ s t x=0\/zZ s t x=1:=by
  unfold zZ
  repeat' split
  all_goals simp
 by_cases w0:x.w=0
 ·by_cases a0:x.a=(((d1.at t).V 2).l.length:Int)
  ·simp only [Vp,zz,hk,c1,c2,ht,zg,w0,a0,bA,if_true]
  ·rcases KA with h|h
   ·exact ail
   ·exact ail
 ·rcases KA with h|h
  ·exact aih
  ·exact aih
end
noncomputable def BT (d0 d1 s k:D) (u:Int):Int:=low ((L 2900 [enc d0,enc d1,enc s,enc k,u]).getD []) 0
def Ek (cnt:Int->Int) (c:D) (t:Int):Prop:=cnt t≠0/\∀u:Nat,u<c.l.length->((c.at (u:Int)).n<(c.at t).n\/(c.at (u:Int)).n=(c.at t).n/\(u:Int)<t)->cnt (u:Int)=0
section
variable {d0 d1 s k c:D} {t:Int} (hc: ∀u:Int,0<=u->u<(c.l.length:Int)->∃z:Int,L 2900 [enc d0,enc d1,enc s,enc k,u]=some [z]) (t0:0<=t) (t1:t<(c.l.length:Int)) (hb:c.l.length<=140737488351232)
include hc t0 t1 hb
theorem IJ: ∀(j i:Nat),i+j=c.l.length->∃b:Int,L 2951 [t,enc c,(c.l.length:Int),(i:Int),enc d0,enc d1,enc s,enc k]=some [b]/\(b=0\/b=1)/\
 (b=1↔∀u:Nat,i<=u->u<c.l.length->((c.at (u:Int)).n<(c.at t).n\/(c.at (u:Int)).n=(c.at t).n/\(u:Int)<t)->BT d0 d1 s k (u:Int)=0)
 |0,i,hi=>by
  have c1: ¬(i:Int)<(c.l.length:Int):=J
  refine⟨1,?_,.inr rfl,fun _ u h h'=>by omega,fun _=>rfl⟩;rw [bB,Eb];simp only [Dz,zz,c1,bA]
 |j+1,i,hi=>by
  have c1:(i:Int)<(c.l.length:Int):=J
  have c2: ¬((i:Int)<0):=J
  have c3: ¬(t<0):=J
  have w:=bx (n:=i) J;obtain⟨b,ih,yQ,O4⟩:=IJ j (i+1) J;obtain⟨z,hz⟩:=hc (i:Int) J c1
  have uG:BT d0 d1 s k (i:Int)=z:=by unfold BT;rw [hz];rfl
  have pass:(((c.at (i:Int)).n<(c.at t).n\/(c.at (i:Int)).n=(c.at t).n/\(i:Int)<t)->z=0)->(b=1↔∀u:Nat,i<=u->u<c.l.length->((c.at (u:Int)).n<(c.at t).n\/(c.at (u:Int)).n=(c.at t).n/\(u:Int)<t)->BT d0 d1 s k (u:Int)=0):=fun hp=>by
   rw [O4];refine⟨fun h u hu Y ha=>?_,fun h u hu Y ha=>h u J Y ha⟩;by_cases hui:u=i
   ·subst hui;rw [uG];exact hp ha
   ·exact h u J Y ha
  have stop:((c.at (i:Int)).n<(c.at t).n\/(c.at (i:Int)).n=(c.at t).n/\(i:Int)<t)->z≠0->((0:Int)=1↔∀u:Nat,i<=u->u<c.l.length->((c.at (u:Int)).n<(c.at t).n\/(c.at (u:Int)).n=(c.at t).n/\(u:Int)<t)->BT d0 d1 s k (u:Int)=0):=fun ha jK=>
   ⟨fun h=>by omega,fun h=>absurd (uG.symm.trans (h i (au _) J ha)) jK⟩
  by_cases l1:(c.at (i:Int)).n<(c.at t).n
  ·by_cases z0:z=0
   ·refine⟨b,?_,yQ,pass fun _=>z0⟩;rw [bB,Eb];simp only [Dz,zz,c1,c2,c3,t1,w,l1,hz,z0,bI,ih]
   ·refine⟨0,?_,.inl rfl,stop (.inl l1) z0⟩;rw [bB,Eb];simp only [Dz,zz,c1,c2,c3,t1,w,l1,hz,af z0,bA]
  ·by_cases l2:(c.at (i:Int)).n=(c.at t).n
   ·by_cases l3:(i:Int)<t
    ·by_cases z0:z=0
     ·refine⟨b,?_,yQ,pass fun _=>z0⟩;rw [bB,Eb];simp only [Dz,zz,c1,c2,c3,t1,w,af l1,ag l2,l3,hz,z0,bI,ih]
     ·refine⟨0,?_,.inl rfl,stop (.inr ⟨l2,l3⟩) z0⟩;rw [bB,Eb];simp only [Dz,zz,c1,c2,c3,t1,w,af l1,ag l2,l3,hz,af z0,bA]
    ·refine⟨b,?_,yQ,pass fun h=>by omega⟩;rw [bB,Eb];simp only [Dz,zz,c1,c2,c3,t1,w,af l1,ag l2,af l3,bI,ih]
   ·refine⟨b,?_,yQ,pass fun h=>by omega⟩;rw [bB,Eb];simp only [Dz,zz,c1,c2,c3,t1,w,af l1,af l2,bI,ih]
theorem ae6: ∃b:Int,L 2950 [enc d0,enc d1,enc s,enc k,enc c,t]=some [b]/\(b=0\/b=1)/\(b=1↔Ek (BT d0 d1 s k) c t):=by
 obtain⟨b,hL,yQ,O4⟩:=IJ hc t0 t1 hb c.l.length 0 J;obtain⟨z,hz⟩:=hc t t0 t1
 have uG:BT d0 d1 s k t=z:=by unfold BT;rw [hz];rfl
 unfold Ek;rw [uG];rw [bj] at hL;by_cases z0:z=0
 ·refine⟨0,?_,.inl rfl,fun h=>by omega,fun h=>absurd z0 h.1⟩;rw [bB,ac5];simp only [N_,zz,hz,z0,bA]
 ·refine⟨b,?_,yQ,O4.trans ⟨fun h=> ⟨z0,fun u hu ha=>h u (aw1 _) hu ha⟩,fun h u _ hu ha=>h.2 u hu ha⟩⟩;rw [bB,ac5];simp only [N_,zz,hz,af z0,bI,hL]
end
theorem OC (c:D) (hb:c.l.length<=140737488351232): ∀(j i:Nat),i+j=c.l.length->∃b:Int,L 16051 [enc c,(c.l.length:Int),(i:Int)]=some [b]/\(b<0↔∀u:Nat,i<=u->u<c.l.length->0<=(c.at (u:Int)).n)
 |0,i,hi=>by
  have c1: ¬(i:Int)<(c.l.length:Int):=J
  refine⟨-1,?_,fun _ u h h'=>by omega,fun _=>by omega⟩;rw [bB,MD];simp only [K1,zz,c1,bA]
 |j+1,i,hi=>by
  have c1:(i:Int)<(c.l.length:Int):=J
  have c2: ¬((i:Int)<0):=J
  have w:=bx (n:=i) J;obtain⟨b,ih,O4⟩:=OC c hb j (i+1) J;by_cases hz:(c.at (i:Int)).n<0
  ·refine⟨(i:Int),?_,fun h=>by omega,fun h=>?_⟩
   ·rw [bB,MD];simp only [K1,zz,c1,c2,hz,bA]
   ·have:=h i (au _) J;omega
  ·refine⟨b,?_,O4.trans ⟨fun h u hu Y=>?_,fun h u hu Y=>h u J Y⟩⟩
   ·rw [bB,MD];simp only [K1,zz,c1,c2,af hz,w,bI,ih]
   ·by_cases hui:u=i
    ·subst hui; omega
    ·exact h u J Y
def KR (d0 d1 s k c:D):Prop:=c.l.length=d1.l.length/\(∀u:Nat,u<c.l.length->0<=(c.at (u:Int)).n)/\MR d0 d1 s k
theorem CX {d0 d1 s k c:D} (h0:Wd (.sl 3) d0) (U:Wd (.sl 4) d1) (hr:zk s) (hb:c.l.length<=140737488351232):bK 2750 [enc d0,enc d1,enc s,enc k,enc c] (Ey (KR d0 d1 s k c)):=by
 obtain⟨ys,hM,m,rfl,hm⟩:=JJ h0 U hr U.len (k:=k);obtain⟨b,hL,O4⟩:=OC c hb c.l.length 0 J;rw [bj] at hL
 have Ib:L 16050 [enc c]=some [b]:=by rw [bB,ads];simp only [R!,zz,bI,hL]
 have h00:L 16000 [enc c]=some [if b<0 then 0 else 1]:=by
  rw [bB,adt];by_cases mT:b<0
  ·simp only [RV,zz,Ib,mT,bA,if_true]
  ·simp only [RV,zz,Ib,mT,bA,if_false]
 unfold KR;refine bK.of ?_;rw [alf];by_cases Y:(c.l.length:Int)=(d1.l.length:Int)
 ·by_cases mT:b<0
  ·rw [ag mT] at h00;simp only [Vq,zz,Y,h00,hM];have C5:=fun u hu=>O4.1 mT u (aw1 _) hu;refine .ite (fun h=> .out (kA fun q=>?_)) (fun h=> .out (A6 ⟨J,C5,?_⟩))
   ·rcases hm with ⟨_,hm⟩|⟨h',_⟩
    ·exact hm q.2.2
    ·omega
   ·rcases hm with ⟨h',_⟩|⟨_,hm⟩
    ·exact absurd h' h
    ·exact hm
  ·rw [af mT] at h00;simp only [Vq,zz,Y,h00,bM];exact .out (kA fun q=>mT (O4.2 fun u _ hu=>q.2.1 u hu))
 ·simp only [Vq,zz,af Y];exact .out (kA fun q=>Y (by have:=q.1; omega))
theorem Od (x1 x2:Int) (c:D) (hb:c.l.length<=140737488351232): ∀(j i:Nat),i+j=c.l.length->bK 22801 [(i:Int),x1,x2,enc c] (Ey (∀u:Nat,i<=u->u<c.l.length->0<=(c.at (u:Int)).n))
 |0,i,hi=>by
  have c1: ¬(i:Int)<(c.l.length:Int):=J
  refine bK.of ?_;rw [Uc];simp only [RM,zz,c1];exact .out (A6 fun u h h'=>by omega)
 |j+1,i,hi=>by
  have c1:(i:Int)<(c.l.length:Int):=J
  have c2: ¬((i:Int)<0):=J
  have w:=bx (n:=i) J;obtain⟨ys,hL,b,rfl,ih⟩:=Od x1 x2 c hb j (i+1) J;refine bK.of ?_;rw [Uc];simp only [RM,zz,c1,c2,w];refine .ite (fun h=> .out (kA fun q=>?_)) fun h=> .jump ⟨_,hL,b,rfl,?_⟩
  ·have:=q i (au _) J;omega
  ·rcases ih with ⟨q,ih⟩|⟨q,ih⟩
   ·exact .inl ⟨q,fun z=>ih fun u hu=>z u J⟩
   ·refine .inr ⟨q,fun u hu Y=>?_⟩;by_cases hui:u=i
    ·subst hui;omega
    ·exact ih u J Y
theorem Lp {d0 d1 s k c:D} {n:Nat} (h0:Wd (.sl 3) d0) (U:Wd (.sl 4) d1) (S:Sw s k n) (hn:n<17592186044000) (hb:c.l.length<=140737488351232):bK 22800 [enc d0,enc d1,enc s,enc k,enc c] (Ey (KR d0 d1 s k c)):=by
 obtain⟨ys,hM,m,rfl,hm⟩:=N9 h0 U S hn;obtain⟨ys,hL,b,rfl,tT⟩:=Od (enc s) (enc k) c hb c.l.length 0 J;rw [bj] at hL;refine bK.of ?_;rw [ac9];simp only [N!,zz,hM];refine .ite (fun h=> .out (kA fun q=>?_)) fun h=> .ite (fun Y=> .jump ⟨_,hL,b,rfl,?_⟩) fun Y=> .out (kA fun q=>?_)
 ·have:=q.2.2;rcases hm with ⟨_,hm⟩|⟨hm,_⟩
  ·exact hm this
  ·omega
 ·have M:MR d0 d1 s k:=by
   rcases hm with ⟨hm,_⟩|⟨_,hm⟩
   ·omega
   ·exact hm
  rcases tT with ⟨q,tT⟩|⟨q,tT⟩
  ·exact .inl ⟨q,fun z=>tT fun u _ hu=>z.2.1 u hu⟩
  ·exact .inr ⟨q,J,fun u hu=>tT u (aw1 _) hu,M⟩
 ·have:=q.1;omega
section
variable {t:Int} {r:D} (hr:r.l.length<=140737488351232)
include hr
theorem VF: ∀(j i:Nat),i+j=r.l.length->bK 22901 [t,enc r,(i:Int)] (Ey (t∈(r.l.drop i).map D.n))
 |0,i,hi=>by
  have c1: ¬(i:Int)<(r.l.length:Int):=J
  refine bK.of ?_;rw [Ub,aN J];simp only [RL,zz,c1];exact .out (kA ad)
 |j+1,i,hi=>by
  have cY:i<r.l.length:=J
  have c1:(i:Int)<(r.l.length:Int):=J
  have c2: ¬((i:Int)<0):=J
  have w:=bx (n:=i) J;obtain⟨ys,hL,b,rfl,ih⟩:=VF j (i+1) J;refine bK.of ?_;rw [Ub,aG cY,aC];simp only [RL,zz,c1,c2,w,bF cY];refine .ite (fun h=> .out (A6 (by rw [h]; exact awO))) fun h=> .jump ⟨_,hL,b,rfl,?_⟩;rcases ih with ⟨q,ih⟩|⟨q,ih⟩
  ·refine .inl ⟨q,fun z=>?_⟩;rcases aF.1 z with z|z
   ·exact h z.symm
   ·exact ih z
  ·exact .inr ⟨q,aw3 _ ih⟩
end
section
variable {d0 d1 s k:D} {t:Int} {n:Nat} {x:KT} (h0:Wd (.sl 3) d0) (U:Wd (.sl 4) d1) (S:Sw s k n) (hn:n<17592186043904) (R:Rs d0 d1 s k t x) (hle:s.l.length=d0.l.length)
include S hn R hle
theorem P9 (xc:Int):L 22900 [enc s,enc k,xc,t]=some [zZ s t x]:=by
 have hk:=R.hk;have ht:=R.ht;have c1: ¬t<0:=by have:=R.r.t0; omega
 have hw:=R.r.ok.2.2.2.2.2
 have q:(x.w=24\/x.w=25)->((s.at x.o).V 4).l.length<=140737488351232/\¬x.o<0/\x.o<(s.l.length:Int):=fun h=>by exact aqi
 have:bK 22900 [enc s,enc k,xc,t] (·= [zZ s t x]):=by
  refine bK.of ?_;rw [ac8];unfold zZ;by_cases w4:x.w=24
  ·obtain⟨Y,o0,o1⟩:=q (.inl w4);obtain⟨ys,hL,b,rfl,hb⟩:=VF (t:=t) Y ((s.at x.o).V 4).l.length 0 J;rw [awQ,bj] at *;have hp:=Jk ((s.at x.o).V 4) t;simp only [KU,zz,hk,c1,ht,zg,w4,o0,o1,if_true];refine .jump ⟨_,hL,?_⟩;by_cases n9:place ((s.at x.o).V 4) t<0
   ·rw [ag n9];rcases hb with ⟨rfl,_⟩|⟨_,hb⟩
    ·rfl
    ·exact absurd hb (hp.1 n9)
   ·rw [af n9];rcases hb with ⟨_,hb⟩|⟨rfl,_⟩
    ·exact absurd (hp.2 hb) n9
    ·rfl
  ·by_cases w5:x.w=25
   ·obtain⟨Y,o0,o1⟩:=q (.inr w5);simp only [KU,zz,hk,c1,ht,zg,w5,o0,o1,if_true,if_false,Int.reduceEq];exact .ite (fun h=> .out (by rw [ag h])) fun h=> .out (by rw [af h])
   ·simp only [KU,zz,hk,c1,ht,zg,w4,w5,if_false];exact .out rfl
 exact rX
theorem aez:zZ s t x=0\/zZ s t x=1:=by
 unfold zZ
 repeat' split
 all_goals simp
include h0 U
theorem aeg (xc:Int):L 22950 [enc d0,enc d1,enc s,enc k,xc,t]=some [PU d1 s t x]:=by
 have hF:=rB h0 U S J R;have hA:=P9 S hn R hle xc;rw [bB,ac7];unfold PU;rcases AI d1 t x with ho|ho
 ·rw [ho] at hF ⊢;rcases aez S hn R hle with h|h
  ·exact ahW
  ·exact ahW
 ·rw [ho] at hF ⊢;simp only [RJ,zz,hF,bA,if_true,if_false,Int.reduceEq]
end
def aeH (cnt:Int->Int) (c:D) (m:Nat) (t:Int):Prop:=cnt t≠0/\∀u:Nat,u<m->(u:Int)≠t->cnt (u:Int)≠0->¬((c.at (u:Int)).n<(c.at t).n\/(c.at (u:Int)).n=(c.at t).n/\(u:Int)<t)
theorem ae5 {cnt:Int->Int} {c:D} {t:Int}:aeH cnt c c.l.length t↔Ek cnt c t:=by
 unfold aeH Ek;refine⟨fun h=> ⟨h.1,fun u hu ha=>?_⟩,fun h=> ⟨h.1,fun u hu jK hc ha=>hc (h.2 u hu ha)⟩⟩;have:=h.2 u hu;by_cases hut:(u:Int)=t
 ·rw [hut] at ha;omega
 ·by_cases hc:cnt (u:Int)=0
  ·exact hc
  ·exact absurd ha (this hut hc)
section
variable {d0 d1 s k c:D} {t:Int} {cnt:Int->Int} (hc: ∀u:Int,0<=u->u<(d1.l.length:Int)->L 22950 [enc d0,enc d1,enc s,enc k,enc c,u]=some [cnt u]) (t0:0<=t) (t1:t<(d1.l.length:Int)) (vK:c.l.length=d1.l.length) (hb:d1.l.length<=140737488351232)
include hc t0 t1 vK hb
theorem Dw: ∀(j i:Nat),i+j=d1.l.length->bK 23001 [t,(i:Int),enc d0,enc d1,enc s,enc k,enc c] (Ey (∀u:Nat,i<=u->u<d1.l.length->(u:Int)≠t->cnt (u:Int)≠0->¬((c.at (u:Int)).n<(c.at t).n\/(c.at (u:Int)).n=(c.at t).n/\(u:Int)<t)))
 |0,i,hi=>by
  have c1: ¬(i:Int)<(d1.l.length:Int):=J
  refine bK.of ?_;rw [Ua];simp only [RI,zz,c1];exact .out (A6 fun u h h'=>by omega)
 |j+1,i,hi=>by
  have c1:(i:Int)<(d1.l.length:Int):=J
  have c2: ¬((i:Int)<0):=J
  have c3: ¬(t<0):=J
  have c4:(i:Int)<(c.l.length:Int):=J
  have c5:t<(c.l.length:Int):=J
  have w:=bx (n:=i) J;have hcu:=hc (i:Int) J c1;obtain⟨ys,hL,b,rfl,ih⟩:=Dw j (i+1) J
  have go:(((i:Int)≠t->cnt (i:Int)≠0->¬((c.at (i:Int)).n<(c.at t).n\/(c.at (i:Int)).n=(c.at t).n/\(i:Int)<t)))->Ey (∀u:Nat,i<=u->u<d1.l.length->(u:Int)≠t->cnt (u:Int)≠0->¬((c.at (u:Int)).n<(c.at t).n\/(c.at (u:Int)).n=(c.at t).n/\(u:Int)<t)) [b]:=fun h=> ⟨b,rfl,ih.imp (fun q=> ⟨q.1,fun z=>q.2 fun u hu=>z u J⟩) fun q=> ⟨q.1,fun u hu Y=>by
   by_cases hui:u=i
   ·subst hui;exact h
   ·exact q.2 u J Y⟩⟩
  have no:((i:Int)≠t/\cnt (i:Int)≠0/\((c.at (i:Int)).n<(c.at t).n\/(c.at (i:Int)).n=(c.at t).n/\(i:Int)<t))->Ey (∀u:Nat,i<=u->u<d1.l.length->(u:Int)≠t->cnt (u:Int)≠0->¬((c.at (u:Int)).n<(c.at t).n\/(c.at (u:Int)).n=(c.at t).n/\(u:Int)<t)) [0]:=fun h=>kA fun q=>q i (au _) J h.1 h.2.1 h.2.2;refine bK.of ?_;rw [Ua];simp only [RI,zz,c1,c2,c3,c4,c5,w,hcu]
  repeat' first
   |exact .jump ⟨_,hL,go J⟩
   |exact .out (no J)
   |refine .ite (fun _=>?_) (fun _=>?_)
end
theorem XW {d0 d1 s k c:D} {n:Nat} {t:Int} {cnt:Int->Int} (h0:Wd (.sl 3) d0) (U:Wd (.sl 4) d1) (S:Sw s k n) (hn:n<17592186044000) (hb:c.l.length<=140737488351232)
 (hc:KR d0 d1 s k c->∀u:Int,0<=u->u<(d1.l.length:Int)->L 22950 [enc d0,enc d1,enc s,enc k,enc c,u]=some [cnt u])
 {p:Prop} (hp:p↔0<=t/\t<(d1.l.length:Int)/\KR d0 d1 s k c/\Ek cnt c t):bK 23000 [enc d0,enc d1,enc s,enc k,enc c,t] (Ey p):=by
 obtain⟨ys,hR,m,rfl,hm⟩:=Lp h0 U S hn hb;refine bK.of ?_;rw [Hq];rcases hm with ⟨rfl,hm⟩|⟨rfl,K⟩
 ·simp only [we,zz,hR];exact .out (kA fun q=>hm (hp.1 q).2.2.1)
 ·by_cases t0:t<0
  ·simp only [we,zz,hR,fP,t0];exact .out (kA fun q=>by have:=(hp.1 q).1; omega)
  ·by_cases t1:t<(d1.l.length:Int)
   ·have vK:=K.1;obtain⟨ys,hL,b,rfl,tT⟩:=Dw (d0:=d0) (s:=s) (k:=k) (hc K) J t1 vK U.len d1.l.length 0 J;rw [bj] at hL;have hct:=hc K t J t1;have hpq:=ae5 (cnt:=cnt) (c:=c) (t:=t);unfold aeH at hpq;rw [vK] at hpq;simp only [we,zz,hR,fP,t0,t1,hct];refine .ite (fun h=> .out (kA fun q=>(hp.1 q).2.2.2.1 h)) fun h=> .jump ⟨_,hL,b,rfl,?_⟩;rcases tT with ⟨q,tT⟩|⟨q,tT⟩
    ·exact .inl ⟨q,fun z=>tT fun u _ hu=>(hpq.2 (hp.1 z).2.2.2).2 u hu⟩
    ·exact .inr ⟨q,hp.2 ⟨J,t1,K,hpq.1 ⟨h,fun u hu=>tT u (aw1 _) hu⟩⟩⟩
   ·simp only [we,zz,hR,fP,t0,t1];exact .out (kA fun q=>t1 (hp.1 q).2.1)
section
variable {d:D}
section
variable {k c:D} (hk:Tk k) (hc:Wd (.sl 0) c)
include hk hc
theorem Wg (x:Int): ∀(j i:Nat) (acc:List D),i+j=k.l.length->acc.length=i->L 3055 [enc k,(k.l.length:Int),(i:Int),x,enc c,enc (dL acc)]=some [enc (.i 1),enc (dL (acc++k.l.drop i)),enc c]
 |0,i,acc,hi,ha=>by
  have c1: ¬(i:Int)<(k.l.length:Int):=J
  rw [aN J,awU,bB,ac0];rcases bV hc with rfl|rfl|⟨r1,r2⟩
  ·simp only [IS,zz,c1,gK,fY,nj,gJ,bA]
  ·simp only [IS,zz,c1,gK,fY,nj,gJ,bA]
  ·simp only [IS,zz,c1,r1,r2,bA]
 |j+1,i,acc,hi,ha=>by
  have cY:i<k.l.length:=J
  have hf:=hk.lD;have c1:(i:Int)<(k.l.length:Int):=J
  have c2: ¬((i:Int)<0):=J
  have c4:(acc.length:Int)<2199023255551:=J
  have w:=bx (n:=i) J;obtain⟨a,lc,w',o,g,tr,T⟩:=fq hk.wd _ (aq cY);have he:=T.is;have ih:=Wg x j (i+1) (acc++ [k.l[i]]) J (by rw [aZ,ha]; rfl);rw [bk,aK,aw,<- aG cY] at ih;rw [he] at ih;simp only [ee,eW] at ih;rw [bB,ac0];rcases bV T.Y with rfl|rfl|⟨r1,r2⟩
  ·exact ap6
  ·exact ap6
  ·simp only [IS,zz,c1,c2,c4,w,bF cY,he,dN,bz,az,aA,ax,gK,fY,nj,gJ,bI,r1,r2];exact ih
theorem Wf (x:Int) (y:Int): ∀(j i:Nat) (acc:List D),i+j=k.l.length->acc.length=i->L 3056 [enc k,(k.l.length:Int),(i:Int),x,enc c,y,enc (dL acc)]=some [y,enc (dL (acc++k.l.drop i)),enc c]
 |0,i,acc,hi,ha=>by
  have c1: ¬(i:Int)<(k.l.length:Int):=J
  rw [aN J,awU,bB,acZ];rcases bV hc with rfl|rfl|⟨r1,r2⟩
  ·simp only [IQ,zz,c1,gK,fY,nj,gJ,bA]
  ·simp only [IQ,zz,c1,gK,fY,nj,gJ,bA]
  ·simp only [IQ,zz,c1,r1,r2,bA]
 |j+1,i,acc,hi,ha=>by
  have cY:i<k.l.length:=J
  have hf:=hk.lD;have c1:(i:Int)<(k.l.length:Int):=J
  have c2: ¬((i:Int)<0):=J
  have c4:(acc.length:Int)<2199023255551:=J
  have w:=bx (n:=i) J;obtain⟨a,lc,w',o,g,tr,T⟩:=fq hk.wd _ (aq cY);have he:=T.is;have ih:=Wf x y j (i+1) (acc++ [k.l[i]]) J (by rw [aZ,ha]; rfl);rw [bk,aK,aw,<- aG cY] at ih;rw [he] at ih;simp only [ee,eW] at ih;rw [bB,acZ];rcases bV T.Y with rfl|rfl|⟨r1,r2⟩
  ·exact ap5
  ·exact ap5
  ·simp only [IQ,zz,c1,c2,c4,w,bF cY,he,dN,bz,az,aA,ax,gK,fY,nj,gJ,bI,r1,r2];exact ih
end
def nE (d:D):D:=if d.l.length=0 then .i 1 else d
theorem an6 (h:d.l.length=0):nE d= .i 1:=ag h
theorem an5 (h: ¬d.l.length=0):nE d=d:=af h
section
variable {k c:D} (Ra:0<k.l.length->Tk k) (hc:Wd (.sl 0) c)
include Ra hc
theorem af4 (x:Int):L 3053 [enc k,(k.l.length:Int),x,enc c]=some [enc (.i 1),enc (nE k),enc c]:=by
 by_cases hz:k.l.length=0
 ·have c1: ¬(0:Int)<(k.l.length:Int):=J
  rw [bB,ac2,an6 hz];rcases bV hc with rfl|rfl|⟨r1,r2⟩
  ·simp only [IU,zz,c1,gK,fY,nj,gJ,bA]
  ·simp only [IU,zz,c1,gK,fY,nj,gJ,bA]
  ·simp only [IU,zz,c1,r1,r2,bA]
 ·rw [an5 hz];have hp:0<k.l.length:=J
  have hk:=Ra hp;have c1:(0:Int)<(k.l.length:Int):=J
  obtain⟨a,lc,w',o,g,tr,T⟩:=fq hk.wd _ (aq hp);have he:=T.is;have ih:=Wg hk hc x (k.l.length-1) 1 [k.l[0]] J rfl;rw [aK,aw,<- aG hp,awQ,<- hk.sh] at ih;rw [he] at ih;simp only [ee,eW] at ih;have a0:k.at 0=k.l[0]:=bF (i:=0) hp;rw [bB,ac2];rcases bV T.Y with rfl|rfl|⟨r1,r2⟩
  ·exact aiN
  ·exact aiN
  ·simp only [IU,zz,c1,a0,he,dN,bz,pQ,aw,az,aA,r1,r2,bI];exact ih
theorem af3 (x:Int) (y:Int):L 3054 [enc k,(k.l.length:Int),x,enc c,y]=some [y,enc (nE k),enc c]:=by
 by_cases hz:k.l.length=0
 ·have c1: ¬(0:Int)<(k.l.length:Int):=J
  rw [bB,ac1,an6 hz];rcases bV hc with rfl|rfl|⟨r1,r2⟩
  ·simp only [IT,zz,c1,gK,fY,nj,gJ,bA]
  ·simp only [IT,zz,c1,gK,fY,nj,gJ,bA]
  ·simp only [IT,zz,c1,r1,r2,bA]
 ·rw [an5 hz];have hp:0<k.l.length:=J
  have hk:=Ra hp;have c1:(0:Int)<(k.l.length:Int):=J
  obtain⟨a,lc,w',o,g,tr,T⟩:=fq hk.wd _ (aq hp);have he:=T.is;have ih:=Wf hk hc x y (k.l.length-1) 1 [k.l[0]] J rfl;rw [aK,aw,<- aG hp,awQ,<- hk.sh] at ih;rw [he] at ih;simp only [ee,eW] at ih;have a0:k.at 0=k.l[0]:=bF (i:=0) hp;rw [bB,ac1];rcases bV T.Y with rfl|rfl|⟨r1,r2⟩
  ·exact aiM
  ·exact aiM
  ·simp only [IT,zz,c1,a0,he,dN,bz,pQ,aw,az,aA,r1,r2,bI];exact ih
end
section
variable {s k c:D} (hs:Th s)
include hs
theorem aa7: ∀(j i:Nat) (acc:List D),i+j=s.l.length->acc.length=i->L 3052 [enc s,(s.l.length:Int),(i:Int),enc k,enc c,enc (dL acc)]=L 3054 [enc k,(k.l.length:Int),enc s,enc c,enc (dL (acc++s.l.drop i))]
 |0,i,acc,hi,ha=>by
  have c1: ¬(i:Int)<(s.l.length:Int):=J
  rw [aN J,awU,bB,ac3];simp only [M!,zz,c1,bI]
 |j+1,i,acc,hi,ha=>by
  have cY:i<s.l.length:=J
  have hf:=hs.lD;have c1:(i:Int)<(s.l.length:Int):=J
  have c2: ¬((i:Int)<0):=J
  have c4:(acc.length:Int)<1759218604440:=J
  have w:=bx (n:=i) J;obtain⟨o,c',dn,g,r,v,he,_,_,V,_,hr,hv⟩:=hs.wd.j7 _ (aq cY);have ih:=aa7 j (i+1) (acc++ [s.l[i]]) J (by rw [aZ,ha]; rfl);rw [bk,aK,aw,<- aG cY] at ih;rw [he] at ih;simp only [ee,eW] at ih;rw [bB,ac3];rcases V with rfl|rfl<;>rcases bV hr with rfl|rfl|⟨r1,r2⟩ <;>rcases bV hv with rfl|rfl|⟨v1,v2⟩
  all_goals
   simp only [M!,zz,c1,c2,c4,w,bF cY,he,dN,bz,az,aA,gK,fY,nj,gJ]
   try simp only [r1,r2,zz]
   try simp only [v1,v2,zz]
   try simp only [bI,if_true,bM,if_false]
   exact ih
end
section
variable {s k c:D} (Wy:0<s.l.length->Th s) (Ra:0<k.l.length->Tk k) (hc:Wd (.sl 0) c)
include Wy Ra hc
theorem S6:L 3050 [enc s,enc k,enc c]=some [enc (nE s),enc (nE k),enc c]:=by
 have h:L 3051 [enc s,(s.l.length:Int),enc k,enc c]=some [enc (nE s),enc (nE k),enc c]:=by
  by_cases hz:s.l.length=0
  ·have c1: ¬(0:Int)<(s.l.length:Int):=J
   have h:=af4 Ra hc (enc s);rw [bB,ac4,an6 hz];simp only [M?,zz,c1,bI];exact h
  ·rw [an5 hz];have hp:0<s.l.length:=J
   have hs:=Wy hp;have c1:(0:Int)<(s.l.length:Int):=J
   obtain⟨o,c',dn,g,r,v,he,_,_,V,_,hr,hv⟩:=hs.wd.j7 _ (aq hp);have ih:=aa7 (k:=k) (c:=c) hs (s.l.length-1) 1 [s.l[0]] J rfl;rw [aK,aw,<- aG hp,awQ,<- hs.sh,af3 Ra hc] at ih;rw [he] at ih;simp only [ee,eW] at ih;have a0:s.at 0=s.l[0]:=bF (i:=0) hp;rw [bB,ac4];rcases V with rfl|rfl<;>rcases bV hr with rfl|rfl|⟨r1,r2⟩ <;>rcases bV hv with rfl|rfl|⟨v1,v2⟩
   all_goals
    simp only [M?,zz,c1,a0,he,dN,bz,pQ,aw,az,aA,gK,fY,nj,gJ]
    try simp only [r1,r2,zz]
    try simp only [v1,v2,zz]
    try simp only [bI,if_true,bM,if_false]
    exact ih
 rw [bB,alc];simp only [ajH,zz,bI];exact h
end
theorem Sw.asG {s k c:D} {n:Nat} (S:Sw s k n) (hc:Wd (.sl 0) c):L 3050 [enc s,enc k,enc c]=some [enc (nE s),enc (nE k),enc c]:=
 S6 (fun h=>yF S.g.wd h) (fun h=>Dx S.wk h) hc
end
end Go.As.Try
end

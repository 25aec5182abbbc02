import Derived.Lib.Bytealg
import Derived.Lib.IndexMore
import Derived.Test.YtopneoeampkonacGreatDoorAsZW0
set_option linter.unusedSectionVars false
set_option linter.unusedVariables false
set_option linter.unusedSimpArgs false
section
namespace Go.As
theorem jO.rd {ro:Nat->Prop} {h:Array Obj} {c:CK} {d:D} {u:Value} (r:jO ro h c d u) (wf:qR c d):Rd ro h c d u:=by
 cases c with
 |int k=> simp only [jO,qR] at r wf;rw [wf,r];exact .int k d.n
 |bool=>
  simp only [jO,qR] at r wf;subst r;rcases wf with rfl|rfl
  ·exact .bool false
  ·exact .bool true
 |str=>exact r
 |sl t=>exact r
theorem dZ.get {ro:Nat->Prop} {h:Array Obj} {d:D}: ∀{cs:List CK} {j:Nat} {us:List Value},dZ ro h cs j d us->∀{k:Nat} {c:CK},cs[k]?=some c->∃u,us[k]?=some u/\jO ro h c (d.W (j+k)) u
 |[],_,_,_,k,c,hk=>by simp at hk
 |c0::cs,j,us,hh,k,c,hk=>by
  simp only [dZ] at hh;obtain⟨u,vs,rfl,U,Z⟩:=hh
  cases k with
  |zero=>
   grind
  |succ k=>
   obtain⟨x,h3,h4⟩:=Z.get (by simpa using hk)
   grind
theorem dZ.length {ro:Nat->Prop} {h:Array Obj} {d:D}: ∀{cs:List CK} {j:Nat} {us:List Value},dZ ro h cs j d us->us.length=cs.length
 |[],_,us,hh=>by simp only [dZ] at hh; subst hh; rfl
 |c::cs,j,us,hh=>by simp only [dZ] at hh;obtain⟨u,vs,rfl,_,Z⟩:=hh;simp [Z.length]
theorem dZ.shift {ro:Nat->Prop} {h:Array Obj} {a b:D}: ∀{cs:List CK} {j:Nat} {us:List Value},dZ ro h cs (j+1) (.p a b) us↔dZ ro h cs j b us
 |[],_,us=>by simp only [dZ]
 |c::cs,j,us=>by
  simp only [dZ,Aq];constructor
  ·rintro⟨u,vs,rfl,U,Z⟩;exact⟨u,vs,rfl,U,dZ.shift.1 Z⟩
  ·rintro⟨u,vs,rfl,U,Z⟩;exact⟨u,vs,rfl,U,dZ.shift.2 Z⟩
section
variable {P:Program} {E:En} {w:World}
theorem n8 {ρ:Nat->Int} {c:CK} {v:AV} {a:V} (h:nD c v=some a):qR c (dec (a.den ρ)):=by
 unfold nD at h;split at h
 ·split at h
  ·split at h
   ·simp only [aq] at h;subst h;simp only [qR,mi,bD,D.n]
   grind
  grind
 ·split at h
  ·split at h
   ·rename_i b;simp only [aq] at h;subst h;simp only [qR,V.den,bD]
    grind
   ·split at h
    ·split at h
     ·split at h
      ·simp only [aq] at h;subst h;simp only [qR,V.den,fX.den,bD]
       grind
      grind
     grind
    grind
   grind
  grind
 ·trivial
 ·trivial
theorem lL {h:Array Obj} {c:CK} {v:AV} {u:Value} {a:V} (hv:VR E h v u) (hc:nD c v=some a):jO E.ro h c (dec (a.den E.ρ)) u:=by
 unfold nD at hc;split at hc
 ·split at hc
  ·split at hc
   ·rename_i hk;subst hk;simp only [aq] at hc;subst hc;simp only [VR] at hv;simp only [jO,mi,bD,D.n];exact hv
   grind
  grind
 ·split at hc
  ·split at hc
   ·rename_i b;simp only [aq] at hc;subst hc;simp only [VR,SB.den] at hv;subst hv;simp only [jO,V.den,bD];cases b<;>rfl
   ·split at hc
    ·split at hc
     ·split at hc
      ·rename_i x n hn;subst hn;simp only [aq] at hc;subst hc;simp only [VR,SB.den,V.den] at hv;subst hv;simp only [jO,V.den,fX.den,mi,bD,D.n];congr 2
       grind
      grind
     grind
    grind
   grind
  grind
 ·obtain⟨s,rfl,hs⟩:=zt hv hc;simp only [jO,hs];exact .str s
 ·split at hc
  ·split at hc
   ·rename_i ht;subst ht;simp only [aq] at hc;subst hc;exact hv
   grind
  ·simp only [aq] at hc;subst hc;simp only [VR] at hv;subst hv;simp only [jO,V.den,bD];exact .nil _
  ·split at hc
   ·rename_i ht;subst ht;simp only [aq] at hc;subst hc;simp only [VR] at hv;exact hv.2
   grind
  ·split at hc
   ·simp only [aq] at hc;subst hc;simp only [VR] at hv;obtain⟨_,a,cap,rfl,_⟩:=hv;simp only [jO,V.den,bD];exact .xc _ _ _
   grind
  grind
theorem AX {ρ:Nat->Int}: ∀{cs:List CK} {vs:List AV} {x:V},jL cs vs=some x->K0 cs (dec (x.den ρ))
 |[],[],x,h=>by
  simp only [jL,aq] at h;subst h;refine⟨?_,?_,?_⟩
  ·simp only [V.den,bD]; rfl
  ·simp only [V.den,bD]; rfl
  grind
 |[],_::_,x,h=>by simp [jL] at h
 |_::_,[],x,h=>by simp [jL] at h
 |c::cs,v::vs,x,h=>by
  simp only [jL] at h;split at h
  ·grind
  ·rename_i a ha;split at h
   ·grind
   ·rename_i b hb;simp only [aq] at h;subst h;obtain⟨U,Z,h3⟩:=AX (ρ:=ρ) hb;refine⟨?_,?_,?_⟩
    ·simp only [eL,V.den,fX.den,bD,D.l,dL]
     grind
    ·simp only [eL,V.den,fX.den,bD,D.l,aR,Z]
    ·intro j c' y hj hy;simp only [eL,V.den,fX.den,bD,D.l] at hy
     cases j with
     |zero=> simp only [aM,aq] at hj hy;subst hj hy;exact n8 ha
     |succ j=>exact h3 j c' y (by simpa using hj) (by simpa using hy)
theorem AY {h:Array Obj}: ∀{cs:List CK} {vs:List AV} {us:List Value} {x:V},cC E h vs us->jL cs vs=some x->dZ E.ro h cs 0 (dec (x.den E.ρ)) us
 |[],[],us,x,hv,hc=>by simp only [cC] at hv; subst hv; simp [dZ]
 |[],_::_,_,x,_,hc=>by simp [jL] at hc
 |_::_,[],_,x,_,hc=>by simp [jL] at hc
 |c::cs,v::vs,us,x,hv,hc=>by
  simp only [jL] at hc;rw [bW] at hv;obtain⟨u,hD,rfl,U,Z⟩:=hv;split at hc
  ·grind
  ·rename_i a ha;split at hc
   ·grind
   ·rename_i b hb;simp only [aq] at hc;subst hc;simp only [dZ,eL,V.den,fX.den,bD];refine⟨u,hD,rfl,by rw [Ap]; exact lL U ha,?_⟩;rw [dZ.shift];exact AY Z hb
theorem uQ {ρ:Nat->Int} {r:Row} {cs:List AV} {x:V} (h:rK r cs=some x):qQ r (dec (x.den ρ)):=by
 unfold rK at h;split at h
 ·split at h
  ·exact n8 h
  grind
 ·exact AX h
theorem uR {h:Array Obj} {r:Row} {cs:List AV} {us:List Value} {x:V} (hv:cC E h cs us) (hc:rK r cs=some x):xS E.ro h r (dec (x.den E.ρ)) us:=by
 unfold rK at hc;split at hc
 ·split at hc
  ·rw [bW] at hv;obtain⟨u,hD,rfl,U,Z⟩:=hv;rw [iG] at Z;subst Z;exact⟨u,rfl,lL U hc⟩
  grind
 ·exact AY hv hc
theorem rJ {ρ:Nat->Int} {r:Row}: ∀(m:Nat) {e e1:V} {news:List AV},lr r e m news=some e1->
 ∃ds:List D,ds.length=m/\(dec (e1.den ρ)).l=(dec (e.den ρ)).l++ds/\(dec (e.den ρ)=dL (dec (e.den ρ)).l->dec (e1.den ρ)=dL (dec (e1.den ρ)).l)/\(∀d∈ds,qQ r d)/\
  ∀(E':En) (h:Array Obj) (us:List Value) (j:Nat),E'.ρ=ρ->cC E' h news us->cC E' h (bH ρ r [] ds j) us
 |0,e,e1,[],h=>by simp only [lr,aq] at h;subst h;exact⟨[],rfl,ae,id,ae,fun E' h us j _ hv=>by simpa [bH] using hv⟩
 |0,e,e1,_::_,h=>by simp [lr] at h
 |m+1,e,e1,news,h=>by
  simp only [lr] at h;split at h
  ·grind
  ·rename_i x hx;obtain⟨ds,U,Z,h3,h4,h5⟩:=rJ (ρ:=ρ) m h;have hs:dec ((V.op .snoc e x).den ρ)=dL ((dec (e.den ρ)).l++ [dec (x.den ρ)]):=by simp only [V.den,fX.den,bD]
   refine⟨dec (x.den ρ)::ds,by simp [U],?_,fun _=>h3 (by rw [hs,bE]),?_,?_⟩
   ·rw [Z,hs,bE]; simp
   ·intro d W;rcases aH.1 W with rfl|W
    ·exact uQ hx
    grind
   ·intro E' h us j hρ hv;rw [<- anb r.es news] at hv;obtain⟨a,b,rfl,a1,a2⟩:=hv.split;simp only [bH,ed];refine cC.append ?_ (h5 E' h b (j+1) hρ a2);rw [gG];simp only [V.den,bD];have:=uR a1 hx
    grind
theorem Rg {h:Array Obj} {id:Nat} {e:V} {t:Nat} {ty:TypeId} {ro:Nat->Prop} (l7: ∀b,E.ro b->ro b) (hb:ro (E.θ id).1) (ho:OR E h id (.vec e t ty [])) {k cap:Nat} {a:Addr} (hk:k=(dec (e.den E.ρ)).l.length) (iS:k<=cap)
 (hc:0<k->a=⟨(E.θ id).1,(E.θ id).2,none⟩):Rd ro h (.sl t) (dec (e.den E.ρ)) (.slice (some a) k cap):=by
 obtain⟨⟨tC,xL⟩,DK⟩:=OR.py.1 ho;obtain⟨us,U,Z,h3⟩:=yo DK;obtain⟨w1,w2,w3⟩:=xL;rcases anC k with h0|ml
 ·subst h0;exact absurd (am5 hk.symm) w3
 ·have ha:a=⟨(E.θ id).1,(E.θ id).2,none⟩:=hc ml;subst ha;subst hk
  have gS: ∀(i:Nat) (x:D),(dec (e.den E.ρ)).l[i]?=some x->∃rs,xS ro h (rowOf t) x rs/\∀j u,rs[j]?=some u->us[i*(rowOf t).es+j]?=some u:=by
   intro i x hx;obtain⟨c1,c2⟩:=jW (ρ:=E.ρ) tC (j:=0) hx;unfold cQ at U;rw [c1] at U;obtain⟨p,q,rfl,p1,p2⟩:=U.split;obtain⟨q1,q2,rfl,r1,r2⟩:=p2.split;have hp:=p1.length;rw [c2] at hp;refine⟨q1,?_,?_⟩
   ·have r1':cC E h (ib (rowOf t) (.eD x)) q1:=r1;rw [gG] at r1';simp only [V.den,bD] at r1'
    have mono: ∀c d u,jO E.ro h c d u->jO ro h c d u:=by
     intro c d u hh
     cases c with
     |int k=>exact hh
     |bool=>exact hh
     |str=>exact Rd.cx l7 (fun _ _=>rfl) hh
     |sl t=>exact Rd.cx l7 (fun _ _=>rfl) hh
    have aiN: ∀(cs:List CK) (j:Nat) (d:D) (us:List Value),dZ E.ro h cs j d us->dZ ro h cs j d us:=by
     intro cs
     induction cs with
     |nil=>intro j d us hh; exact hh
     |cons c cs ih=> intro j d us hh;obtain⟨u,vs,rfl,g1,g2⟩:=hh;exact⟨u,vs,rfl,mono _ _ _ g1,ih _ _ _ g2⟩
    cases hr:rowOf t with
    |one c=> rw [hr] at r1';obtain⟨u,rfl,g1⟩:=r1';exact⟨u,rfl,mono _ _ _ g1⟩
    |many cs=> rw [hr] at r1';exact aiN _ _ _ _ r1'
   ·intro j u hj;rw [aoc J,hp];rw [show i*(rowOf t).es+j-i*(rowOf t).es=j by omega];have:=(bj.1 hj).1;rw [aov this];exact hj
  rw [w1];simp only [bE] at gS ⊢;generalize hL:(dec (e.den E.ρ)).l=L at *
  cases hr:rowOf t with
  |one c=>
   refine .one t c _ _ cap L (fun i=>(us[i]?).getD undef) hr iS hb ?_ ?_
   ·intro i d W;obtain⟨rs,g1,g2⟩:=gS i d W;rw [hr] at g1;obtain⟨u,rfl,g3⟩:=g1;have:=g2 0 u rfl;rw [hr] at this;simp only [Row.es,aob,bx] at this;rw [this];exact Z i u this
   ·intro i d W;obtain⟨rs,g1,g2⟩:=gS i d W;rw [hr] at g1;obtain⟨u,rfl,g3⟩:=g1;have:=g2 0 u rfl;rw [hr] at this;simp only [Row.es,aob,bx] at this;rw [this];have hw:=w2 d (amW W);rw [hr] at hw;exact g3.rd hw
  |many cs=>
   have hwr: ∀d∈L,K0 cs d:=by intro d W;have:=w2 d W;rw [hr] at this;exact this
   have hLm:L=(L.map D.l).map dL:=by rw [anv];have:L.map (dL ∘ D.l)=L.map (fun d=>d):=anP fun d W=>(hwr d W).1.symm;rw [this,List.map_id']
   have hlen:(L.map D.l).length=L.length:=ae
   have ajo:(L.map D.l).length<=cap:=by rw [hlen]; exact iS
   have goal:Rd ro h (.sl t) (dL ((L.map D.l).map dL)) (.slice (some ⟨(E.θ id).1,(E.θ id).2,none⟩) (L.map D.l).length cap):=by
    refine .many t cs _ _ cap (L.map D.l) (fun i j=>(us[i*cs.length+j]?).getD undef) hr ajo hb ?_ ?_ ?_
    ·intro r hrm;rw [bd] at hrm;obtain⟨d,W,rfl⟩:=hrm;exact (hwr d W).2.1
    ·intro i r j d hi hj;rw [bp,aZ] at hi;obtain⟨x,hx,rfl⟩:=hi;obtain⟨rs,g1,g2⟩:=gS i x hx;rw [hr] at g1;have hjl:j<cs.length:=by rw [<- (hwr x (amW hx)).2.1]; exact (bj.1 hj).1
     obtain⟨u,g3,g4⟩:=dZ.get g1 (aW hjl);have:=g2 j u g3;rw [hr] at this;simp only [Row.es] at this;rw [this,am0];exact Z _ u this
    ·intro i r j d c hi hj hcj;rw [bp,aZ] at hi;obtain⟨x,hx,rfl⟩:=hi;obtain⟨rs,g1,g2⟩:=gS i x hx;rw [hr] at g1;obtain⟨u,g3,g4⟩:=dZ.get g1 hcj;have:=g2 j u g3;rw [hr] at this;simp only [Row.es] at this;rw [this];rw [aL] at g4;have W:x.W j=d:=by simp [D.W,hj]
     rw [W] at g4;exact g4.rd ((hwr x (amW hx)).2.2 j c d hcj hj)
   rw [<- hLm,hlen] at goal;exact goal
theorem WE {h:Array Obj} {id:Nat} {e:V} {t:Nat} {ty:TypeId} {ro:Nat->Prop} (l7: ∀b,E.ro b->ro b) (hb:ro (E.θ id).1) (ho:OR E h id (.vec e t ty [])) {k cap:Nat} {a:Addr} (hk:k=(dec (e.den E.ρ)).l.length) (iS:k<=cap)
 (hc:eY E id 0 k a cap (.rest (rowOf t).es)):Rd ro h (.sl t) (dec (e.den E.ρ)) (.slice (some a) k cap):=by
 refine Rg l7 hb ho hk iS fun ml=>?_;simp only [eY] at hc
 grind
structure Sub (H' H:Hp):Prop where
 get: ∀j o,H'.get j=some o->H.get j=some o
 next:H'.next=H.next
 res:H'.res=H.res
theorem Sub.refl (H:Hp):Sub H H:=⟨fun _ _ h=>h,rfl,rfl⟩
theorem Sub.trans {A B C:Hp} (a:Sub B A) (b:Sub C B):Sub C A:=⟨fun j o h=>a.get j o (b.get j o h),b.next.trans a.next,b.res.trans a.res⟩
theorem Sub.drop (H:Hp) (id:Nat):Sub (H.drop id) H:=by
 refine⟨fun j o hj=>?_,rfl,rfl⟩
 grind [Hp.lh]
theorem KI [bK] {H:Hp} (r:bR E H w) {id:Nat} {o:dO} (Y:H.get id=some o) :
 fY E w.heap { E with ro:=fun b=>E.ro b\/b=(E.θ id).1 } w.heap/\fq E H w { E with ro:=fun b=>E.ro b\/b=(E.θ id).1 } (H.drop id) w/\bR { E with ro:=fun b=>E.ro b\/b=(E.θ id).1 } (H.drop id) w:=by
 have hk:fY E w.heap { E with ro:=fun b=>E.ro b\/b=(E.θ id).1 } w.heap:=⟨rfl,fun _ h=>h,fun _ _=>rfl,fun _ _=>rfl,fun _ h=> .inl h,fun _ _=>rfl⟩
 have hg: ∀j o,(H.drop id).get j=some o->H.get j=some o/\j≠id:=by
  intro j o hj
  grind [Hp.lh]
 refine⟨hk,⟨rfl,fun _ h=>h,fun _ _=>rfl,fun _ _=>rfl,fun _ h=> .inl h,?_,az _,.inr rfl,fun _ h=> .inl h,rfl,rfl,rfl,az _,fun _ _ _=>rfl,fun j o hj _=> ⟨j,o,(hg j o hj).1,rfl⟩,rfl⟩,
  ⟨r.fresh,r.res,?_,?_,?_,bK.cx r.kj (fun _ h=> .inl h) (fun _ _=>rfl),fun b x hb=> ⟨(r.hid b x hb).1,fun h=>h.elim (r.hid b x hb).2.1 fun e=>(r.hid b x hb).2.2 id o Y e.symm,fun j o hj=>(r.hid b x hb).2.2 j o (hg j o hj).1⟩⟩⟩
 ·intro b hb
  grind
 ·intro j o hj;obtain⟨U,Z⟩:=hg j o hj;obtain⟨g1,g2,g3⟩:=r.live j o U;refine⟨g1,g2.cx hk g1 rfl (fun _ _ _ h=> ⟨h,rfl⟩),?_⟩;rintro (hb|hb)
  ·grind
  ·exact Z (r.inj j id o _ U Y hb)
 ·intro i j x y hi hj he;exact r.inj i j x y (hg i x hi).1 (hg j y hj).1 he
 ·intro b hb;rcases hb with hb|rfl
  ·exact r.su b hb
  ·exact gC r Y
theorem agc [bK] {H H':Hp} (r:bR E H w) {v v':AV} (h:Zr v H=(v',H')) :
 ∃E',E'.ρ=E.ρ/\fq E H w E' H' w/\bR E' H' w/\(∀u,VR E w.heap v u->VR E' w.heap v' u)/\Sub H' H:=by
 have same:(v,H)=(v',H')->∃E',E'.ρ=E.ρ/\fq E H w E' H' w/\bR E' H' w/\(∀u,VR E w.heap v u->VR E' w.heap v' u)/\Sub H' H:=by
  intro he;simp only [au] at he
  grind [fq.refl,Sub.refl]
 unfold Zr at h;split at h
 ·rename_i id n t;split at h
  ·rename_i o Y;split at h
   ·rename_i e t' ty ov;split at h
    ·split at h
     ·rename_i ht;split at h
      ·rename_i hn;simp only [au] at h;obtain⟨rfl,rfl⟩:=h;have ht:=aA ht;have hn:=cR _ _ hn;subst ht hn;have Ak:=r.live id _ Y;obtain⟨hk,s1,r1⟩:=KI r Y;refine⟨{ E with ro:=fun b=>E.ro b\/b=(E.θ id).1 },rfl,s1,r1,fun u hv=>?_,Sub.drop _ _⟩;simp only [VR] at hv ⊢
       grind [cD,WE]
      grind
     grind
    grind
   grind
  grind
 ·simp only [au] at h;obtain⟨rfl,rfl⟩:=h;exact⟨E,rfl,fq.refl _ _ _,r,fun u hu=>by simp only [VR] at hu ⊢; exact hu.2,Sub.refl _⟩
 grind
end
section
variable {P:Program} {E:En} {w:World}
theorem Rd.part {ro:Nat->Prop} {h:Array Obj} {t:Nat} {d:D} {b o n cap l k:Nat} (r:Rd ro h (.sl t) d (.slice (some ⟨b,o,none⟩) n cap)) (Y:l<=k) (hk:k<=n) (hn:n<=cap) :
 Rd ro h (.sl t) (fk d ((d.l.take k).drop l)) (.slice (some (if cap=l then⟨b,o,none⟩ else⟨b,o+l*(rowOf t).es,none⟩)) (k-l) (cap-l)):=by
 by_cases h0:k-l=0
 ·have:(d.l.take k).drop l= []:=by
   apply aoT
   grind
  have W:d≠.i 1:=by
   intro q
   grind [HK]
  rw [this,h0];simp only [fk];rw [ak W];exact .xc _ _ _
 ·rw [ak J]
  have gb:(d.l.take k).drop l≠[]:=by
   intro q;have:=congrArg List.length q;obtain⟨x,qL,hv,_⟩:=r.slice
   grind
  rw [wG gb];generalize hc:CK.sl t=c at r;generalize hv:Value.slice (some ⟨b,o,none⟩) n cap=v at r
  cases r with
  |int k n=>simp at hc
  |bool b=>simp at hc
  |str s=>simp at hc
  |nil t=>simp at hv
  |xc t a cap=>
   grind
  |one t' c b' o' qL ds f hr eP hb U Z=>
   simp only [CK.sl.injEq] at hc;subst hc;simp only [Value.slice.injEq,aq,Addr.mk.injEq] at hv;obtain⟨⟨rfl,rfl,_⟩,rfl,rfl⟩:=hv;rw [bE];have hlen:((ds.take k).drop l).length=k-l:=by rw [bu,bk]; omega
   have wb: ∀i d,((ds.take k).drop l)[i]?=some d->ds[l+i]?=some d:=by
    intro i d W
    grind
   rw [<- hlen];refine .one t c b (o+l*(rowOf t).es) (cap-l) ((ds.take k).drop l) (fun i=>f (l+i)) hr (by rw [hlen]; omega) hb ?_ ?_
   ·intro i d W;have:=U (l+i) d (wb i d W);rw [hr,show o+l*(Row.one c).es+i=o+(l+i) by simp only [Row.es]; omega]
    grind
   grind
  |many t' cs b' o' qL rows f hr eP hb hll U Z=>
   simp only [CK.sl.injEq] at hc;subst hc;simp only [Value.slice.injEq,aq,Addr.mk.injEq] at hv;obtain⟨⟨rfl,rfl,_⟩,rfl,rfl⟩:=hv;rw [bE];have hlen:((rows.take k).drop l).length=k-l:=by rw [bu,bk]; omega
   have wb: ∀i d,((rows.take k).drop l)[i]?=some d->rows[l+i]?=some d:=by
    intro i d W
    grind
   rw [<- hlen,<- an8,<- an9];refine .many t cs b (o+l*(rowOf t).es) (cap-l) ((rows.take k).drop l) (fun i=>f (l+i)) hr (by rw [hlen]; omega) hb (fun r hrm=>hll r (am1 (amY hrm))) ?_ ?_
   ·intro i r j d hi hj;have:=U (l+i) r j d (wb i r hi) hj;rw [hr,show o+l*(Row.many cs).es+i*cs.length+j=o+(l+i)*cs.length+j by simp only [Row.es,am7]; omega]
    grind
   grind
theorem Rd.aiH {ro:Nat->Prop} {h:Array Obj} {t:Nat} {d:D} {x:Option Addr} {n cap l k:Nat} (r:Rd ro h (.sl t) d (.slice x n cap)) (Y:l<=k) (hk:k<=n) (hn:n<=cap) :
 Rd ro h (.sl t) (fk d ((d.l.take k).drop l)) (.slice (match x with |some a=>some (if cap=l then a else a.add (l*(rowOf t).es))|none=>none) (k-l) (cap-l)):=by
 have hx:(∃b o,x=some ⟨b,o,none⟩)\/(d= .i 1/\x=none/\n=0/\cap=0)\/(d= .i 2/\n=0/\∃a,x=some a):=by
  generalize hc:CK.sl t=c at r;generalize hv:Value.slice x n cap=v at r
  cases r with
  |int k n=>simp at hc
  |bool b=>simp at hc
  |str s=>simp at hc
  |nil t=>simp only [Value.slice.injEq] at hv; exact .inr (.inl ⟨rfl,hv.1,hv.2.1,hv.2.2⟩)
  |xc t a cap=>simp only [Value.slice.injEq] at hv; exact .inr (.inr ⟨rfl,hv.2.1,a,hv.1⟩)
  |one t' c b' o' qL ds f hr eP hb U Z=>simp only [Value.slice.injEq] at hv; exact .inl ⟨_,_,hv.1⟩
  |many t' cs b' o' qL rows f hr eP hb hll U Z=>simp only [Value.slice.injEq] at hv; exact .inl ⟨_,_,hv.1⟩
 rcases hx with ⟨b,o,rfl⟩|⟨rfl,rfl,rfl,rfl⟩|⟨rfl,rfl,a,rfl⟩
 ·have:=r.part Y hk hn;simp only [fD]
  grind
 ·obtain rfl:k=0:=J
  obtain rfl:l=0:=J
  exact .nil _
 ·obtain rfl:k=0:=J
  obtain rfl:l=0:=J
  exact .xc _ _ _
theorem s_ (l:List D):dL l≠.i 1:=by cases l<;>simp [dL]
theorem Rd.agn {ro:Nat->Prop} {h:Array Obj} {t:Nat} {d:D} {x:Option Addr} {n cap:Nat} (r:Rd ro h (.sl t) d (.slice x n cap)):Rd ro h (.sl t) (fk d []) (.slice x 0 0):=by
 generalize hc:CK.sl t=c at r;generalize hv:Value.slice x n cap=v at r
 cases r with
 |int k n=>simp at hc
 |bool b=>simp at hc
 |str s=>simp at hc
 |nil t=> simp only [Value.slice.injEq] at hv;obtain⟨rfl,_,_⟩:=hv;exact .nil _
 |xc t a cap=> simp only [Value.slice.injEq] at hv;obtain⟨rfl,_,_⟩:=hv;exact .xc _ _ _
 |one t' c b' o' qL ds f hr eP hb U Z=> simp only [Value.slice.injEq] at hv;obtain⟨rfl,_,_⟩:=hv;rw [pW (s_ _)];exact .xc _ _ _
 |many t' cs b' o' qL rows f hr eP hb hll U Z=> simp only [Value.slice.injEq] at hv;obtain⟨rfl,_,_⟩:=hv;rw [pW (s_ _)];exact .xc _ _ _
theorem PR [bK] {tt:TT} (cP:eJ P tt) {s s':St} (hp:bY E.ρ s.pc) {ty t:Nat} {e:V} {lo hi mx:Option AV} {zi hi' mx':Option Value} {v:AV} {u:Value} (hx:VR E w.heap (.eD e t) u)
 (pg:gI E w.heap lo zi) (zm:gI E w.heap hi hi') (yR:gI E w.heap mx mx') (h:(Kr tt s ty t e lo hi mx).leaf E.ρ=some (v,s')) :
 s'.bG=s.bG/\s'.h=s.h/\bY E.ρ s'.pc/\∃r,(Instr.sliceAt ty u zi hi' mx').run P w= .ok r w/\VR E w.heap v r:=by
 unfold Kr at h;split at h
 ·rename_i m;split at h
  ·rename_i hm;split at h
   ·simp [T.leaf] at h
   ·rename_i z hz;split at h
    ·split at h
     ·rename_i hv;split at h
      ·rename_i hh;have:=bF h;simp only [au] at this;obtain⟨rfl,rfl⟩:=this;refine⟨rfl,rfl,hp,?_⟩;obtain⟨el,ie,hu,lG,rfl⟩:=n7 cP hz;have iR:=eE (cP el ie lG);simp only [VR] at hx;obtain⟨x,cap,rfl,iS⟩:=hx.slice
       have zb: ∀(a:AV),Dr a=true->∀d y,oA (some a) d y=some 0:=by
        intro a ha d y;unfold Dr at ha;unfold oA;split at ha
        ·rename_i n hn;have:=xj ha;subst this;simp only [hn];rw [an (ans y)]
        ·simp at ha
       obtain⟨e1,e2⟩:=gu (P:=P) (w:=w) (isSlice:=true) (len:=(dec (e.den E.ρ)).l.length) (cap:=cap) (m0:=cap) (d:=0) (m:=0) (h0:=0) (h:=0) (l:=0) pg zm yR (fun _=>rfl) (.inr ⟨m,rfl,zb m hm _ _,az _⟩) (zb hv hh _ _) ⟨fun q=>by simp at q,fun _=>rfl⟩ (by simp [oA]);refine⟨.slice x 0 0,?_,?_⟩
       rotate_left
       ·simp only [VR];refine⟨⟨x,rfl⟩,?_⟩;simp only [V.den,fX.den,bD];exact hx.agn
       cases x with
       |none=>simp [Instr.sliceAt,run_underlying hu,Instr.slice,e1,iR]
       |some a=>simp [Instr.sliceAt,run_underlying hu,Instr.slice,e1,iR]
      ·simp [T.leaf] at h
     ·simp [T.leaf] at h
    ·simp [T.leaf] at h
  ·simp [T.leaf] at h
 ·simp only [gI] at yR;subst yR;split at h
  ·simp [T.leaf] at h
  ·rename_i z hz;split at h
   ·rename_i l9;obtain⟨el,ie,hu,lG,rfl⟩:=n7 cP hz;have iR:=eE (cP el ie lG);simp only [VR] at hx;obtain⟨x,cap,rfl,iS⟩:=hx.slice
    have fin: ∀(l k:Nat) (e':V) (VU JS:Option AV),gI E w.heap VU zi->gI E w.heap JS hi'->oA JS (dec (e.den E.ρ)).l.length (dec (e.den E.ρ)).l.length=some k->oA VU 0 k=some l->dec (e'.den E.ρ)=fk (dec (e.den E.ρ)) (((dec (e.den E.ρ)).l.take k).drop l)->
     ∃r,(Instr.sliceAt ty (.slice x (dec (e.den E.ρ)).l.length cap) zi hi' none).run P w= .ok r w/\VR E w.heap (.eD e' t) r:=by
     intro l k e' VU JS U Z h3 h4 h5;obtain⟨e1,e2⟩:=gu (P:=P) (w:=w) (isSlice:=true) (len:=(dec (e.den E.ρ)).l.length) (cap:=cap) (m0:=cap) (d:=0) (m:=cap) U Z (mx:=none) (mx':=none) (by simp [gI]) ae (.inl ⟨rfl,rfl,az _⟩) h3 ⟨fun _=>iS,ae⟩ h4;have hk:=mc h3;have UX:=hx.aiH e2 hk iS;refine⟨_,?_,by simp only [VR,h5]; exact UX⟩
     cases x with
     |none=>simp [Instr.sliceAt,run_underlying hu,Instr.slice,e1,iR]
     |some a=>simp [Instr.sliceAt,run_underlying hu,Instr.slice,e1,iR,l9]<;>split<;>rfl
    have lit: ∀(k:IntKind) (n:Nat) (q:V) (o:Option Value),q.den E.ρ=(n:Int)->gI E w.heap (some (.int k q)) o->gI E w.heap (some (.int k (.lit (Int.ofNat n)))) o:=by intro k n q o hq ho;obtain⟨y,rfl,hy⟩:=ho;refine⟨y,rfl,?_⟩;simp only [VR,V.den] at hy ⊢;rw [hy,hq];rfl
    have bl: ∀(k:IntKind) (n d y:Nat),n<=y->oA (some (.int k (.lit (Int.ofNat n)))) d y=some n:=by intro k n d y hn;simp [oA,kZ,hn]
    split at h
    ·
     simp only [gI] at zm;subst zm;split at h
     ·rename_i kl ql;obtain⟨ga,fS,U⟩:=cI hp h;split at U
      ·simp [T.leaf] at U
      ·rename_i t1;obtain⟨ky,kf,Z⟩:=cI (s:={ s with pc:=ga }) fS U;split at Z
       ·simp [T.leaf] at Z
       ·rename_i t2;have:=bF Z;simp only [au] at this;obtain⟨rfl,rfl⟩:=this;rw [dX,decide_eq_false_iff_not] at t1 t2;rw [cD] at t2;simp only [V.den,anB] at t1 t2;obtain⟨l,Y⟩ : ∃l:Nat,ql.den E.ρ=(l:Int):=⟨(ql.den E.ρ).toNat,J⟩;refine⟨rfl,rfl,kf,fin l (dec (e.den E.ρ)).l.length _ _ none (lit kl l ql zi Y pg) (by simp [gI]) (by simp [oA]) (bl _ _ _ _ J) ?_⟩;simp only [V.den,fX.den,bD,Y,br,anI]
     ·simp [T.leaf] at h
    ·rename_i kh qh;obtain⟨ga,fS,U⟩:=cI hp h;split at U
     ·simp [T.leaf] at U
     ·rename_i t1;rw [dX,decide_eq_false_iff_not,cD] at t1;split at U
      ·simp only [gI] at pg;subst pg;obtain⟨ky,kf,Z⟩:=cI (s:={ s with pc:=ga }) fS U;split at Z
       ·simp [T.leaf] at Z
       ·rename_i t2;have:=bF Z;simp only [au] at this;obtain⟨rfl,rfl⟩:=this;rw [dX,decide_eq_false_iff_not] at t2;simp only [V.den,anB] at t2;obtain⟨k,hk⟩ : ∃k:Nat,qh.den E.ρ=(k:Int):=⟨(qh.den E.ρ).toNat,J⟩;refine⟨rfl,rfl,kf,fin 0 k _ none _ (by simp [gI]) (lit kh k qh hi' hk zm) (bl _ _ _ _ J) (by simp [oA]) ?_⟩;simp only [V.den,fX.den,bD,hk,br,anq]
      ·rename_i kl ql;obtain⟨ky,kf,Z⟩:=cI (s:={ s with pc:=ga }) fS U;split at Z
       ·simp [T.leaf] at Z
       ·rename_i t2;obtain⟨VT,JQ,h3⟩:=cI (s:={ s with pc:=ky }) kf Z;split at h3
        ·simp [T.leaf] at h3
        ·rename_i t3;have:=bF h3;simp only [au] at this;obtain⟨rfl,rfl⟩:=this;rw [dX,decide_eq_false_iff_not] at t2 t3;simp only [V.den,anB] at t2 t3;obtain⟨l,Y⟩ : ∃l:Nat,ql.den E.ρ=(l:Int):=⟨(ql.den E.ρ).toNat,J⟩;obtain⟨k,hk⟩ : ∃k:Nat,qh.den E.ρ=(k:Int):=⟨(qh.den E.ρ).toNat,J⟩;refine⟨rfl,rfl,JQ,fin l k _ _ _ (lit kl l ql zi Y pg) (lit kh k qh hi' hk zm) (bl _ _ _ _ J) (bl _ _ _ _ J) ?_⟩;simp only [V.den,fX.den,bD,Y,hk,br,gP];exact yY fun q=>by rw [q]; simp [D.l]
      ·simp [T.leaf] at U
    ·simp [T.leaf] at h
   ·simp [T.leaf] at h
end
theorem EY {e:V} (h:isZ e=true):e= .lit 0:=by
 unfold isZ at h
 grind [xj]
theorem pY (ρ:Nat->Int) (a b:V):(tw a b).den ρ=a.den ρ+b.den ρ:=by
 unfold tw;split
 ·rename_i h;rw [EY h];simp only [V.den,Int.zero_add]
 ·rfl
theorem Ud (ρ:Nat->Int) (a b:V):(Ee a b).den ρ=a.den ρ-b.den ρ:=by
 unfold Ee;split
 ·rename_i h;rw [EY h];simp only [V.den,Int.sub_zero]
 ·rfl
theorem yD {ρ:Nat->Int} {e lo n:V} {l k:Nat} (Y:lo.den ρ=(l:Int)) (hn:n.den ρ=(k:Int)) :
 dec ((EG e lo n).den ρ)=fk (dec (e.den ρ)) (((dec (e.den ρ)).l.take (l+k)).drop l):=by
 unfold EG;split
 ·rename_i h;have h:=EY h;subst h;simp only [V.den] at Y;have:l=0:=J
  subst this;simp only [V.den,fX.den,bD,hn,br,aL,anq]
 ·have Z:((l:Int)+(k:Int)).toNat=l+k:=J
  simp only [V.den,fX.den,bD,Y,hn,Z,br,gP]
  grind [yY,D.l]
theorem w9 {α:Type} {ρ:Nat->Int} {e lo n:V} {s:St} {k:St->T α} {x:α} (hp:bY ρ s.pc) (h:(yE e lo n s k).leaf ρ=some x) :
 ∃ef,bY ρ ef/\0<=lo.den ρ/\0<=n.den ρ/\lo.den ρ+n.den ρ<=((dec (e.den ρ)).l.length:Int)/\(k { s with pc:=ef }).leaf ρ=some x:=by
 unfold yE at h;obtain⟨ga,fS,U⟩:=cI hp h;split at U
 ·grind [T.leaf]
 ·rename_i Sv;obtain⟨ky,kf,Z⟩:=cI (s:={ s with pc:=ga }) fS U;split at Z
  ·grind [T.leaf]
  ·rename_i rU;obtain⟨VT,JQ,h3⟩:=cI (s:={ s with pc:=ky }) kf Z;split at h3
   ·grind [T.leaf]
   ·rename_i hb3;rw [dX,decide_eq_false_iff_not] at Sv rU hb3;rw [cD,pY] at hb3;simp only [V.den] at Sv rU
    grind
theorem nT {h:Hp} {id t:Nat} {e:V} {ty:TypeId} (hv:Cp h id t=some (e,ty)):h.get id=some (.vec e t ty []):=by
 unfold Cp at hv;split at hv
 ·rename_i o ho;split at hv
  ·split at hv
   ·split at hv
    all_goals simp_all
   grind
  grind
 grind
theorem Rd.aiA {ro:Nat->Prop} {h:Array Obj} {t:Nat} {d:D} {a:Addr} {n cap qL:Nat} (r:Rd ro h (.sl t) d (.slice (some a) n cap)) (hc:n<=qL):Rd ro h (.sl t) d (.slice (some a) n qL):=by
 generalize hk:CK.sl t=c at r;generalize hv:Value.slice (some a) n cap=v at r
 cases r with
 |int k n=>simp at hk
 |bool b=>simp at hk
 |str s=>simp at hk
 |nil t=>simp at hv
 |xc t a cap=> simp only [CK.sl.injEq] at hk;simp only [Value.slice.injEq,aq] at hv;obtain⟨rfl,rfl,rfl⟩:=hv;subst hk;exact .xc _ _ _
 |one t' c b' o' qL ds f hr eP hb U Z=> simp only [CK.sl.injEq] at hk;simp only [Value.slice.injEq,aq] at hv;obtain⟨rfl,rfl,rfl⟩:=hv;subst hk;exact .one _ _ _ _ _ _ _ hr hc hb U Z
 |many t' cs b' o' qL rows f hr eP hb hll U Z=> simp only [CK.sl.injEq] at hk;simp only [Value.slice.injEq,aq] at hv;obtain⟨rfl,rfl,rfl⟩:=hv;subst hk;exact .many _ _ _ _ _ _ _ hr hc hb hll U Z
section
variable {P:Program} {E:En} {w:World}
theorem WG {h:Array Obj} {id:Nat} {e:V} {t:Nat} {ty:TypeId} {ro:Nat->Prop} (l7: ∀b,E.ro b->ro b) (hb:ro (E.θ id).1) (ho:OR E h id (.vec e t ty [])) {l k cap:Nat} {a:Addr} (hk:l+k<=(dec (e.den E.ρ)).l.length) (iS:k<=cap)
 (hc:eY E id (l*(rowOf t).es) k a cap (.rest (rowOf t).es)):Rd ro h (.sl t) (fk (dec (e.den E.ρ)) (((dec (e.den E.ρ)).l.take (l+k)).drop l)) (.slice (some a) k cap):=by
 have hw:=(OR.py.1 ho).1.2
 have gb:dec (e.den E.ρ)≠.i 1:=by intro q;have:=hw.2.2;rw [q] at this;exact this rfl
 rcases anC k with h0|ml
 ·subst h0
  have:((dec (e.den E.ρ)).l.take (l+0)).drop l= []:=by
   grind
  rw [this,pW gb];exact .xc _ _ _
 ·simp only [eY] at hc
  obtain⟨rfl,_⟩ : a=⟨(E.θ id).1,(E.θ id).2+l*(rowOf t).es,none⟩/\l*(rowOf t).es+cap*(rowOf t).es=E.κ id:=by
   grind
  have r0:=Rg l7 hb ho (k:=(dec (e.den E.ρ)).l.length) (cap:=(dec (e.den E.ρ)).l.length+l+1) (a:=⟨(E.θ id).1,(E.θ id).2,none⟩) rfl J (fun _=>rfl);have r1:=r0.part (l:=l) (k:=l+k) J hk J;rw [ak J,show l+k-l=k by omega] at r1;exact r1.aiA iS
structure Lj [bK] (E:En) (w:World) (H:Hp) (E':En) (H':Hp):Prop where
 ρ:E'.ρ=E.ρ
 dY:fq E H w E' H' w
 rel:bR E' H' w
 sub:Sub H' H
theorem Lj.refl [bK] {H:Hp} (r:bR E H w):Lj E w H E H:=⟨rfl,fq.refl _ _ _,r,Sub.refl _⟩
theorem Lj.trans [bK] {E1 E2:En} {H H1 H2:Hp} (a:Lj E w H E1 H1) (b:Lj E1 w H1 E2 H2):Lj E w H E2 H2:=
 ⟨b.ρ.trans a.ρ,a.dY.trans b.dY,b.rel,a.sub.trans b.sub⟩
theorem J5 [bK] {α:Type} {ρ:Nat->Int} {v:AV} {s:St} {k:AV->St->T α} {x:α} (hρ:E.ρ=ρ) (r:bR E s.h w) (hp:bY ρ s.pc) (h:(Px v s k).leaf ρ=some x) :
 ∃v' h' ef E',bY ρ ef/\Lj E w s.h E' h'/\(∀u,VR E w.heap v u->VR E' w.heap v' u)/\(k v' { s with h:=h',pc:=ef }).leaf ρ=some x:=by
 unfold Px at h;split at h
 ·rename_i id lo n t;split at h
  ·rename_i e ty hv;have Y:=nT hv;obtain⟨ef,fU,U,Z,h3,h4⟩:=w9 hp h;obtain⟨hk,s1,r1⟩:=KI r Y;refine⟨_,_,ef,{ E with ro:=fun b=>E.ro b\/b=(E.θ id).1 },fU,⟨rfl,s1,r1,Sub.drop _ _⟩,fun u hu=>?_,h4⟩;simp only [VR] at hu ⊢;obtain⟨hid,l,m,a,cap,q1,q2,rfl,q4,q5⟩:=hu;rw [yD q1 q2];rw [hρ] at q1 q2;have hh:=WG (E:=E) (ro:=fun b=>E.ro b\/b=(E.θ id).1) (fun _ h=> .inl h) (.inr rfl) (r.live id _ Y).2.1 (l:=l) (k:=m) (by rw [hρ]; omega) q4 q5;exact hh
  ·exact⟨_,_,s.pc,E,hp,Lj.refl r,fun _ h=>h,h⟩
 ·cases hf:Zr v s.h with
  |mk v' h'=> rw [hf] at h;obtain⟨E',q1,q2,q3,q4,q5⟩:=agc r hf;exact⟨v',h',s.pc,E',hp,⟨q1,q2,q3,q5⟩,q4,h⟩
theorem MI [bK] {α:Type} {ρ:Nat->Int}: ∀{vs:List AV} {s:St} {E:En} {k:List AV->St->T α} {x:α},E.ρ=ρ->bR E s.h w->bY ρ s.pc->(Ig vs s k).leaf ρ=some x->
 ∃N2 h' ef E',bY ρ ef/\Lj E w s.h E' h'/\(∀us,cC E w.heap vs us->cC E' w.heap N2 us)/\(k N2 { s with h:=h',pc:=ef }).leaf ρ=some x
 |[],s,E,k,x,hρ,r,hp,h=> ⟨[],s.h,s.pc,E,hp,Lj.refl r,fun _ h=>h,h⟩
 |v::vs,s,E,k,x,hρ,r,hp,h=>by simp only [Ig] at h;obtain⟨v1,U,ga,E1,fS,f1,q1,g1⟩:=J5 hρ r hp h;obtain⟨WC,Z,ky,E2,kf,f2,q2,g2⟩:=MI (s:={ s with h:=U,pc:=ga }) (f1.ρ.trans hρ) f1.rel fS g1;refine⟨v1::WC,Z,ky,E2,kf,f1.trans f2,fun us hu=>?_,g2⟩;rw [bW] at hu ⊢;obtain⟨u,hD,rfl,a,b⟩:=hu;exact⟨u,hD,rfl,VR.cx (f2.dY.keeps f1.rel) _ _ (q1 u a),q2 hD (cC.cx (f1.dY.keeps r) _ _ b)⟩
theorem zP {ρ:Nat->Int} {i:Nat} {j:V} {cs:List AV}: ∀{pre:List (V×List AV)},ed ρ i (pre++ [(j,cs)])=match ed ρ i pre with |some c=>some c|none=>if j.den ρ=(i:Int) then some cs else none
 |[]=>rfl
 |(a,b)::pre=>by
  simp only [aX,ed];split
  ·rfl
  ·exact zP
theorem aag (ρ:Nat->Int) (e j x:V):dec ((V.op .set e (eL (nV j) x)).den ρ)=dL (eV (dec (e.den ρ)).l (j.den ρ) (dec (x.den ρ))):=by simp only [eL,V.den,fX.den,bD,mi,D.n]
theorem LG (ds:List D) (z:Int) (x:D) (n:Nat):(eV ds z x)[n]?=if z=(n:Int)/\n<ds.length then some x else ds[n]?:=by
 grind [eV]
theorem ym {ρ:Nat->Int} {E1 E2:En} {h:Array Obj} {r:Row} {pre:List (V×List AV)} {j:V} {cs:List AV} {X:D} (mono: ∀a us,cC E1 h a us->cC E2 h a us) (hX: ∀us,cC E1 h cs us->xS E2.ro h r X us) :
 ∀{L L':List D} {i:Nat} {us:List Value},L'.length=L.length->(∀n:Nat,L'[n]?=if j.den ρ=((i+n:Nat):Int)/\n<L.length then some X else L[n]?)->
  cC E1 h (bH ρ r (pre++ [(j,cs)]) L i) us->cC E2 h (bH ρ r pre L' i) us
 |[],[],i,us,_,_,hv=>by simp only [bH,cC] at *; exact hv
 |[],_::_,_,_,Y,_,_=>by simp at Y
 |_::_,[],_,_,Y,_,_=>by simp at Y
 |d::L,d'::L',i,us,Y,hg,hv=>by
  simp only [bH] at *;obtain⟨a,b,rfl,a1,a2⟩:=hv.split;have h0:=hg 0;simp only [aM,bx,aR] at h0;refine cC.append ?_ (ym mono hX (by simpa using Y) (fun n=>?_) a2)
  ·rw [zP] at a1
   cases ho:ed ρ i pre with
   |some c=>
    grind
   |none=>
    rw [ho] at a1;simp only at a1 ⊢;by_cases hj:j.den ρ=(i:Int)
    ·rw [an hj] at a1;rw [an ⟨hj,J⟩] at h0;simp only [aq] at h0;subst h0;rw [gG];simp only [V.den,bD]
     grind
    grind
  ·have:=hg (n+1)
   grind
theorem aah {r:Row} {ds:List D} {z:Int} {x:D} (U: ∀d∈ds,qQ r d) (Z:qQ r x): ∀d∈eV ds z x,qQ r d:=by
 intro d W;obtain⟨n,hn⟩:=anQ.1 W
 grind [LG]
theorem aai {ds:List D} {z:Int} {x:D} (h:ds≠[]):eV ds z x≠[]:=by
 intro q
 grind [fh]
theorem LX [bK] {α:Type} {ρ:Nat->Int} {t:Nat}: ∀{ov:List (V×List AV)} {e:V} {s:St} {E:En} {k:V->St->T α} {x:α} (pre:List (V×List AV)),E.ρ=ρ->bR E s.h w->bY ρ s.pc->tx (rowOf t) (dec (e.den ρ))->
 (HB t ov e s k).leaf ρ=some x->
 ∃e' h' ef E',bY ρ ef/\Lj E w s.h E' h'/\tx (rowOf t) (dec (e'.den ρ))/\(dec (e'.den ρ)).l.length=(dec (e.den ρ)).l.length/\
  (∀us,cC E w.heap (bH ρ (rowOf t) (pre++ov) (dec (e.den ρ)).l 0) us->cC E' w.heap (bH ρ (rowOf t) pre (dec (e'.den ρ)).l 0) us)/\(k e' { s with h:=h',pc:=ef }).leaf ρ=some x
 |[],e,s,E,k,x,pre,hρ,r,hp,hw,h=> ⟨e,s.h,s.pc,E,hp,Lj.refl r,hw,rfl,fun us hu=>by rw [am8] at hu; exact hu,h⟩
 |(j,cs)::ov,e,s,E,k,x,pre,hρ,r,hp,hw,h=>by
  simp only [HB] at h;obtain⟨e1,U,ga,E1,fS,f1,w1,l1,c1,g1⟩:=LX (pre++ [(j,cs)]) hρ r hp hw h;obtain⟨cs2,Z,ky,E2,kf,f2,c2,g2⟩:=MI (s:={ s with h:=U,pc:=ga }) (f1.ρ.trans hρ) f1.rel fS g1;split at g2
  ·rename_i y hy;have hρ2:E2.ρ=ρ:=f2.ρ.trans (f1.ρ.trans hρ);have hsd:=aag ρ e1 j y;refine⟨_,Z,ky,E2,kf,f1.trans f2,?_,?_,?_,g2⟩
   ·rw [hsd];exact⟨by rw [bE],by rw [bE]; exact aah w1.2.1 (uQ hy),by rw [bE]; exact aai w1.2.2⟩
   ·grind [bE,fh]
   ·intro us hu;rw [hsd,bE];have hu1:=c1 us (by rw [anU]; exact hu);refine ym (j:=j) (cs:=cs) (X:=dec (y.den ρ)) (fun a us ha=>cC.cx (f2.dY.keeps f1.rel) _ _ ha) (fun us H5=>?_) (fh _ _ _) (fun n=>?_) hu1
    all_goals grind [uR,LG]
  grind [T.leaf]
theorem UG {v:AV} {h:Hp} {id t:Nat} {e:V} {ov:List (V×List AV)} (hv:afd v h=some (id,e,t,ov)): ∃ty,v= .qc id (dS e) t/\h.get id=some (.vec e t ty ov):=by
 unfold afd at hv;split at hv
 ·split at hv
  ·rename_i o ho;split at hv
   ·split at hv
    ·grind
    ·split at hv
     ·rename_i ht;split at hv
      ·rename_i hn;have ht:=aA ht
       grind [cR]
      grind
     grind
   grind
  grind
 grind
theorem J3 [bK] {α:Type} {ρ:Nat->Int} {v:AV} {s:St} {k:AV->St->T α} {x:α} (hρ:E.ρ=ρ) (r:bR E s.h w) (hp:bY ρ s.pc) (h:(Pw v s k).leaf ρ=some x) :
 ∃v' h' ef E',bY ρ ef/\Lj E w s.h E' h'/\(∀u,VR E w.heap v u->VR E' w.heap v' u)/\(k v' { s with h:=h',pc:=ef }).leaf ρ=some x:=by
 unfold Pw at h;split at h
 ·rename_i id e t ov hv;obtain⟨ty,rfl,Y⟩:=UG hv;obtain⟨hid,ho,amL⟩:=r.live id _ Y;have Ai:=ho;simp only [OR] at Ai;rw [hρ] at Ai;obtain⟨⟨tC,xL⟩,arr,lo,hi,us,q1,q2,q3,q4,q5,q6,q7⟩:=Ai;obtain⟨e',h',ef,E',fU,f,w',l',c',g⟩:=LX [] hρ r hp xL h;split at g
  ·rename_i o hg;have hg':=f.sub.get _ _ hg;rw [Y] at hg';simp only [aq] at hg';subst hg';obtain⟨hk,s1,r1⟩:=KI f.rel hg;have hρ':E'.ρ=ρ:=f.ρ.trans hρ;refine⟨_,_,ef,{ E' with ro:=fun b=>E'.ro b\/b=(E'.θ id).1 },fU,⟨f.ρ,f.dY.trans s1,r1,f.sub.trans (Sub.drop _ _)⟩,fun u hu=>?_,g⟩;simp only [VR] at hu ⊢;obtain⟨_,m,a,cap,p1,rfl,p3,p4⟩:=hu;rw [cD,hρ] at p1;have hθ:=f.dY.θ id hid;have hκ:=f.dY.κ id hid
   have hO:OR E' w.heap id (.vec e' t ty []):=by simp only [OR];rw [hρ',hθ,hκ];have hv':=c' us (by rw [ax]; exact q2);refine⟨⟨fun p hp=>by simp at hp,w'⟩,arr,lo,hi,us,q1,hv',q3,?_,q5,q6,q7⟩;have e1:=hv'.length;have e2:=q2.length;omega
   have hh:=WE (E:=E') (ro:=fun b=>E'.ro b\/b=(E'.θ id).1) (fun _ h=> .inl h) (.inr rfl) hO (k:=m) (cap:=cap) (a:=a) (by rw [hρ',l']; omega) p3 (by
    simp only [eY] at p4 ⊢;rw [hθ,hκ]
    exact p4)
   exact hh
  grind [T.leaf]
 grind [J5]
theorem qC [bK] {α:Type} {ρ:Nat->Int}: ∀{vs:List AV} {s:St} {E:En} {k:List AV->St->T α} {x:α},E.ρ=ρ->bR E s.h w->bY ρ s.pc->(yj vs s k).leaf ρ=some x->
 ∃N2 h' ef E',bY ρ ef/\Lj E w s.h E' h'/\(∀us,cC E w.heap vs us->cC E' w.heap N2 us)/\(k N2 { s with h:=h',pc:=ef }).leaf ρ=some x
 |[],s,E,k,x,hρ,r,hp,h=> ⟨[],s.h,s.pc,E,hp,Lj.refl r,fun _ h=>h,h⟩
 |v::vs,s,E,k,x,hρ,r,hp,h=>by simp only [yj] at h;obtain⟨v1,U,ga,E1,fS,f1,q1,g1⟩:=J3 hρ r hp h;obtain⟨WC,Z,ky,E2,kf,f2,q2,g2⟩:=qC (s:={ s with h:=U,pc:=ga }) (f1.ρ.trans hρ) f1.rel fS g1;refine⟨v1::WC,Z,ky,E2,kf,f1.trans f2,fun us hu=>?_,g2⟩;rw [bW] at hu ⊢;obtain⟨u,hD,rfl,a,b⟩:=hu;exact⟨u,hD,rfl,VR.cx (f2.dY.keeps f1.rel) _ _ (q1 u a),q2 hD (cC.cx (f1.dY.keeps r) _ _ b)⟩
end
section
variable {P:Program} {E:En} {w:World}
theorem mg: ∀{cs vs l:List AV} {o:Nat},dW cs o vs=some l->l.length=cs.length
 |cs,[],l,0,h=>by simp only [dW,aq] at h; rw [h]
 |[],v::vs,l,0,h=>by simp [dW] at h
 |c::cs,v::vs,l,0,h=>by
  simp only [dW] at h;split at h
  ·rename_i l' Y;simp only [aq] at h;subst h;simp [mg Y]
  grind
 |[],vs,l,o+1,h=>by simp [dW] at h
 |c::cs,vs,l,o+1,h=>by
  simp only [dW] at h;split at h
  ·rename_i l' Y;simp only [aq] at h;subst h;simp [mg Y]
  grind
theorem oC: ∀{cs vs l:List AV} {o:Nat} (m:List AV),dW cs o vs=some l->dW (cs++m) o vs=some (l++m)
 |cs,[],l,0,m,h=>by simp only [dW,aq] at h ⊢; rw [h]
 |[],v::vs,l,0,m,h=>by simp [dW] at h
 |c::cs,v::vs,l,0,m,h=>by
  simp only [dW,aX] at h ⊢;split at h
  ·rename_i l' Y;simp only [aq] at h;subst h;rw [oC m Y];rfl
  grind
 |[],vs,l,o+1,m,h=>by simp [dW] at h
 |c::cs,vs,l,o+1,m,h=>by
  simp only [dW,aX] at h ⊢;split at h
  ·rename_i l' Y;simp only [aq] at h;subst h;rw [oC m Y];rfl
  grind
theorem tJ: ∀{cs vs l:List AV} {o:Nat} (p:List AV),dW cs o vs=some l->dW (p++cs) (p.length+o) vs=some (p++l)
 |cs,vs,l,o,[],h=>by simpa using h
 |cs,vs,l,o,x::p,h=>by have:=tJ p h;rw [aX,aR,show p.length+1+o=(p.length+o)+1 by omega];simp only [dW,this,aX]
theorem sJ: ∀{cs vs l:List AV} {o:Nat},dW cs o vs=some l->∀j:Nat,l[j]?=if o<=j/\j<o+vs.length then vs[j-o]? else cs[j]?
 |cs,[],l,0,h,j=>by
  simp only [dW,aq] at h
  grind
 |[],v::vs,l,0,h,j=>by simp [dW] at h
 |c::cs,v::vs,l,0,h,j=>by
  simp only [dW] at h;split at h
  ·rename_i l' Y;simp only [aq] at h;subst h
   cases j with
   |zero=>simp
   |succ j=>
    have:=sJ Y j
    grind
  grind
 |[],vs,l,o+1,h,j=>by simp [dW] at h
 |c::cs,vs,l,o+1,h,j=>by
  simp only [dW] at h;split at h
  ·rename_i l' Y;simp only [aq] at h;subst h
   cases j with
   |zero=>rw [ak J]; rfl
   |succ j=>
    have:=sJ Y j
    grind
  grind
theorem AZ (x:V): ∀(cs:List CK) (j k:Nat),(jM cs j x)[k]?=(cs[k]?).map fun c=>sc c (jq (j+k) x)
 |[],j,k=>by simp [jM]
 |c::cs,j,0=>by simp [jM]
 |c::cs,j,k+1=>by
  simp only [jM,aN,AZ x cs (j+1) k]
  grind
theorem Cw {ρ:Nat->Int} {ks:List CK}: ∀{vs:List AV} {off:Nat} {x x':V},setCells ks off vs x=some x'->off+vs.length<=(dec (x.den ρ)).l.length->
 (dec (x'.den ρ)).l.length=(dec (x.den ρ)).l.length/\(dec (x.den ρ)=dL (dec (x.den ρ)).l->dec (x'.den ρ)=dL (dec (x'.den ρ)).l)/\
 ∀j,(j<off\/off+vs.length<=j)/\(dec (x'.den ρ)).l[j]?=(dec (x.den ρ)).l[j]?\/∃c v a,off<=j/\vs[j-off]?=some v/\ks[j]?=some c/\nD c v=some a/\(dec (x'.den ρ)).l[j]?=some (dec (a.den ρ))
 |[],off,x,x',h,_=>by
  simp only [setCells,aq] at h
  grind
 |v::vs,off,x,x',h,hle=>by
  simp only [setCells] at h;split at h
  ·rename_i c hc;split at h
   ·rename_i a ha;simp only [aR] at hle
    have hs:dec ((V.op .set x (eL (.eD (.i (Int.ofNat off))) a)).den ρ)=dL ((dec (x.den ρ)).l.set off (dec (a.den ρ))):=by simp only [eL,V.den,fX.den,bD,D.n];rfl
    obtain⟨U,Z,h3⟩:=Cw (ρ:=ρ) h (by rw [hs,bE,anW]; omega);rw [hs,bE,anW] at U;rw [hs] at Z h3;simp only [bE] at Z h3;rw [du] at hc
    grind
   grind
  grind
theorem dZ.mk {ro:Nat->Prop} {h:Array Obj} {d:D}: ∀{cs:List CK} {j:Nat} {us:List Value},us.length=cs.length->(∀k c u,cs[k]?=some c->us[k]?=some u->jO ro h c (d.W (j+k)) u)->dZ ro h cs j d us
 |[],j,us,Y,_=>by
  simp only [dZ]
  grind
 |c::cs,j,[],Y,_=>by simp at Y
 |c::cs,j,u::us,Y,hh=>by
  simp only [dZ];refine⟨u,us,rfl,by simpa using hh 0 c u rfl rfl,dZ.mk (by simpa using Y) fun k c' u' U Z=>?_⟩;have:=hh (k+1) c' u' (by simpa using U) (by simpa using Z)
  grind
theorem P7 {r:Row} {e e' i:V} {off k:Nat} {vs:List AV} {x:D} (hc:KP r e i off vs=some e') (hi:i.den E.ρ=(k:Int)) (hx:(dec (e.den E.ρ)).l[k]?=some x) (xL:qQ r x) (hle:off+vs.length<=r.es) :
 ∃x',dec (e'.den E.ρ)=dL ((dec (e.den E.ρ)).l.set k x')/\qQ r x'/\∀(h:Array Obj) (hD:List Value),hD.length=r.es->(∀j v u,off<=j->vs[j-off]?=some v->hD[j]?=some u->VR E h v u)->
  (∀j a u,(j<off\/off+vs.length<=j)->(ib r (.op .at e i))[j]?=some a->hD[j]?=some u->VR E h a u)->xS E.ro h r x' hD:=by
 unfold KP at hc;split at hc
 ·rename_i c;split at hc
  ·split at hc
   ·rename_i v;split at hc
    ·rename_i a ha;simp only [aq] at hc;subst hc;refine⟨dec (a.den E.ρ),?_,n8 ha,?_⟩
     ·simp only [eL,V.den,fX.den,bD,mi,D.n,hi,oD]
     ·intro h hD U Z _
      cases hD with
      |nil=>simp [Row.es] at U
      |cons y ys=>
       have:ys= []:=by
        grind [Row.es]
       subst this;exact⟨y,rfl,lL (Z 0 v y (az _) rfl rfl) ha⟩
    grind
   grind
  grind
 ·rename_i ks;split at hc
  ·rename_i x' VW;simp only [aq] at hc;subst hc;have hY:=Cm E.ρ e i hi hx;obtain⟨w1,w2,w3⟩:=xL;obtain⟨g1,g2,g3⟩:=Cw (ρ:=E.ρ) VW (by rw [hY,w2]; exact hle);rw [hY] at g1 g2 g3;refine⟨dec (x'.den E.ρ),?_,⟨g2 w1,by rw [g1,w2],?_⟩,?_⟩
   ·simp only [eL,V.den,fX.den,bD,mi,D.n,hi,oD]
   ·intro j c y hj hy;rcases g3 j with ⟨_,q2⟩|⟨c',v',a',_,_,q3,q4,q5⟩
    ·grind
    ·rw [q5] at hy;rw [hj] at q3;simp only [aq] at hy q3;subst hy q3;exact n8 q4
   ·intro h hD U Z h3;show dZ E.ro h ks 0 (dec (x'.den E.ρ)) hD;refine dZ.mk U fun j c u hj hu=>?_;rw [aL];rcases g3 j with ⟨q1,q2⟩|⟨c',v',a',q1,q2,q3,q4,q5⟩
    ·have p2:=h3 j (sc c (jq j (.op .at e i))) u q1 (by simp only [ib,AZ,hj,am4,aL]) hu;rw [od,qg,hY] at p2;have:(dec (x'.den E.ρ)).W j=x.W j:=by simp only [D.W,q2]
     grind
    ·rw [hj] at q3;simp only [aq] at q3;subst q3;have:(dec (x'.den E.ρ)).W j=dec (a'.den E.ρ):=by simp only [D.W,q5,ay]
     rw [this];exact lL (Z j v' u q1 q2 hu) q4
  grind
theorem lq {ρ:Nat->Int} {r:Row} {ov jA:List (V×List AV)}: ∀(ds:List D) (i:Nat),(∀j,i<=j->j<i+ds.length->ed ρ j ov=ed ρ j jA)->bH ρ r ov ds i=bH ρ r jA ds i
 |[],_,_=>rfl
 |d::ds,i,h=>by simp only [bH];rw [h i (az _) ae,lq ds (i+1) fun j U Z=>h j J (by simp only [aR]; omega)]
theorem EC {ρ:Nat->Int} {pc:List (SB×Bool)} (hp:bY ρ pc) {i:V} {k:Nat} (hi:i.den ρ=(k:Int)) {mB:List AV} {r:Row} (MC:mB.length=r.es): ∀{ov jA:List (V×List AV)},Hu pc i mB ov=some jA->tN r ov->
 tN r jA/\ed ρ k jA=some mB/\∀j:Nat,j≠k->ed ρ j jA=ed ρ j ov
 |[],jA,h,_=>by simp [Hu] at h
 |(j,c)::l,jA,h,ho=>by
  simp only [Hu] at h;split at h
  ·rename_i he;have he:=cR _ _ he;subst he;simp only [aq] at h;subst h;refine⟨?_,by simp [ed,hi],?_⟩
   ·intro p fU;rcases aH.1 fU with rfl|fU
    ·grind
    ·exact ho p (by simp [fU])
   ·intro m hm;simp only [ed,hi]
    grind
  ·split at h
   ·rename_i b W;split at h
    ·have W:=gY hp W;rw [hJ,beq_iff_eq,hi] at W;simp only [aq] at h;subst h;refine⟨?_,by simp [ed,W],?_⟩
     ·intro p fU;rcases aH.1 fU with rfl|fU
      ·grind
      ·exact ho p (by simp [fU])
     ·intro m hm;simp only [ed,<- W]
      grind
    split at h
    ·rename_i l' Y;simp only [aq] at h;subst h;have W:=gY hp W;rw [hJ,beq_eq_false_iff_ne,hi] at W;obtain⟨g1,g2,g3⟩:=EC hp hi MC Y fun p fU=>ho p (by simp [fU]);refine⟨?_,?_,?_⟩
     ·intro p fU;rcases aH.1 fU with rfl|fU
      ·exact ho _ ae
      ·exact g1 p fU
     ·simp only [ed]
      grind
     ·intro m hm;simp only [ed]
      grind
    grind
   grind
theorem IN {ρ:Nat->Int} {pc:List (SB×Bool)} (hp:bY ρ pc) {i:V} {k:Nat} (hi:i.den ρ=(k:Int)): ∀{ov:List (V×List AV)},wN pc i ov=true->ed ρ k ov=none
 |[],_=>rfl
 |(j,c)::l,h=>by
  simp only [wN] at h;split at h
  ·rename_i W;have W:=gY hp W;rw [hJ,beq_eq_false_iff_ne,hi] at W;simp only [ed];rw [ak (fun q=>W q.symm)];exact IN hp hi h
  grind
theorem OR.congr {h:Array Obj} {id:Nat} {a b:List AV} {ty:TypeId} (ho:OR E h id (.cells a ty)) (Y:b.length=a.length) (hv: ∀us,cC E h a us->cC E h b us):OR E h id (.cells b ty):=by
 simp only [OR] at ho ⊢
 grind
set_option maxHeartbeats 800000 in
theorem MT [bK] {E1:En} {tt:TT} (cP:eJ P tt) {s s':St} (r1:bR E1 s.h w) (hp:bY E1.ρ s.pc) {ty id es:Nat} {i:V} {off:Nat} {one:Bool} {vs:List AV} {v':AV} {u x:Value} (hx:VR E1 w.heap (.AR id es i off) u)
 (N6:one=true->cC E1 w.heap vs x.cells.toList/\∀u∈x.cells.toList,u.oneCell'=true) (h:(FD tt s ty id es i off one vs).leaf E1.ρ=some (v',s')) :
 s'.bG=s.bG/\bY E1.ρ s'.pc/\v'=AV.undef/\∃w' E',(Instr.storeAt ty u x).run P w= .ok () w'/\fq E1 s.h w E' s'.h w'/\bR E' s'.h w':=by
 unfold FD at h;split at h
 ·rename_i o Y;split at h
  ·rename_i e t Bo ov;split at h
   ·rename_i ti fB;split at h
    ·rename_i jS;obtain⟨l9,hvl,xM⟩:=jS;obtain⟨pc0,YY,t1,t2,h3⟩:=oo hp h;obtain⟨ef,fU,h3⟩:=wS (s:={ s with pc:=pc0 }) YY h3;split at h3
     ·rename_i cs hc;split at h3
      ·rename_i mB hs;obtain⟨Lb,Y5⟩:=N6 xM;have hx1:=hx;simp only [VR] at hx1;obtain⟨hid,k,hk,rfl⟩:=hx1;obtain⟨rc,ho,xL⟩:=r1.py Y;rw [cD] at t2;have gv:k<(dec (e.den E1.ρ)).l.length:=J
       have W:(dec (e.den E1.ρ)).l[k]?=some (dec (e.den E1.ρ)).l[k]:=aW gv;generalize hxk:(dec (e.den E1.ρ)).l[k]=xk at W;obtain⟨c1,c2⟩:=jW (ρ:=E1.ρ) ho (j:=0) W;rw [aL] at c1;generalize aaU:bH E1.ρ (rowOf t) ov ((dec (e.den E1.ρ)).l.take k) 0=pre at c1 c2;generalize Sm:bH E1.ρ (rowOf t) ov ((dec (e.den E1.ρ)).l.drop (k+1)) (k+1)=post at c1
       have gS:(∀h us,cC E1 h (match ed E1.ρ k ov with |some cs=>cs|none=>ib (rowOf t) (.eD xk)) us↔cC E1 h cs us)/\cs.length=(rowOf t).es:=by
        rcases oE fU hk hc with g|⟨g,rfl⟩
        ·rw [g];obtain⟨p,p1,p2,_⟩:=lD g;have:=ho p p1;rw [p2] at this;exact⟨fun _ _=>Iff.rfl,this⟩
        ·rw [g];refine⟨fun h us=>yA ?_,iw _ _⟩;rw [Cm E1.ρ e i hk W];simp only [V.den,bD]
       obtain⟨hrv,DK⟩:=gS;have JT:mB.length=(rowOf t).es:=by rw [mg hs,DK]
       have hor:OR E1 w.heap id (.cells (pre++(cs++post)) Bo):=by
        have:=(rc.live id _ (by rw [Hp.bU,an rfl])).2.1;unfold cQ at this;rw [c1] at this;refine OR.congr this ?_ ?_
        ·simp only [a8,DK];congr 2;split
         ·rename_i cs0 h0;obtain⟨p,p1,p2,_⟩:=lD h0;have:=ho p p1;rw [p2] at this;exact this.symm
         ·rw [iw]
        ·intro us q2;obtain⟨a,b,rfl,a1,a2⟩:=q2.split;obtain⟨a',b',rfl,b1,b2⟩:=a2.split;exact a1.append (((hrv _ _).1 b1).append b2)
       have r2:=r1.swap (H2:=s.h.put id (.cells (pre++(cs++post)) Bo)) Y hor (by rw [Hp.bU,an rfl]) (fun j hj=>by rw [Hp.bU,ak hj]) rfl rfl
       have hs2:dW (pre++(cs++post)) (k*es+off) vs=some (pre++(mB++post)):=by rw [<- l9,<- c2];exact tJ pre (oC post hs)
       obtain⟨w',g1,g2,g3⟩:=mD (P:=P) r2 (by rw [Hp.bU,an rfl]) hs2 Lb Y5;have hlen:x.cells.size=ti.size:=by have:=Lb.length; simp only [bo] at this; omega
       have kP:(Instr.storeAt ty (.pointer (some ⟨(E1.θ id).1,(E1.θ id).2+(k*es+off),none⟩)) x).run P w= .ok () w':=by simp [Instr.storeAt,Instr.sureAddr,storeVar,eE (cP ty ti fB),hlen,g1]
       have fin: ∀(o':dO),OR E1 w'.heap id o'->∃w' E',(Instr.storeAt ty (.pointer (some ⟨(E1.θ id).1,(E1.θ id).2+(k*es+off),none⟩)) x).run P w= .ok () w'/\fq E1 s.h w E' (s.h.put id o') w'/\bR E' (s.h.put id o') w':=by
        intro o' Ai;have al1:GY (s.h.put id (.cells (pre++(cs++post)) Bo)) s.h:=(GY.put Y).symm
        have al2:GY ((s.h.put id (.cells (pre++(cs++post)) Bo)).put id (.cells (pre++(mB++post)) Bo)) (s.h.put id o'):=by
         refine⟨fun j y hj=>?_,fun j y hj=>?_,rfl,rfl⟩
         ·rw [Hp.bU];split
          ·exact⟨o',rfl⟩
          ·rename_i gb;rw [Hp.bU,ak gb,Hp.bU,ak gb] at hj;exact⟨y,hj⟩
         ·rw [Hp.bU] at hj ⊢;split
          ·exact⟨_,rfl⟩
          ·rename_i gb;rw [ak gb] at hj;rw [Hp.bU,ak gb];exact⟨y,hj⟩
        refine⟨w',E1,kP,(g2.left al1).right al2,?_⟩;exact g3.swap (id:=id) (by rw [Hp.bU,an rfl]) Ai (by rw [Hp.bU,an rfl]) (fun j hj=>by rw [Hp.bU,ak hj,Hp.bU,ak hj,Hp.bU,ak hj]) rfl rfl
       have BW:=(g3.live id _ (by rw [Hp.bU,an rfl])).2.1
       have apart: ∀jA:List (V×List AV),tN (rowOf t) jA->ed E1.ρ k jA=some mB->(∀j:Nat,j≠k->ed E1.ρ j jA=ed E1.ρ j ov)->OR E1 w'.heap id (.vec e t Bo jA):=by
        intro jA q1 q2 q3;refine OR.py.2 ⟨⟨q1,xL⟩,?_⟩
        have:cQ E1.ρ e t jA=pre++(mB++post):=by
         unfold cQ;obtain⟨d1,_⟩:=jW (ρ:=E1.ρ) q1 (j:=0) W;rw [aL,q2] at d1;rw [d1,<- aaU,<- Sm];congr 1
         ·refine lq _ _ fun j _ hj=>q3 j ?_;rw [bk] at hj;omega
         ·congr 1;exact lq _ _ fun j hj _=>q3 j J
        rw [this];exact BW
       split at h3
       ·rename_i jA tC;have:=bF h3;simp only [au] at this;obtain⟨rfl,rfl⟩:=this;refine⟨rfl,fU,rfl,?_⟩;obtain⟨q1,q2,q3⟩:=EC fU hk JT tC ho;exact fin _ (apart jA q1 q2 q3)
       ·split at h3
        ·rename_i ajs;have Sp:=IN fU hk ajs;split at h3
         ·rename_i e' UW;have:=bF h3;simp only [au] at this;obtain⟨rfl,rfl⟩:=this;refine⟨rfl,fU,rfl,fin _ ?_⟩;have hxm:xk∈(dec (e.den E1.ρ)).l:=amW W
          have hle:off+vs.length<=(rowOf t).es:=by
           rw [<- DK];rcases anC vs.length with hz|hz
           ·have ai0:=am5 hz;subst ai0
            have: ∀(l c:List AV) (o:Nat),dW c o []=some l->o<=c.length:=by
             intro l c
             induction c generalizing l with
             |nil=>intro o ho; cases o with |zero=>exact ans _|succ o=>simp [dW] at ho
             |cons a c ih=>
              intro o ho
              cases o with
              |zero=>exact ans _
              |succ o=>
               simp only [dW] at ho;split at ho
               ·rename_i l' vy;have:=ih l' o vy;simp; omega
               ·simp at ho
            have:=this _ _ _ hs;simpa using this
           ·have:=sJ hs (off+vs.length-1);rw [an J] at this
            have CO:(vs[off+vs.length-1-off]?).isSome=true:=by rw [aW J]; rfl
            rw [<- this] at CO;obtain⟨y,hy⟩:=ant.1 CO;have:=(bj.1 hy).1;rw [mg hs] at this;omega
          obtain⟨x',z1,z2,z3⟩:=P7 UW hk W (xL.2.1 xk hxm) hle;refine OR.py.2 ⟨⟨ho,?_⟩,?_⟩
          ·rw [z1];refine⟨by rw [bE],fun y hy=>?_,by rw [bE]; intro q; have:=congrArg List.length q; simp at this; exact xL.2.2 this⟩;rw [bE] at hy;rcases List.mem_or_eq_of_mem_set hy with hy|rfl
           ·exact xL.2.1 y hy
           ·exact z2
          ·have Fh:(dec (e'.den E1.ρ)).l[k]?=some x':=by
            rw [z1,bE,List.getElem?_set_self gv]
           obtain⟨d1,d2⟩:=jW (ρ:=E1.ρ) ho (j:=0) Fh;rw [aL,Sp] at d1
           have Sr:cQ E1.ρ e' t ov=pre++(ib (rowOf t) (.eD x')++post):=by
            unfold cQ;rw [d1,<- aaU,<- Sm,z1,bE];congr 1
            ·rw [aow (az _)]
            ·congr 1;rw [aox J]
           rw [Sr];refine OR.congr BW (by simp only [a8,iw,JT]) fun us q2=>?_;obtain⟨a,b,rfl,a1,a2⟩:=q2.split;obtain⟨a',b',rfl,b1,b2⟩:=a2.split;refine a1.append (cC.append ?_ b2);rw [gG];simp only [V.den,bD]
           have ajl:cs=ib (rowOf t) (.op .at e i):=by
            rcases oE fU hk hc with g|⟨g,g'⟩
            ·rw [Sp] at g; simp at g
            ·exact g'
           refine z3 _ a' (by rw [b1.length,JT]) ?_ ?_
           ·intro j vj uj hj1 hj2 hj3;have hjl:=(bj.1 hj2).1;have:=sJ hs j;rw [an J,hj2] at this;obtain⟨y,y1,y2⟩:=b1.nth (by rw [du]; exact this);rw [hj3] at y1;simp only [aq] at y1;subst y1;exact y2
           ·intro j aj uj hj1 hj2 hj3;have:=sJ hs j;rw [ak J,ajl,hj2] at this;obtain⟨y,y1,y2⟩:=b1.nth (by rw [du]; exact this);rw [hj3] at y1;simp only [aq] at y1;subst y1;exact y2
         ·have:=bF h3;simp only [au] at this;obtain⟨rfl,rfl⟩:=this;refine⟨rfl,fU,rfl,fin _ (apart _ ?_ ?_ ?_)⟩
          ·intro p fU;rcases aH.1 fU with rfl|fU
           ·exact JT
           ·exact ho p fU
          ·simp only [ed];rw [an hk]
          ·intro j hj;simp only [ed];rw [ak J]
        ·simp [T.leaf] at h3
      ·simp [T.leaf] at h3
     ·simp [T.leaf] at h3
    ·simp [T.leaf] at h
   ·simp [T.leaf] at h
  ·simp [T.leaf] at h
 ·simp [T.leaf] at h
theorem aa2 {E1:En} {h:Array Obj} {c:CK} {v:AV} {u:Value} (hv:VR E1 h v u):VR E1 h (age c v) u:=by
 unfold age;split
 ·split
  ·simp only [VR] at hv ⊢;subst hv;exact⟨⟨none,rfl⟩,by simp only [V.den,bD]; exact .nil _⟩
  ·split
   ·split
    ·split
     ·simp only [VR] at hv ⊢;obtain⟨_,a,cap,rfl,_,hc⟩:=hv;simp only [eY] at hc;obtain⟨rfl,_⟩:=hc;exact⟨⟨some a,rfl⟩,by simp only [V.den,bD]; exact .xc _ _ _⟩
     grind
    grind
   grind
  grind
 grind
theorem Ik {E1:En} {h:Array Obj}: ∀(cs:List CK) {vs:List AV} {us:List Value},cC E1 h vs us->cC E1 h (MK cs vs) us
 |[],vs,us,hv=>hv
 |_::_,[],us,hv=>hv
 |c::cs,v::vs,us,hv=>by rw [bW] at hv;obtain⟨u,hD,rfl,U,Z⟩:=hv;simp only [MK];rw [bW];exact⟨u,hD,rfl,aa2 U,Ik cs Z⟩
set_option maxHeartbeats 800000 in
theorem MS [bK] {E1:En} {tt:TT} (cP:eJ P tt) {s s':St} (r1:bR E1 s.h w) (hp:bY E1.ρ s.pc) {ty id es:Nat} {i j0:V} {off:Nat} {one:Bool} {vs:List AV} {v':AV} {u x:Value} (hx:VR E1 w.heap (.AR id es i off) u)
 (N6:one=true->cC E1 w.heap vs x.cells.toList/\∀u∈x.cells.toList,u.oneCell'=true) (h:(FB tt s ty id es i j0 off one vs).leaf E1.ρ=some (v',s')) :
 s'.bG=s.bG/\bY E1.ρ s'.pc/\v'=AV.undef/\∃w' E',(Instr.storeAt ty u x).run P w= .ok () w'/\fq E1 s.h w E' s'.h w'/\bR E' s'.h w':=by
 unfold FB at h;split at h
 ·rename_i o Y;split at h
  ·rename_i e t Bo ov;split at h
   ·rename_i ti fB;split at h
    ·rename_i jS;obtain⟨l9,hvl,xM⟩:=jS;obtain⟨pc0,YY,t1,t2,h3⟩:=oo hp h;obtain⟨ef,fU,h3⟩:=wS (s:={ s with pc:=pc0 }) YY h3;split at h3
     ·rename_i hdb;have hij:=gY fU hdb;split at h3
      ·rename_i cs hc;split at h3
       ·rename_i mB hs;obtain⟨aiZ,Y5⟩:=N6 xM;have Lb:=Ik ((OM (rowOf t)).drop off) aiZ;have hx1:=hx;simp only [VR] at hx1;obtain⟨hid,k,hk,rfl⟩:=hx1;simp only [SB.den,beq_iff_eq] at hij;have Bg:j0.den E1.ρ=(k:Int):=by rw [<- hij]; exact hk
        obtain⟨rc,ho,xL⟩:=r1.py Y;rw [cD] at t2;have gv:k<(dec (e.den E1.ρ)).l.length:=J
        have W:(dec (e.den E1.ρ)).l[k]?=some (dec (e.den E1.ρ)).l[k]:=aW gv;generalize hxk:(dec (e.den E1.ρ)).l[k]=xk at W;obtain⟨c1,c2⟩:=jW (ρ:=E1.ρ) ho (j:=0) W;rw [aL] at c1;generalize aaU:bH E1.ρ (rowOf t) ov ((dec (e.den E1.ρ)).l.take k) 0=pre at c1 c2;generalize Sm:bH E1.ρ (rowOf t) ov ((dec (e.den E1.ρ)).l.drop (k+1)) (k+1)=post at c1
        have gS:(∀h us,cC E1 h (match ed E1.ρ k ov with |some cs=>cs|none=>ib (rowOf t) (.eD xk)) us↔cC E1 h cs us)/\cs.length=(rowOf t).es:=by
         rcases oE fU Bg hc with g|⟨g,rfl⟩
         ·rw [g];obtain⟨p,p1,p2,_⟩:=lD g;have:=ho p p1;rw [p2] at this;exact⟨fun _ _=>Iff.rfl,this⟩
         ·rw [g];refine⟨fun h us=>yA ?_,iw _ _⟩;rw [Cm E1.ρ e j0 Bg W];simp only [V.den,bD]
        obtain⟨hrv,DK⟩:=gS;have JT:mB.length=(rowOf t).es:=by rw [mg hs,DK]
        have hor:OR E1 w.heap id (.cells (pre++(cs++post)) Bo):=by
         have:=(rc.live id _ (by rw [Hp.bU,an rfl])).2.1;unfold cQ at this;rw [c1] at this;refine OR.congr this ?_ ?_
         ·simp only [a8,DK];congr 2;split
          ·rename_i cs0 h0;obtain⟨p,p1,p2,_⟩:=lD h0;have:=ho p p1;rw [p2] at this;exact this.symm
          ·rw [iw]
         ·intro us q2;obtain⟨a,b,rfl,a1,a2⟩:=q2.split;obtain⟨a',b',rfl,b1,b2⟩:=a2.split;exact a1.append (((hrv _ _).1 b1).append b2)
        have r2:=r1.swap (H2:=s.h.put id (.cells (pre++(cs++post)) Bo)) Y hor (by rw [Hp.bU,an rfl]) (fun j hj=>by rw [Hp.bU,ak hj]) rfl rfl
        have hs2:dW (pre++(cs++post)) (k*es+off) (MK ((OM (rowOf t)).drop off) vs)=some (pre++(mB++post)):=by rw [<- l9,<- c2];exact tJ pre (oC post hs)
        obtain⟨w',g1,g2,g3⟩:=mD (P:=P) r2 (by rw [Hp.bU,an rfl]) hs2 Lb Y5;have hlen:x.cells.size=ti.size:=by have:=aiZ.length; simp only [bo] at this; omega
        have kP:(Instr.storeAt ty (.pointer (some ⟨(E1.θ id).1,(E1.θ id).2+(k*es+off),none⟩)) x).run P w= .ok () w':=by simp [Instr.storeAt,Instr.sureAddr,storeVar,eE (cP ty ti fB),hlen,g1]
        have fin: ∀(o':dO),OR E1 w'.heap id o'->∃w' E',(Instr.storeAt ty (.pointer (some ⟨(E1.θ id).1,(E1.θ id).2+(k*es+off),none⟩)) x).run P w= .ok () w'/\fq E1 s.h w E' (s.h.put id o') w'/\bR E' (s.h.put id o') w':=by
         intro o' Ai;have al1:GY (s.h.put id (.cells (pre++(cs++post)) Bo)) s.h:=(GY.put Y).symm
         have al2:GY ((s.h.put id (.cells (pre++(cs++post)) Bo)).put id (.cells (pre++(mB++post)) Bo)) (s.h.put id o'):=by
          refine⟨fun j y hj=>?_,fun j y hj=>?_,rfl,rfl⟩
          ·rw [Hp.bU];split
           ·exact⟨o',rfl⟩
           ·rename_i gb;rw [Hp.bU,ak gb,Hp.bU,ak gb] at hj;exact⟨y,hj⟩
          ·rw [Hp.bU] at hj ⊢;split
           ·exact⟨_,rfl⟩
           ·rename_i gb;rw [ak gb] at hj;rw [Hp.bU,ak gb];exact⟨y,hj⟩
         refine⟨w',E1,kP,(g2.left al1).right al2,?_⟩;exact g3.swap (id:=id) (by rw [Hp.bU,an rfl]) Ai (by rw [Hp.bU,an rfl]) (fun j hj=>by rw [Hp.bU,ak hj,Hp.bU,ak hj,Hp.bU,ak hj]) rfl rfl
        have BW:=(g3.live id _ (by rw [Hp.bU,an rfl])).2.1
        have apart: ∀jA:List (V×List AV),tN (rowOf t) jA->ed E1.ρ k jA=some mB->(∀j:Nat,j≠k->ed E1.ρ j jA=ed E1.ρ j ov)->OR E1 w'.heap id (.vec e t Bo jA):=by
         intro jA q1 q2 q3;refine OR.py.2 ⟨⟨q1,xL⟩,?_⟩
         have:cQ E1.ρ e t jA=pre++(mB++post):=by
          unfold cQ;obtain⟨d1,_⟩:=jW (ρ:=E1.ρ) q1 (j:=0) W;rw [aL,q2] at d1;rw [d1,<- aaU,<- Sm];congr 1
          ·refine lq _ _ fun j _ hj=>q3 j ?_;rw [bk] at hj;omega
          ·congr 1;exact lq _ _ fun j hj _=>q3 j J
         rw [this];exact BW
        split at h3
        ·rename_i jA tC;have:=bF h3;simp only [au] at this;obtain⟨rfl,rfl⟩:=this;refine⟨rfl,fU,rfl,?_⟩;obtain⟨q1,q2,q3⟩:=EC fU Bg JT tC ho;exact fin _ (apart jA q1 q2 q3)
        ·split at h3
         ·rename_i ajs;have:=bF h3;simp only [au] at this;obtain⟨rfl,rfl⟩:=this;refine⟨rfl,fU,rfl,fin _ (apart _ ?_ ?_ ?_)⟩
          ·intro p fU;rcases aH.1 fU with rfl|fU
           ·exact JT
           ·exact ho p fU
          ·simp only [ed];rw [an Bg]
          ·intro j hj;simp only [ed];rw [ak J]
         ·simp [T.leaf] at h3
       ·simp [T.leaf] at h3
      ·simp [T.leaf] at h3
     ·simp [T.leaf] at h3
    ·simp [T.leaf] at h
   ·simp [T.leaf] at h
  ·simp [T.leaf] at h
 ·simp [T.leaf] at h
theorem MU [bK] {tt:TT} (cP:eJ P tt) {s s':St} (r:bR E s.h w) (hp:bY E.ρ s.pc) {ty id es:Nat} {i:V} {off:Nat} {v v':AV} {u x:Value} (hx:VR E w.heap (.AR id es i off) u) (hv:VR E w.heap v x) (h:(FF tt s ty id es i off v).leaf E.ρ=some (v',s')) :
 s'.bG=s.bG/\bY E.ρ s'.pc/\v'=AV.undef/\∃w' E',(Instr.storeAt ty u x).run P w= .ok () w'/\fq E s.h w E' s'.h w'/\bR E' s'.h w':=by
 unfold FF at h;split at h
 ·exact MS cP r hp hx (fun xM=> ⟨hv.cells xM,(hv.cells xM).sV xM⟩) h
 ·obtain⟨vs,U,ga,E1,fS,f,q,g⟩:=qC rfl r hp h;have hρ:=f.ρ;rw [<- hρ] at fS g;obtain⟨a1,a2,a3,w',E',a4,a5,a6⟩:=MT cP (s:={ s with h:=U,pc:=ga }) f.rel fS (VR.cx (f.dY.keeps r) _ _ hx) (fun xM=> ⟨q _ (hv.cells xM),(hv.cells xM).sV xM⟩) g;exact⟨a1,by rw [<- hρ]; exact a2,a3,w',E',a4,f.dY.trans a5,a6⟩
end
section
variable {P:Program} {E:En} {w:World}
theorem xS.length {ro:Nat->Prop} {h:Array Obj} {r:Row} {d:D} {us:List Value} (hh:xS ro h r d us):us.length=r.es:=by
 cases r with
 |one c=>obtain⟨u,rfl,_⟩:=hh; rfl
 |many cs=>exact dZ.length hh
theorem gr.append {h:Array Obj} {b o:Nat} {us vs:List Value} (U:gr h b o us) (Z:gr h b (o+us.length) vs):gr h b o (us++vs):=by
 intro i u hi;rw [aop] at hi;split at hi
 ·exact U i u hi
 ·rename_i gv;have:=Z _ u hi
  grind
theorem Er {ro:Nat->Prop} (l7:ro=E.ro) {h:Array Obj} {r:Row} {b o:Nat}: ∀(L:List D) (j:Nat),(∀i x,L[i]?=some x->∃us,xS ro h r x us/\gr h b (o+(j+i)*r.es) us)->
 ∃us,cC E h (bH E.ρ r [] L j) us/\gr h b (o+j*r.es) us/\us.length=L.length*r.es/\∀u∈us,u.oneCell'=true
 |[],j,_=> ⟨[],by simp [bH,cC],fun i u hi=>by simp at hi,ae,ae⟩
 |d::L,j,hh=>by
  subst l7;obtain⟨a,a1,a2⟩:=hh 0 d rfl
  obtain⟨b',b1,b2,b3,b4⟩:=Er rfl L (j+1) fun i x hi=>by have:=hh (i+1) x (by simpa using hi);rw [show j+(i+1)=j+1+i by omega] at this;exact this
  have V1:=a1.length;refine⟨a++b',?_,?_,?_,?_⟩
  ·simp only [bH,ed];refine cC.append ?_ b1;rw [gG];simpa only [V.den,bD] using a1
  ·rw [bx] at a2;refine a2.append ?_
   grind
  ·grind
  ·intro u hu;rcases am2.1 hu with hu|hu
   ·exact a1.sV u hu
   grind
theorem abz {t:Nat} {d:D} {u:Value} (hr:Rd E.ro w.heap (.sl t) d u) (gb:d.l≠[]): ∃us,Src P E w (rowOf t).es d.l.length (bH E.ρ (rowOf t) [] d.l 0) u us:=by
 obtain⟨x,hx⟩ : ∃x,d.l[0]?=some x:=by
  cases h:d.l with
  |nil=>exact absurd h gb
  |cons a l=>exact⟨a,rfl⟩
 obtain⟨b,o,cap,us0,rfl,hb,_,_⟩:=hr.row hx
 obtain⟨us,U,Z,h3,h4⟩:=Er (E:=E) (ro:=E.ro) rfl (h:=w.heap) (r:=rowOf t) (b:=b) (o:=o) d.l 0 fun i x hi=>by
  obtain⟨b',o',qL,hD,he,_,g1,g2⟩:=hr.row hi
  grind
 rw [am3,bx] at Z;exact⟨us.toArray,fun _=>rfl,fun w2 hw=>by simp only [Builtin.firstCells]; exact Z.RV h3 w2 hw,by simpa using U,by simpa using h3,by simpa using h4⟩
structure Grown (ρ:Nat->Int) (r:Row) (e0 e1:V) (ds:List D) (news:List AV):Prop where
 l:(dec (e1.den ρ)).l=(dec (e0.den ρ)).l++ds
 wf:dec (e1.den ρ)=dL (dec (e1.den ρ)).l
 rows: ∀d∈ds,qQ r d
 vr: ∀(E':En) (h:Array Obj) (us:List Value) (j:Nat),E'.ρ=ρ->cC E' h news us->cC E' h (bH ρ r [] ds j) us
theorem kX (r:Row):tN r []:=fun p hp=>by simp at hp
theorem DD [bK] {E':En} {H0:Hp} {w':World} {cells:List AV} {e:TypeId} {e1:V} {t:Nat} (r:bR E' (H0.new (.cells cells e)) w') (xL:tx (rowOf t) (dec (e1.den E'.ρ))) (Y:(cQ E'.ρ e1 t []).length=cells.length)
 (hv: ∀us,cC E' w'.heap cells us->cC E' w'.heap (cQ E'.ρ e1 t []) us):bR E' (H0.new (.vec e1 t e [])) w':=by
 have hg:(H0.new (.cells cells e)).get H0.fresh=some (.cells cells e):=by rw [Hp.gD,an rfl]
 refine r.swap hg (OR.py.2 ⟨⟨kX _,xL⟩,OR.congr (r.live _ _ hg).2.1 Y hv⟩) (by rw [Hp.gD,an rfl]) (fun j hj=>by rw [Hp.gD,ak hj,Hp.gD,ak hj]) ?_ ?_
 all_goals grind [Hp.new]
theorem xe {H0 H1:Hp} {o o':dO} (hn:H1.next=H0.next) (hr:H1.res=H0.res) (hg: ∀j,(H0.get j).isSome=(H1.get j).isSome):GY (H0.new o) (H1.new o'):=by
 have hf:H1.fresh=H0.fresh:=by unfold Hp.fresh; rw [hn,hr]
 have key: ∀{A B:Option dO} {x:dO},A.isSome=B.isSome->A=some x->∃y,B=some y:=by intro A B x U Z;rw [Z] at U;exact ant.1 U.symm
 refine⟨fun j x hj=>?_,fun j x hj=>?_,?_,?_⟩
 all_goals grind [Hp.gD,Hp.new]
set_option maxHeartbeats 800000 in
theorem ze [bK] {t t2 ty:Nat} {H h0:Hp} (r:bR E H w) {ie:TI} {e m:Nat} {own:Option Nat} {news:List AV} {x:AV} {d2:TypeDesc} {u u2:Value} {us:Array Value} (vv:nG P e ie)
 (ht:P.underlying t=some (.slice e)) (zj:P.underlying t2=some d2) (jG: ∀k,d2≠.int k) (vZ:ie.size≠0) (sv:ie.bytes≠0) (tB:ie.zero.length=ie.size) (N8:ie.bytes<=400)
 (src:Src P E w ie.size m news u2 us) (hm:0<m) (hx:VR E w.heap x u) {e0 e1:V} {t':Nat} (hb:qM e own x H=some (e0,t',h0)) (l9:(rowOf t').es=ie.size) {ds:List D} (g:Grown E.ρ (rowOf t') e0 e1 ds news) (xn:ds.length=m)
 (afJ:((dec (e0.den E.ρ)).l.length+m)*ie.bytes<=140737488355328) :
 ∃y w' E',(Builtin.append_ #[t,t2] ty #[u,u2]).run P w= .ok y w'/\fq E H w E' (h0.new (.vec e1 t' e [])) w'/\bR E' (h0.new (.vec e1 t' e [])) w'/\VR E' w'.heap (.qc h0.fresh (dS e1) t') y:=by
 have hbound: ∀k,k<=(dec (e0.den E.ρ)).l.length->(k+m)*ie.bytes<=140737488355328:=by intro k hk;exact bq (anp _ J) afJ
 have hnl:news.length=m*ie.size:=by have U:=src.VO.length;have Z:=src.size;simp only [bo] at U;omega
 have uq: ∀(a:Option Addr),u= .slice a 0 0->h0=H->(dec (e0.den E.ρ)).l= []->
  ∃y w' E',(Builtin.append_ #[t,t2] ty #[u,u2]).run P w= .ok y w'/\fq E H w E' (h0.new (.vec e1 t' e [])) w'/\bR E' (h0.new (.vec e1 t' e [])) w'/\VR E' w'.heap (.qc h0.fresh (dS e1) t') y:=by
  intro a hu he k8;subst hu he
  have pS:n4 ie e 0 m news h0=some (.slice h0.fresh 0 (0+m) (.rest ie.size),h0.new (.cells news e)):=by unfold n4;rw [an (hbound 0 J)]
  obtain⟨y,w',E',p1,p2,p3,p4⟩:=pU (t:=t) (t2:=t2) (ty:=ty) (cap:=0) r vv ht zj jG sv tB src J a (old:=[]) (olds:=#[]) (cs:=news) ae (by simp [cC]) ae ae
   (fun w2 _=>by
    cases a with
    |none=>simp [Builtin.firstCells]
    |some a=>simp only [Builtin.firstCells,am3]; rfl) pS
  have hρ:=p2.ρ;have Al:(dec (e1.den E'.ρ)).l=ds:=by rw [hρ,g.l,k8,ax]
  have xL:tx (rowOf t') (dec (e1.den E'.ρ)):=by refine⟨by rw [hρ]; exact g.wf,fun d W=>?_,by rw [Al]; intro q; rw [q] at xn; simp at xn; omega⟩;rw [Al] at W;exact g.rows d W
  refine⟨y,w',E',p1,p2.right (xe rfl rfl fun _=>rfl),DD p3 xL ?_ ?_,?_⟩
  ·unfold cQ;rw [cE (kX _),Al,xn,l9,hnl]
  ·intro hD H5;unfold cQ;rw [Al,hρ];exact g.vr E' w'.heap hD 0 hρ H5
  ·simp only [VR] at p4 ⊢;obtain⟨q1,a',qL,q2,q3,q4⟩:=p4;refine⟨q1,0+m,a',qL,?_,q2,q3,?_⟩
   ·rw [cD,Al,xn,aL]
   ·rw [l9]; exact q4
 unfold qM at hb;split at hb
 ·rename_i id n t0;split at hb
  ·rename_i o Y;split at hb
   ·rename_i AT t00 tA ov;split at hb
    ·split at hb
     ·rename_i ht0;split at hb
      ·rename_i Pd;split at hb
       ·rename_i hn;simp only [aq,au] at hb;obtain⟨rfl,rfl,rfl⟩:=hb;have ht0:=aA ht0;have Pd:=aA Pd;have hn:=cR _ _ hn;subst ht0 Pd hn;obtain⟨r2,_,afC⟩:=r.py Y;simp only [VR] at hx;obtain⟨hid,k,a,cap,hk,rfl,hkc,iS⟩:=hx;rw [cD] at hk;have hk:k=(dec (AT.den E.ρ)).l.length:=J
        have hx2:VR E w.heap (.slice id 0 k (.rest ie.size)) (.slice (some a) k cap):=by simp only [VR];exact⟨hid,a,cap,rfl,hkc,by rw [<- l9]; exact iS⟩
        have DK:(cQ E.ρ AT t0 []).length=k*ie.size:=by unfold cQ;rw [cE (kX _),l9,hk]
        have ajb:0<m*ie.size:=anX hm J
        have afQ:qO ie tA m news (.slice id 0 k (.rest ie.size)) (H.put id (.cells (cQ E.ρ AT t0 []) tA)) =
         some (.slice H.fresh 0 (k+m) (.rest ie.size),((H.put id (.cells (cQ E.ρ AT t0 []) tA)).drop id).new (.cells (cQ E.ρ AT t0 []++news) tA)):=by
         unfold qO;simp only [if_true];rw [Hp.bU,an rfl];simp only;rw [ak (by rw [DK,am7]; omega),an ⟨J,trivial⟩];simp only [eS];unfold n4;rw [an (hbound k J)];rfl
        obtain⟨y,w',E',p1,p2,p3,p4⟩:=wL (t:=t) (t2:=t2) (ty:=ty) r2 vv ht zj jG vZ sv tB src hx2 afQ;have hρ:=p2.ρ;have Al:(dec (e1.den E'.ρ)).l=(dec (AT.den E.ρ)).l++ds:=by rw [hρ,g.l]
        have xL:tx (rowOf t0) (dec (e1.den E'.ρ)):=by
         refine⟨by rw [hρ]; exact g.wf,fun d W=>?_,by rw [Al]; intro q; have:=congrArg List.length q; simp at this; rw [this.2] at xn; simp at xn; omega⟩;rw [Al] at W;rcases am2.1 W with W|W
         ·exact afC.2.1 d W
         ·exact g.rows d W
        have Sr:cQ E'.ρ e1 t0 []=cQ E.ρ AT t0 []++bH E.ρ (rowOf t0) [] ds (0+(dec (AT.den E.ρ)).l.length):=by unfold cQ;rw [Al,hρ,mC]
        have Fe: ∀j,(((H.put id (.cells (cQ E.ρ AT t0 []) tA)).drop id).get j)=(H.drop id).get j:=by
         intro j;rw [Hp.lh,Hp.lh];split
         ·rfl
         ·rename_i gb;rw [Hp.bU,ak gb]
        have al:GY (((H.put id (.cells (cQ E.ρ AT t0 []) tA)).drop id).new (.cells (cQ E.ρ AT t0 []++news) tA)) ((H.drop id).new (.vec e1 t0 tA [])):=
         xe rfl rfl fun j=>by rw [Fe]
        have p3':bR E' ((H.drop id).new (.cells (cQ E.ρ AT t0 []++news) tA)) w':=by
         have hg:(((H.put id (.cells (cQ E.ρ AT t0 []) tA)).drop id).new (.cells (cQ E.ρ AT t0 []++news) tA)).get H.fresh=some (.cells (cQ E.ρ AT t0 []++news) tA):=by rw [Hp.gD];exact an rfl
         refine p3.swap hg (p3.live _ _ hg).2.1 (by rw [Hp.gD]; exact an rfl) (fun j hj=>?_) ?_ ?_
         ·rw [Hp.gD,Hp.gD];show (if j=H.fresh then _ else _)=(if j=H.fresh then _ else _);rw [ak hj,ak hj,Fe]
         ·unfold Hp.new;simp only [Hp.drop,Hp.put];split<;>rfl
         ·unfold Hp.new;simp only [Hp.drop,Hp.put];split<;>rfl
        refine⟨y,w',E',p1,(p2.left (GY.put Y).symm).right al,DD p3' xL ?_ ?_,?_⟩
        ·rw [Sr,a8,a8,cE (kX _),xn,l9,hnl]
        ·intro hD H5;obtain⟨a1,a2,rfl,b1,b2⟩:=H5.split;rw [Sr];exact b1.append (g.vr E' w'.heap a2 _ hρ b2)
        ·simp only [VR] at p4 ⊢;obtain⟨q1,a',qL,q2,q3,q4⟩:=p4;refine⟨q1,k+m,a',qL,?_,q2,q3,?_⟩
         ·rw [cD,Al,a8,xn,hk]
         ·rw [l9]; exact q4
       ·simp at hb
      ·simp at hb
     ·simp at hb
    ·simp at hb
   ·simp at hb
  ·simp at hb
 ·split at hb
  ·simp only [aq,au] at hb;obtain⟨rfl,rfl,rfl⟩:=hb;simp only [VR] at hx;exact uq none hx rfl (by simp only [V.den,bD,D.l])
  ·simp at hb
 ·split at hb
  ·simp only [aq,au] at hb;obtain⟨rfl,rfl,rfl⟩:=hb;simp only [VR] at hx;obtain⟨x,hx⟩:=hx;exact uq x hx rfl (by simp only [V.den,bD,D.l])
  ·simp at hb
 ·split at hb
  ·simp only [aq,au] at hb;obtain⟨rfl,rfl,rfl⟩:=hb;simp only [VR] at hx;obtain⟨⟨x,hx⟩,_⟩:=hx;exact uq x hx rfl (by simp only [V.den,bD,D.l])
  ·simp at hb
 ·split at hb
  ·split at hb
   ·split at hb
    ·split at hb
     ·simp only [aq,au] at hb;obtain⟨rfl,rfl,rfl⟩:=hb;simp only [VR] at hx;obtain⟨_,a,cap,rfl,_,hc⟩:=hx;simp only [eY] at hc;obtain⟨rfl,_⟩:=hc;exact uq (some a) rfl rfl (by simp only [V.den,bD,D.l])
     ·simp at hb
    ·simp at hb
   ·simp at hb
  ·simp at hb
 ·simp at hb
end
noncomputable def IL (e:Nat) (own:Option Nat) (x:AV) (h:Hp):Option (V×Nat×List (V×List AV)×Hp):=match x with
 | .qc id n t=>match h.get id with
   |some o=>match o with
    | .vec e0 t0 ty ov=>match Nat.beq t t0 with
     |true=>match Nat.beq ty e with
      |true=>match fv n (dS e0) with
       |true=>some (e0,t,ov,h.drop id)
       |false=>none
      |false=>none
     |false=>none
    |_=>none
   |none=>none
 | .gN=>match own with
   |some t=>some (.eD (.i 0),t,[],h)
   |none=>none
 | .emp=>match own with
   |some t=>some (.eD (.i 0),t,[],h)
   |none=>none
 | .yl _ _=>match own with
   |some t=>some (.eD (.i 0),t,[],h)
   |none=>none
 | .slice _ _ n c=>match n with
   |0=>match c with
    | .exact k=>match k with
      |0=>match own with
       |some t=>some (.eD (.i 0),t,[],h)
       |none=>none
      |_=>none
    |_=>none
   |_=>none
 |_=>none
section
variable {P:Program} {E:En} {w:World}
structure QW (ρ:Nat->Int) (r:Row) (e0 e1:V) (ov0 ov1:List (V×List AV)) (ds:List D) (news:List AV):Prop where
 l:(dec (e1.den ρ)).l=(dec (e0.den ρ)).l++ds
 wf:dec (e1.den ρ)=dL (dec (e1.den ρ)).l
 rows: ∀d∈ds,qQ r d
 vr: ∀(E':En) (h:Array Obj) (us0 us:List Value),E'.ρ=ρ->cC E' h (bH ρ r ov0 (dec (e0.den ρ)).l 0) us0->cC E' h news us->cC E' h (bH ρ r ov1 (dec (e1.den ρ)).l 0) (us0++us)
theorem L5 [bK] {E':En} {H0:Hp} {w':World} {cells:List AV} {e:TypeId} {e1:V} {t:Nat} {ov:List (V×List AV)} (r:bR E' (H0.new (.cells cells e)) w') (ho:tN (rowOf t) ov) (xL:tx (rowOf t) (dec (e1.den E'.ρ))) (Y:(cQ E'.ρ e1 t ov).length=cells.length)
 (hv: ∀us,cC E' w'.heap cells us->cC E' w'.heap (cQ E'.ρ e1 t ov) us):bR E' (H0.new (.vec e1 t e ov)) w':=by
 have hg:(H0.new (.cells cells e)).get H0.fresh=some (.cells cells e):=by rw [Hp.gD,an rfl]
 refine r.swap hg (OR.py.2 ⟨⟨ho,xL⟩,OR.congr (r.live _ _ hg).2.1 Y hv⟩) (by rw [Hp.gD,an rfl]) (fun j hj=>by rw [Hp.gD,ak hj,Hp.gD,ak hj]) ?_ ?_
 all_goals grind [Hp.new]
set_option maxHeartbeats 800000 in
theorem C7 [bK] {t t2 ty:Nat} {H h0:Hp} (r:bR E H w) {ie:TI} {e m:Nat} {own:Option Nat} {news:List AV} {x:AV} {d2:TypeDesc} {u u2:Value} {us:Array Value} (vv:nG P e ie)
 (ht:P.underlying t=some (.slice e)) (zj:P.underlying t2=some d2) (jG: ∀k,d2≠.int k) (vZ:ie.size≠0) (sv:ie.bytes≠0) (tB:ie.zero.length=ie.size) (N8:ie.bytes<=400)
 (src:Src P E w ie.size m news u2 us) (hm:0<m) (hx:VR E w.heap x u) {e0 e1:V} {t':Nat} {ov0 ov1:List (V×List AV)} (hb:IL e own x H=some (e0,t',ov0,h0)) (l9:(rowOf t').es=ie.size) {ds:List D} (g:QW E.ρ (rowOf t') e0 e1 ov0 ov1 ds news) (xn:ds.length=m)
 (tC:tN (rowOf t') ov1) (afJ:((dec (e0.den E.ρ)).l.length+m)*ie.bytes<=140737488355328) :
 ∃y w' E',(Builtin.append_ #[t,t2] ty #[u,u2]).run P w= .ok y w'/\fq E H w E' (h0.new (.vec e1 t' e ov1)) w'/\bR E' (h0.new (.vec e1 t' e ov1)) w'/\VR E' w'.heap (.qc h0.fresh (dS e1) t') y:=by
 have hbound: ∀k,k<=(dec (e0.den E.ρ)).l.length->(k+m)*ie.bytes<=140737488355328:=by intro k hk;exact bq (anp _ J) afJ
 have hnl:news.length=m*ie.size:=by have U:=src.VO.length;have Z:=src.size;simp only [bo] at U;omega
 have uq: ∀(a:Option Addr),u= .slice a 0 0->h0=H->(dec (e0.den E.ρ)).l= []->
  ∃y w' E',(Builtin.append_ #[t,t2] ty #[u,u2]).run P w= .ok y w'/\fq E H w E' (h0.new (.vec e1 t' e ov1)) w'/\bR E' (h0.new (.vec e1 t' e ov1)) w'/\VR E' w'.heap (.qc h0.fresh (dS e1) t') y:=by
  intro a hu he k8;subst hu he
  have pS:n4 ie e 0 m news h0=some (.slice h0.fresh 0 (0+m) (.rest ie.size),h0.new (.cells news e)):=by unfold n4;rw [an (hbound 0 J)]
  obtain⟨y,w',E',p1,p2,p3,p4⟩:=pU (t:=t) (t2:=t2) (ty:=ty) (cap:=0) r vv ht zj jG sv tB src J a (old:=[]) (olds:=#[]) (cs:=news) ae (by simp [cC]) ae ae
   (fun w2 _=>by
    cases a with
    |none=>simp [Builtin.firstCells]
    |some a=>simp only [Builtin.firstCells,am3]; rfl) pS
  have hρ:=p2.ρ;have Al:(dec (e1.den E'.ρ)).l=ds:=by rw [hρ,g.l,k8,ax]
  have xL:tx (rowOf t') (dec (e1.den E'.ρ)):=by refine⟨by rw [hρ]; exact g.wf,fun d W=>?_,by rw [Al]; intro q; rw [q] at xn; simp at xn; omega⟩;rw [Al] at W;exact g.rows d W
  refine⟨y,w',E',p1,p2.right (xe rfl rfl fun _=>rfl),L5 p3 tC xL ?_ ?_,?_⟩
  ·unfold cQ;rw [cE tC,Al,xn,l9,hnl]
  ·intro hD H5;unfold cQ;rw [hρ];have:=g.vr E' w'.heap [] hD hρ (by rw [k8]; simp [bH,cC]) H5;simpa using this
  ·simp only [VR] at p4 ⊢;obtain⟨q1,a',qL,q2,q3,q4⟩:=p4;refine⟨q1,0+m,a',qL,?_,q2,q3,?_⟩
   ·rw [cD,Al,xn,aL]
   ·rw [l9]; exact q4
 unfold IL at hb;split at hb
 ·rename_i id n t0;split at hb
  ·rename_i o Y;split at hb
   ·rename_i AT t00 tA ov
    ·split at hb
     ·rename_i ht0;split at hb
      ·rename_i Pd;split at hb
       ·rename_i hn;simp only [aq,au] at hb;obtain⟨rfl,rfl,rfl,rfl⟩:=hb;have ht0:=aA ht0;have Pd:=aA Pd;have hn:=cR _ _ hn;subst ht0 Pd hn;obtain⟨r2,ai7,afC⟩:=r.py Y;simp only [VR] at hx;obtain⟨hid,k,a,cap,hk,rfl,hkc,iS⟩:=hx;rw [cD] at hk;have hk:k=(dec (AT.den E.ρ)).l.length:=J
        have hx2:VR E w.heap (.slice id 0 k (.rest ie.size)) (.slice (some a) k cap):=by simp only [VR];exact⟨hid,a,cap,rfl,hkc,by rw [<- l9]; exact iS⟩
        have DK:(cQ E.ρ AT t0 ov).length=k*ie.size:=by unfold cQ;rw [cE ai7,l9,hk]
        have ajb:0<m*ie.size:=anX hm J
        have afQ:qO ie tA m news (.slice id 0 k (.rest ie.size)) (H.put id (.cells (cQ E.ρ AT t0 ov) tA)) =
         some (.slice H.fresh 0 (k+m) (.rest ie.size),((H.put id (.cells (cQ E.ρ AT t0 ov) tA)).drop id).new (.cells (cQ E.ρ AT t0 ov++news) tA)):=by
         unfold qO;simp only [if_true];rw [Hp.bU,an rfl];simp only;rw [ak (by rw [DK,am7]; omega),an ⟨J,trivial⟩];simp only [eS];unfold n4;rw [an (hbound k J)];rfl
        obtain⟨y,w',E',p1,p2,p3,p4⟩:=wL (t:=t) (t2:=t2) (ty:=ty) r2 vv ht zj jG vZ sv tB src hx2 afQ;have hρ:=p2.ρ;have Al:(dec (e1.den E'.ρ)).l=(dec (AT.den E.ρ)).l++ds:=by rw [hρ,g.l]
        have xL:tx (rowOf t0) (dec (e1.den E'.ρ)):=by
         refine⟨by rw [hρ]; exact g.wf,fun d W=>?_,by rw [Al]; intro q; have:=congrArg List.length q; simp at this; rw [this.2] at xn; simp at xn; omega⟩;rw [Al] at W;rcases am2.1 W with W|W
         ·exact afC.2.1 d W
         ·exact g.rows d W
        have Fe: ∀j,(((H.put id (.cells (cQ E.ρ AT t0 ov) tA)).drop id).get j)=(H.drop id).get j:=by
         intro j;rw [Hp.lh,Hp.lh];split
         ·rfl
         ·rename_i gb;rw [Hp.bU,ak gb]
        have al:GY (((H.put id (.cells (cQ E.ρ AT t0 ov) tA)).drop id).new (.cells (cQ E.ρ AT t0 ov++news) tA)) ((H.drop id).new (.vec e1 t0 tA ov1)):=
         xe rfl rfl fun j=>by rw [Fe]
        have p3':bR E' ((H.drop id).new (.cells (cQ E.ρ AT t0 ov++news) tA)) w':=by
         have hg:(((H.put id (.cells (cQ E.ρ AT t0 ov) tA)).drop id).new (.cells (cQ E.ρ AT t0 ov++news) tA)).get H.fresh=some (.cells (cQ E.ρ AT t0 ov++news) tA):=by rw [Hp.gD];exact an rfl
         refine p3.swap hg (p3.live _ _ hg).2.1 (by rw [Hp.gD]; exact an rfl) (fun j hj=>?_) ?_ ?_
         ·rw [Hp.gD,Hp.gD];show (if j=H.fresh then _ else _)=(if j=H.fresh then _ else _);rw [ak hj,ak hj,Fe]
         ·unfold Hp.new;simp only [Hp.drop,Hp.put];split<;>rfl
         ·unfold Hp.new;simp only [Hp.drop,Hp.put];split<;>rfl
        refine⟨y,w',E',p1,(p2.left (GY.put Y).symm).right al,L5 p3' tC xL ?_ ?_,?_⟩
        ·unfold cQ;rw [cE tC,Al,a8,a8,cE ai7,xn,l9,hnl,am7]
        ·intro hD H5;obtain⟨a1,a2,rfl,b1,b2⟩:=H5.split;unfold cQ at b1 ⊢;rw [hρ];exact g.vr E' w'.heap a1 a2 hρ b1 b2
        ·simp only [VR] at p4 ⊢;obtain⟨q1,a',qL,q2,q3,q4⟩:=p4;refine⟨q1,k+m,a',qL,?_,q2,q3,?_⟩
         ·rw [cD,Al,a8,xn,hk]
         ·rw [l9]; exact q4
       ·simp at hb
      ·simp at hb
     ·simp at hb
   ·simp at hb
  ·simp at hb
 ·split at hb
  ·simp only [aq,au] at hb;obtain⟨rfl,rfl,rfl,rfl⟩:=hb;simp only [VR] at hx;exact uq none hx rfl (by simp only [V.den,bD,D.l])
  ·simp at hb
 ·split at hb
  ·simp only [aq,au] at hb;obtain⟨rfl,rfl,rfl,rfl⟩:=hb;simp only [VR] at hx;obtain⟨x,hx⟩:=hx;exact uq x hx rfl (by simp only [V.den,bD,D.l])
  ·simp at hb
 ·split at hb
  ·simp only [aq,au] at hb;obtain⟨rfl,rfl,rfl,rfl⟩:=hb;simp only [VR] at hx;obtain⟨⟨x,hx⟩,_⟩:=hx;exact uq x hx rfl (by simp only [V.den,bD,D.l])
  ·simp at hb
 ·split at hb
  ·split at hb
   ·split at hb
    ·split at hb
     ·simp only [aq,au] at hb;obtain⟨rfl,rfl,rfl,rfl⟩:=hb;simp only [VR] at hx;obtain⟨_,a,cap,rfl,_,hc⟩:=hx;simp only [eY] at hc;obtain⟨rfl,_⟩:=hc;exact uq (some a) rfl rfl (by simp only [V.den,bD,D.l])
     ·simp at hb
    ·simp at hb
   ·simp at hb
  ·simp at hb
 ·simp at hb
end
section
variable {ρ:Nat->Int} {r:Row}
theorem qI {p:V} {cs:List AV}: ∀(ds:List D) (j:Nat),(∀i,j<=i->i<j+ds.length->p.den ρ≠(i:Int))->bH ρ r [(p,cs)] ds j=bH ρ r [] ds j
 |[],_,_=>rfl
 |d::ds,j,h=>by have h0:=h j (az _) (by simp only [aR]; omega);simp only [bH,ed,ak h0];rw [qI ds (j+1) fun i U Z=>h i J (by simp only [aR]; omega)]
theorem aiR {e0 e1 p:V} {cs news:List AV} {ds:List D} (g:Grown ρ r e0 e1 ds news) (hp:p.den ρ<((dec (e0.den ρ)).l.length:Int)):QW ρ r e0 e1 [(p,cs)] [(p,cs)] ds news:=by refine⟨g.l,g.wf,g.rows,fun E' h us0 us hρ h0 U=>?_⟩;rw [g.l,mC];refine h0.append ?_;rw [qI ds _ fun i U _=>by omega];exact g.vr E' h us _ hρ U
theorem ahM {e0 e1 p:V} {news zs:List AV} {d:D} (g:Grown ρ r e0 e1 [d] zs) (hp:p.den ρ=((dec (e0.den ρ)).l.length:Int)):QW ρ r e0 e1 [] [(p,news)] [d] news:=by
 refine⟨g.l,g.wf,g.rows,fun E' h us0 us hρ h0 U=>?_⟩;rw [g.l,mC,qI _ _ fun i _ Z=>by omega];refine h0.append ?_;simp only [bH,ed,aL]
 grind
theorem agN {e:Nat} {own:Option Nat} {x:AV} {h h0:Hp} {e0:V} {t:Nat} (hb:qM e own x h=some (e0,t,h0)):IL e own x h=some (e0,t,[],h0):=by
 unfold qM at hb;unfold IL
 repeat' split at hb
 all_goals first
  |(simp at hb; done)
  |(simp only [aq,au] at hb; obtain⟨rfl,rfl,rfl⟩:=hb; simp_all)
theorem akP {e:Nat} {own:Option Nat} {x:AV} {h h0:Hp} {e0 p:V} {cs:List AV} {t:Nat} (hb:BI e x h=some (e0,t,p,cs,h0)):IL e own x h=some (e0,t,[(p,cs)],h0):=by
 unfold BI at hb;unfold IL
 repeat' split at hb
 all_goals first
  |(simp at hb; done)
  |(simp only [aq,au] at hb; obtain⟨rfl,rfl,rfl,rfl,rfl⟩:=hb; simp_all)
end
section
variable {P:Program} {E:En} {w:World}
theorem Src.Zr {E1:En} {s m:Nat} {news CH:List AV} {u:Value} {us:Array Value} (src:Src P E w s m news u us) (h:cC E1 w.heap CH us.toList):Src P E1 w s m CH u us:=
 ⟨src.len,src.first,h,src.size,src.sV⟩
theorem room_le {bytes n m:Nat} (sv:bytes≠0) (N8:bytes<=400) (hm:(m:Int)<rP bytes 1000000) (hn:n<1000000):(n+m)*bytes<=140737488355328:=by
 have hm':(m:Int)<((140737488355328 / bytes-1000000:Nat):Int):=hm;have U:m<140737488355328 / bytes-1000000:=J
 have Z:n+m<=140737488355328 / bytes:=J
 exact bq (anp _ Z) (aoy _ _)
theorem X1 {bytes m:Nat} (hm:(m:Int)<rP bytes 0):(([]:List D).length+m)*bytes<=140737488355328:=by
 have hm':(m:Int)<((140737488355328 / bytes-0:Nat):Int):=hm;have Z:([]:List D).length+m<=140737488355328 / bytes:=by simp only [aC]; omega
 exact bq (anp _ Z) (aoy _ _)
theorem Es {bytes n m:Nat} (hn:(n:Int)<rP bytes (m+1)) {k:Nat} (hk:k=m+1):(n+k)*bytes<=140737488355328:=by
 have hn':(n:Int)<((140737488355328 / bytes-(m+1):Nat):Int):=hn;have Z:n+k<=140737488355328 / bytes:=J
 exact bq (anp _ Z) (aoy _ _)
theorem qJ {ρ:Nat->Int} {r:Row} {m:Nat} {e e1:V} {news:List AV} (h:lr r e m news=some e1) (hw:dec (e.den ρ)=dL (dec (e.den ρ)).l): ∃ds,ds.length=m/\Grown ρ r e e1 ds news:=by obtain⟨ds,U,Z,h3,h4,h5⟩:=rJ (ρ:=ρ) m h;exact⟨ds,U,Z,h3 hw,h4,h5⟩
theorem KU [bK] {H h0:Hp} (r:bR E H w) {e:Nat} {own:Option Nat} {x:AV} {e0:V} {t:Nat} (h:qM e own x H=some (e0,t,h0)):dec (e0.den E.ρ)=dL (dec (e0.den E.ρ)).l:=by
 have hz:dec ((V.eD (.i 0)).den E.ρ)=dL (dec ((V.eD (.i 0)).den E.ρ)).l:=by simp only [V.den,bD]; rfl
 unfold qM at h;split at h
 ·split at h
  ·rename_i o Y;split at h
   ·split at h
    ·split at h
     ·split at h
      ·split at h
       ·simp only [aq,au] at h;obtain⟨rfl,_⟩:=h;exact (r.py Y).2.2.1
       grind
      grind
     grind
    grind
   grind
  grind
 all_goals grind
theorem C8 [bK] {t t2 ty:Nat} {ie:TI} {e:Nat} {d2:TypeDesc} {u u2:Value} {us:Array Value} {news:List AV} (vv:nG P e ie) (ht:P.underlying t=some (.slice e)) (zj:P.underlying t2=some d2) (jG: ∀k,d2≠.int k)
 (src:Src P E w ie.size 0 news u2 us) (ho: ∃a n cap,u= .slice a n cap/\n<=cap):(Builtin.append_ #[t,t2] ty #[u,u2]).run P w= .ok u w:=by
 obtain⟨inf,d,z,U,Z,h3,h4,h5,h6,h7,h8⟩:=vv.all;obtain⟨a,n,cap,rfl,hn⟩:=ho;have H5:us.toList= []:=am5 (by rw [bo,src.size,am3])
 have:=lx (t:=t) (t2:=t2) (ty:=ty) (n:=n) (cap:=cap) (a:=a) (w':=w) ht zj jG U h5 src J (by
  cases a with
  |none=>rfl
  |some a=>rw [H5]; rfl)
 grind
theorem UF {x:AV} {u:Value} {H h0:Hp} {e t:Nat} {own:Option Nat} {e0:V} (hx:VR E w.heap x u) (hb:qM e own x H=some (e0,t,h0)): ∃a n cap,u= .slice a n cap/\n<=cap:=by
 unfold qM at hb;split at hb
 ·simp only [VR] at hx
  grind
 ·simp only [VR] at hx
  grind
 ·simp only [VR] at hx
  grind
 ·simp only [VR] at hx
  grind
 ·simp only [VR] at hx
  grind
 grind
theorem Mk {x:AV} {u:Value} {own:Option Nat} (hx:VR E w.heap x u) (hb:YO own x=true): ∃a n cap,u= .slice a n cap/\n<=cap:=by
 unfold YO at hb;split at hb
 ·simp only [VR] at hx
  grind
 ·simp only [VR] at hx
  grind
 ·simp only [VR] at hx
  grind
 ·simp only [VR] at hx
  grind
 ·simp only [VR] at hx
  grind
 ·simp only [VR] at hx
  grind
 grind
theorem CZ [bK] {s s':St} (r:bR E s.h w) (hp:bY E.ρ s.pc) {t t2 ty e m':Nat} {own:Option Nat} {ie:TI} {news:List AV} {x v:AV} {d2:TypeDesc} {u u2:Value} {us:Array Value} (vv:nG P e ie) (hu:P.underlying t=some (.slice e)) (jG:P.underlying t2=some d2) (wc: ∀k,d2≠.int k)
 (vZ:ie.size≠0) (sv:ie.bytes≠0) (tB:ie.zero.length=ie.size) (N8:ie.bytes<=400) (src:Src P E w ie.size (m'+1) news u2 us) (hx:VR E w.heap x u) (h:(AQ e own x ie m' news s).leaf E.ρ=some (v,s')) :
 s'.bG=s.bG/\bY E.ρ s'.pc/\∃z w' E',(Builtin.append_ #[t,t2] ty #[u,u2]).run P w= .ok z w'/\fq E s.h w E' s'.h w'/\bR E' s'.h w'/\VR E' w'.heap v z:=by
 unfold AQ at h;obtain⟨CH,U,pcF,E1,hpF,f,Lb,h⟩:=qC rfl r hp h;split at h
 ·rename_i e0 t' h0 hb;split at h
  ·rename_i hc;obtain⟨l9,hm⟩:=hc;have hρ:=f.ρ;obtain⟨ga,fS,Z⟩:=cI (s:={ s with h:=U,pc:=pcF }) hpF h;split at Z
   ·rename_i t3;rw [dX,decide_eq_true_eq,cD] at t3;simp only [V.den] at t3;split at Z
    ·rename_i e1 hcr;have:=bF Z;simp only [au] at this;obtain⟨rfl,rfl⟩:=this;obtain⟨ds,xn,g⟩:=qJ (ρ:=E1.ρ) hcr (KU f.rel hb);obtain⟨z,w',E',p1,p2,p3,p4⟩:=ze (t:=t) (t2:=t2) (ty:=ty) f.rel vv hu jG wc vZ sv tB N8 (src.Zr (Lb _ src.VO)) J (VR.cx (f.dY.keeps r) _ _ hx) hb l9 g xn (Es (by rw [hρ]; exact t3) J);exact⟨rfl,fS,z,w',E',p1,f.dY.trans p2,p3,p4⟩
    grind [T.leaf]
   grind [T.leaf]
  grind [T.leaf]
 grind [T.leaf]
theorem aiJ [bK] {H h0:Hp} (r:bR E H w) {e:Nat} {x:AV} {e0 p:V} {cs:List AV} {t:Nat} (h:BI e x H=some (e0,t,p,cs,h0)):dec (e0.den E.ρ)=dL (dec (e0.den E.ρ)).l/\tN (rowOf t) [(p,cs)]:=by
 unfold BI at h;split at h
 ·split at h
  ·rename_i Y;split at h
   ·split at h
    ·grind
    ·split at h
     ·split at h
      ·rename_i ht;split at h
       ·split at h
        ·simp only [aq,au] at h;obtain⟨rfl,rfl,rfl,rfl,_⟩:=h;have ht:=aA ht;subst ht;exact⟨(r.py Y).2.2.1,(r.py Y).2.1⟩
        grind
       grind
      grind
     grind
   grind
  grind
 grind
theorem KA [bK] {s s':St} (r:bR E s.h w) (hp:bY E.ρ s.pc) {t t2 ty e m':Nat} {own:Option Nat} {ie:TI} {news:List AV} {x v:AV} {d2:TypeDesc} {u u2:Value} {us:Array Value} (vv:nG P e ie) (hu:P.underlying t=some (.slice e)) (jG:P.underlying t2=some d2) (wc: ∀k,d2≠.int k)
 (vZ:ie.size≠0) (sv:ie.bytes≠0) (tB:ie.zero.length=ie.size) (N8:ie.bytes<=400) (src:Src P E w ie.size (m'+1) news u2 us) (hx:VR E w.heap x u) (h:(Cb e x ie m' news s).leaf E.ρ=some (v,s')) :
 s'.bG=s.bG/\bY E.ρ s'.pc/\∃z w' E',(Builtin.append_ #[t,t2] ty #[u,u2]).run P w= .ok z w'/\fq E s.h w E' s'.h w'/\bR E' s'.h w'/\VR E' w'.heap v z:=by
 unfold Cb at h;obtain⟨CH,U,pcF,E1,hpF,f,Lb,h⟩:=qC rfl r hp h;split at h
 ·rename_i e0 t' p cs h0 hb;split at h
  ·rename_i hc;obtain⟨l9,hm⟩:=hc;have hρ:=f.ρ;obtain⟨ga,fS,Z⟩:=cI (s:={ s with h:=U,pc:=pcF }) hpF h;split at Z
   ·rename_i t3;rw [dX,decide_eq_true_eq,cD] at t3;simp only [V.den] at t3;obtain⟨ky,kf,h3⟩:=cI (s:={ s with h:=U,pc:=ga }) fS Z;split at h3
    ·rename_i t4;rw [dX,decide_eq_true_eq,cD] at t4;split at h3
     ·rename_i e1 hcr;have:=bF h3;simp only [au] at this;obtain⟨rfl,rfl⟩:=this;obtain⟨hw1,hw2⟩:=aiJ f.rel hb;obtain⟨ds,xn,g⟩:=qJ (ρ:=E1.ρ) hcr hw1;obtain⟨z,w',E',p1,p2,p3,p4⟩:=C7 (t:=t) (t2:=t2) (ty:=ty) f.rel vv hu jG wc vZ sv tB N8 (src.Zr (Lb _ src.VO)) J (VR.cx (f.dY.keeps r) _ _ hx) (akP (own:=own) hb) l9 (aiR g (by rw [hρ]; exact t4)) xn hw2 (Es (by rw [hρ]; exact t3) J);exact⟨rfl,kf,z,w',E',p1,f.dY.trans p2,p3,p4⟩
     grind [T.leaf]
    grind [T.leaf]
   grind [T.leaf]
  grind [T.leaf]
 grind [T.leaf]
theorem Kz [bK] {s s':St} (r:bR E s.h w) (hp:bY E.ρ s.pc) {t t2 ty e m':Nat} {own:Option Nat} {ie:TI} {news:List AV} {x v:AV} {d2:TypeDesc} {u u2:Value} {us:Array Value} (vv:nG P e ie) (hu:P.underlying t=some (.slice e)) (jG:P.underlying t2=some d2) (wc: ∀k,d2≠.int k)
 (vZ:ie.size≠0) (sv:ie.bytes≠0) (tB:ie.zero.length=ie.size) (N8:ie.bytes<=400) (src:Src P E w ie.size (m'+1) news u2 us) (hx:VR E w.heap x u) (h:(Ca e own x ie m' news s).leaf E.ρ=some (v,s')) :
 s'.bG=s.bG/\bY E.ρ s'.pc/\∃z w' E',(Builtin.append_ #[t,t2] ty #[u,u2]).run P w= .ok z w'/\fq E s.h w E' s'.h w'/\bR E' s'.h w'/\VR E' w'.heap v z:=by
 unfold Ca at h;split at h
 ·rename_i e0 t' h0 hb;split at h
  ·rename_i hc;obtain⟨l9,rfl⟩:=hc;obtain⟨ga,fS,Z⟩:=cI hp h;split at Z
   ·rename_i t3;obtain⟨ky,kf,h3⟩:=cI (s:={ s with pc:=ga }) fS Z;split at h3
    ·rename_i t4;rw [dX,decide_eq_true_eq,cD] at t4;simp only [V.den] at t4;split at h3
     ·rename_i e1 hcr;have:=bF h3;simp only [au] at this;obtain⟨rfl,rfl⟩:=this;obtain⟨ds,xn,g⟩:=qJ (ρ:=E.ρ) hcr (KU r hb)
      obtain⟨d,rfl⟩ : ∃d,ds= [d]:=by
       cases ds with
       |nil=>simp at xn
       |cons d l=>cases l with
        |nil=>exact⟨d,rfl⟩
        |cons a b=>simp at xn
      have hnl:news.length=(rowOf t').es:=by
       have U:=src.VO.length;have Z:=src.size
       grind
      obtain⟨z,w',E',p1,p2,p3,p4⟩:=C7 (t:=t) (t2:=t2) (ty:=ty) r vv hu jG wc vZ sv tB N8 src J hx (agN hb) l9 (ahM (p:=.dD 0) g (by rw [hJ,cD] at t3; simp only [beq_iff_eq] at t3; exact t3.symm)) xn (fun q hq=>by simp only [aoz] at hq; subst hq; exact hnl) (Es t4 J)
      grind
     grind [T.leaf]
    grind [T.leaf]
   ·obtain⟨q1,q2,q3⟩:=CZ (s:={ s with pc:=ga }) r fS (ty:=ty) vv hu jG wc vZ sv tB N8 src hx Z
    grind
  grind [T.leaf]
 grind [T.leaf]
set_option maxHeartbeats 800000 in
theorem Ky [bK] {tt:TT} (cP:eJ P tt) {s s':St} (r:bR E s.h w) (hp:bY E.ρ s.pc) {t t2 ty:Nat} {x y v:AV} {u u2:Value} (hx:VR E w.heap x u) (hy:VR E w.heap y u2) (hsl:acO y=false->∃a n cap,u= .slice a n cap/\n<=cap) (h:(B9 tt t t2 x y s).leaf E.ρ=some (v,s')) :
 s'.bG=s.bG/\bY E.ρ s'.pc/\∃z w' E',(Builtin.append_ #[t,t2] ty #[u,u2]).run P w= .ok z w'/\fq E s.h w E' s'.h w'/\bR E' s'.h w'/\VR E' w'.heap v z:=by
 unfold B9 at h;split at h
 ·rename_i ti fB;split at h
  ·rename_i e hk;split at h
   ·rename_i ie lG;split at h
    ·simp [T.leaf] at h
    ·rename_i Rk Mp;obtain⟨d2,jG,Bg⟩:=sZ (cP t2 Rk Mp);split at h
     ·simp [T.leaf] at h
     ·rename_i k2 gb
      have wc: ∀k,d2≠.int k:=by intro k W;subst W;cases xN:Rk.kind<;>rw [xN] at Bg<;>simp only [IX] at Bg;exact gb _ xN
      split at h
      ·simp [T.leaf] at h
      ·rename_i jS;simp only [not_or,Classical.not_not] at jS;obtain⟨vZ,sv,tB,N8⟩:=jS;have vv:=cP e ie lG;have hu:=fK (cP t ti fB) hk;split at h
       ·
        rename_i e2 ty2;split at h
        ·rename_i e0 t' h0 hb;split at h
         ·rename_i hc;obtain⟨l9,gS⟩:=hc;obtain⟨ga,fS,U⟩:=cI hp h;rw [iU,cD] at U;simp only [VR] at hy;obtain⟨xa,amh,hu2,_⟩:=hy.slice;split at U
          ·rename_i hz;simp only [V.den,beq_iff_eq] at hz;have:=bF U;simp only [au] at this;obtain⟨rfl,rfl⟩:=this;have JP:(dec (e2.den E.ρ)).l.length=0:=J
           rw [JP] at hu2;subst hu2
           have src:Src P E w ie.size 0 [] (.slice xa 0 amh) #[]:=⟨fun _=>rfl,fun w2 _=>by
            cases xa with
            |none=>simp [Builtin.firstCells]
            |some a=>simp only [Builtin.firstCells,am3]; rfl,by simp [cC],ae,ae⟩
           exact⟨rfl,fS,u,w,E,C8 vv hu jG wc src (UF hx hb),fq.refl _ _ _,r,hx⟩
          ·rename_i hz;simp only [V.den,beq_eq_false_iff_ne,ne_eq] at hz;obtain⟨ky,kf,Z⟩:=cI (s:={ s with pc:=ga }) fS U;split at Z
           ·rename_i K9;obtain⟨VT,JQ,h3⟩:=cI (s:={ s with pc:=ky }) kf Z;split at h3
            ·rename_i t3;rw [dX,decide_eq_true_eq,cD] at K9 t3;simp only [V.den] at K9 t3;have aja:(dec (e2.den E.ρ)).l≠[]:=by intro q; rw [q] at hz; simp at hz
             obtain⟨us,src⟩:=abz (P:=P) (w:=w) hy aja;rw [gS] at src;rw [l9] at src
             have ml:0<(dec (e2.den E.ρ)).l.length:=by
              rcases anC (dec (e2.den E.ρ)).l.length with q|q
              ·omega
              ·exact q
             have afB:dec (e2.den E.ρ)=dL (dec (e2.den E.ρ)).l/\∀d∈(dec (e2.den E.ρ)).l,qQ (rowOf ty2) d:=by
              have key: ∀{d:D} {v:Value},Rd E.ro w.heap (.sl ty2) d v->d.l≠[]->d=dL d.l/\∀x∈d.l,qQ (rowOf ty2) x:=by
               intro d v hr gb
               have v!: ∀{c:CK} {d:D} {v:Value},Rd E.ro w.heap c d v->qR c d:=by
                intro c d v hr
                cases hr with
                |int k n=>rfl
                |bool b=>cases b<;>simp [qR]
                |str s=>trivial
                |nil t=>trivial
                |xc t a cap=>trivial
                |one t c b o cap ds f hr hc hb U Z=>trivial
                |many t cs b o cap rows f hr hc hb Y U Z=>trivial
               generalize hc:CK.sl ty2=c at hr
               cases hr with
               |int k n=>simp at hc
               |bool b=>simp at hc
               |str s=>simp at hc
               |nil t=>exact absurd rfl gb
               |xc t a cap=>exact absurd rfl gb
               |one t c b o cap ds f hr eP hb U Z=> simp only [CK.sl.injEq] at hc;subst hc;refine⟨by rw [bE],fun x hx=>?_⟩;rw [bE] at hx;obtain⟨i,hi⟩:=anQ.1 hx;rw [hr];exact v! (Z i x hi)
               |many t cs b o cap rows f hr eP hb Y U Z=> simp only [CK.sl.injEq] at hc;subst hc;refine⟨by rw [bE],fun x hx=>?_⟩;rw [bE,bd] at hx;obtain⟨row,hrm,rfl⟩:=hx;obtain⟨i,hi⟩:=anQ.1 hrm;rw [hr];refine⟨by rw [bE],by rw [bE]; exact Y row hrm,fun j c y hj hy=>?_⟩;rw [bE] at hy;exact v! (Z i row j y c hi hy hj)
              exact key hy aja
             rw [gS] at afB
             have grown: ∀e1:V,(dec (e1.den E.ρ)).l=(dec (e0.den E.ρ)).l++(dec (e2.den E.ρ)).l->dec (e1.den E.ρ)=dL (dec (e1.den E.ρ)).l->Grown E.ρ (rowOf t') e0 e1 (dec (e2.den E.ρ)).l (bH E.ρ (rowOf t') [] (dec (e2.den E.ρ)).l 0):=by
              intro e1 q1 q2;refine⟨q1,q2,afB.2,fun E' h us j hρ hv=>?_⟩
              have:bH E.ρ (rowOf t') [] (dec (e2.den E.ρ)).l j=bH E.ρ (rowOf t') [] (dec (e2.den E.ρ)).l 0:=by
               generalize (dec (e2.den E.ρ)).l=L;clear hv q1 q2
               have gen: ∀(L:List D) (a b:Nat),bH E.ρ (rowOf t') [] L a=bH E.ρ (rowOf t') [] L b:=by
                intro L
                induction L with
                |nil=>intro a b; rfl
                |cons d L ih=>intro a b; simp only [bH,ed]; rw [ih (a+1) (b+1)]
               exact gen L j 0
              rw [this];exact hv
             have hbw:=KU r hb;split at h3
             ·rename_i k8
              have ajq:(dec (e0.den E.ρ)).l= []:=by
               unfold O9 at k8;split at k8
               ·split at k8
                ·simp only [V.den,bD,D.l]
                ·simp at k8
               ·simp at k8
              have:=bF h3;simp only [au] at this;obtain⟨rfl,rfl⟩:=this;obtain⟨z,w',E',p1,p2,p3,p4⟩:=ze (t:=t) (t2:=t2) (ty:=ty) r vv hu jG wc vZ sv tB N8 src ml hx hb l9 (grown e2 (by rw [ajq,ax]) afB.1) rfl (by rw [ajq]; refine X1 (bytes:=ie.bytes) ?_; have q:=K9; unfold X2 at q; rw [k8] at q; exact q);exact⟨rfl,JQ,z,w',E',p1,p2,p3,p4⟩
             ·rename_i k8;have:=bF h3;simp only [au] at this;obtain⟨rfl,rfl⟩:=this;obtain⟨z,w',E',p1,p2,p3,p4⟩:=ze (t:=t) (t2:=t2) (ty:=ty) r vv hu jG wc vZ sv tB N8 src ml hx hb l9 (grown (.op .cat e0 e2) (by simp only [V.den,fX.den,bD,bE]) (by simp only [V.den,fX.den,bD,bE])) rfl (room_le sv N8 (by have q:=K9; unfold X2 at q; rw [k8] at q; exact q) J);exact⟨rfl,JQ,z,w',E',p1,p2,p3,p4⟩
            ·simp [T.leaf] at h3
           ·simp [T.leaf] at Z
         ·simp [T.leaf] at h
        ·simp [T.leaf] at h
       ·
        split at h
        ·rename_i m news Pe;obtain⟨us,src⟩:=ri (P:=P) r hy Pe;split at h
         ·have:=bF h;simp only [au] at this;obtain⟨rfl,rfl⟩:=this
          exact⟨rfl,hp,u,w,E,C8 vv hu jG wc src (hsl (by
           cases y<;>first |rfl|(rename_i Aj _ _ _; exact absurd rfl (Aj _ _))|(rename_i Aj; exact absurd rfl (Aj _ _)))),fq.refl _ _ _,r,hx⟩
         ·rename_i m';split at h
          ·exact KA (own:=ti.own) r hp vv hu jG wc vZ sv tB N8 src hx h
          ·split at h
           ·exact Kz r hp vv hu jG wc vZ sv tB N8 src hx h
           ·exact CZ r hp vv hu jG wc vZ sv tB N8 src hx h
        ·simp [T.leaf] at h
   ·simp [T.leaf] at h
  ·simp [T.leaf] at h
 ·simp [T.leaf] at h
end
section
variable {P:Program} {E:En} {w:World}
theorem Rf {h:Array Obj} {id t:Nat} {n:V} {u:Value} (hv:VR E h (.qc id n t) u):VR E h (.vm id (.lit 0) n t) u:=by simp only [VR] at hv ⊢;obtain⟨U,k,a,cap,Z,h3,h4,h5⟩:=hv;exact⟨U,0,k,a,cap,rfl,Z,h3,h4,by rw [am3]; exact h5⟩
theorem Pz {tt:TT} (cP:eJ P tt) {s s':St} (hp:bY E.ρ s.pc) {ty t id:Nat} {lo n:V} {ix v:AV} {u ui:Value} (hx:VR E w.heap (.vm id lo n t) u) (An:VR E w.heap ix ui) (h:(Kd tt s ty id t lo n ix).leaf E.ρ=some (v,s')) :
 s'.bG=s.bG/\s'.h=s.h/\bY E.ρ s'.pc/\∃r,(Instr.indexAt ty u ui).run P w= .ok r w/\VR E w.heap v r:=by
 unfold Kd at h;split at h
 ·rename_i kd i;split at h
  ·rename_i z hz;split at h
   ·rename_i l9;obtain⟨ef,fU,U,Z,h3⟩:=oo hp h;have:=bF h3;simp only [au] at this;obtain⟨rfl,rfl⟩:=this;refine⟨rfl,rfl,fU,?_⟩;simp only [VR] at hx An;subst An;obtain⟨hid,l,m,a,cap,Y,hn,rfl,iS,hc⟩:=hx;obtain⟨el,ie,hu,lG,rfl⟩:=n7 cP hz;obtain⟨k,hk⟩ : ∃k:Nat,i.den E.ρ=(k:Int):=⟨(i.den E.ρ).toNat,J⟩;have gv:k<m:=J
    have ha:a=⟨(E.θ id).1,(E.θ id).2+l*ie.size,none⟩:=by
     simp only [eY] at hc
     grind
    subst ha;refine⟨.pointer (some ⟨(E.θ id).1,(E.θ id).2+l*ie.size+k*ie.size,none⟩),?_,?_⟩
    ·rw [hk];simp [Instr.indexAt,asIntOf,run_underlying hu,eE (cP el ie lG),gv,fD]
    ·simp only [VR];exact⟨hid,l+k,by rw [pY,Y,hk]; rfl,by rw [bx,am7,am0]⟩
   ·simp [T.leaf] at h
  ·simp [T.leaf] at h
 ·simp [T.leaf] at h
theorem YF {lo:Option AV} {zi:Option Value} {l:V} {n:Nat} (h:loE lo=some l) (pg:gI E w.heap lo zi) (hn:l.den E.ρ=(n:Int)) :
 ∃VU,gI E w.heap VU zi/\∀y,n<=y->oA VU 0 y=some n:=by
 unfold loE at h;split at h
 ·simp only [aq] at h;subst h;simp only [V.den] at hn
  grind [oA]
 ·split at h
  ·rename_i v k q;simp only [aq] at h;subst h;obtain⟨y,rfl,hy⟩:=pg;refine⟨some (.int k (.lit (Int.ofNat n))),⟨y,rfl,?_⟩,fun y hy=>by simp [oA,kZ,hy]⟩;simp only [VR,V.den] at hy ⊢
   grind
  grind
theorem DH {k:IntKind} {q:V} {n:Nat} {o:Option Value} (hq:q.den E.ρ=(n:Int)) (ho:gI E w.heap (some (.int k q)) o):gI E w.heap (some (.int k (.lit (Int.ofNat n)))) o:=by
 obtain⟨y,rfl,hy⟩:=ho;refine⟨y,rfl,?_⟩;simp only [VR,V.den] at hy ⊢
 grind
theorem DY {k:IntKind} {n d y:Nat} (hn:n<=y):oA (some (.int k (.lit (Int.ofNat n)))) d y=some n:=by simp [oA,kZ,hn]
theorem FA [bK] {tt:TT} (cP:eJ P tt) {s s':St} (r:bR E s.h w) (hp:bY E.ρ s.pc) {ty id t:Nat} {J' n0:V} {lo hi mx:Option AV} {zi hi' mx':Option Value} {v:AV} {u:Value} (hx:VR E w.heap (.vm id J' n0 t) u)
 (pg:gI E w.heap lo zi) (zm:gI E w.heap hi hi') (yR:gI E w.heap mx mx') (h:(DQ tt s ty id t J' n0 lo hi mx).leaf E.ρ=some (v,s')) :
 s'.bG=s.bG/\s'.h=s.h/\bY E.ρ s'.pc/\∃r,(Instr.sliceAt ty u zi hi' mx').run P w= .ok r w/\VR E w.heap v r:=by
 unfold DQ at h;split at h
 ·simp [T.leaf] at h
 ·rename_i z hz;split at h
  ·rename_i jS;obtain⟨l9,hz0⟩:=jS;obtain⟨el,ie,hu,lG,rfl⟩:=n7 cP hz;have iR:=eE (cP el ie lG);simp only [VR] at hx;obtain⟨hid,l0,m0,a,cap,g1,g2,rfl,iS,hc⟩:=hx
   have fin: ∀(l k:Nat) (e1 e2:V),(Instr.sliceBounds true m0 cap zi hi' none).run P w= .ok (l,k,cap) w->l<=k->k<=cap->e1.den E.ρ=(l:Int)->e2.den E.ρ=(k:Int)->
    ∃r,(Instr.sliceAt ty (.slice (some a) m0 cap) zi hi' none).run P w= .ok r w/\VR E w.heap (.vm id (tw J' e1) (Ee e2 e1) t) r:=by
    intro l k e1 e2 hb hlk hk Ze he2;refine⟨.slice (some (if cap=l then a else a.add (l*ie.size))) (k-l) (cap-l),?_,?_⟩
    ·simp [Instr.sliceAt,run_underlying hu,Instr.slice,hb,iR]<;>split<;>rfl
    ·simp only [VR];refine⟨hid,l0+l,k-l,_,_,by rw [pY,g1,Ze]; rfl,by rw [Ud,Ze,he2]; omega,rfl,J,?_⟩;rw [am7];have q:=qK (l:=l) (h:=k) (m:=cap) (es:=(rowOf t).es) hc iS hlk hk (az _) (.inr (.inr ⟨rfl,rfl,rfl⟩)) (rowOf t).es (fun _=>rfl);rw [l9];exact q
   split at h
   ·simp [T.leaf] at h
   ·rename_i ql hql;obtain⟨ga,fS,U⟩:=cI hp h;split at U
    ·simp [T.leaf] at U
    ·rename_i t1;rw [dX,decide_eq_false_iff_not] at t1;simp only [V.den,anB] at t1;obtain⟨l,Y⟩ : ∃l:Nat,ql.den E.ρ=(l:Int):=⟨(ql.den E.ρ).toNat,J⟩;obtain⟨VU,Y8,nZ⟩:=YF hql pg Y;split at U
     ·
      simp only [gI] at zm;subst zm;split at U
      ·simp [T.leaf] at U
      ·simp only [gI] at yR;subst yR;obtain⟨ky,kf,Z⟩:=cI (s:={ s with pc:=ga }) fS U;split at Z
       ·simp [T.leaf] at Z
       ·rename_i t2;have:=bF Z;simp only [au] at this;obtain⟨rfl,rfl⟩:=this;rw [dX,decide_eq_false_iff_not] at t2;have hlm:l<=m0:=J
        obtain⟨e1,e2⟩:=gu (P:=P) (w:=w) (isSlice:=true) (len:=m0) (cap:=cap) (m0:=cap) (d:=0) (m:=cap) (h0:=cap) (h:=m0) (l:=l) Y8 (hi:=none) (hi':=none) (by simp [gI]) (mx:=none) (mx':=none) (by simp [gI]) ae (.inl ⟨rfl,rfl,az _⟩) (by simp [oA,iS]) ⟨fun _=>az _,ae⟩ (nZ _ hlm);exact⟨rfl,rfl,kf,fin l m0 _ _ e1 hlm iS Y g2⟩
     ·rename_i hv;split at U
      ·rename_i kh qh;obtain⟨ky,kf,Z⟩:=cI (s:={ s with pc:=ga }) fS U;split at Z
       ·simp [T.leaf] at Z
       ·rename_i t2;rw [dX,decide_eq_false_iff_not] at t2;obtain⟨k,hk⟩ : ∃k:Nat,qh.den E.ρ=(k:Int):=⟨(qh.den E.ρ).toNat,J⟩;have hlk:l<=k:=J
        split at Z
        ·rename_i mv;split at Z
         ·rename_i km qm;obtain⟨VT,JQ,h3⟩:=cI (s:={ s with pc:=ky }) kf Z;split at h3
          ·simp [T.leaf] at h3
          ·rename_i t3;obtain⟨pc4,hp4,h4⟩:=cI (s:={ s with pc:=VT }) JQ h3;split at h4
           ·simp [T.leaf] at h4
           ·rename_i t4;have:=bF h4;simp only [au] at this;obtain⟨rfl,rfl⟩:=this;rw [dX,decide_eq_false_iff_not] at t3 t4;obtain⟨m,hm⟩ : ∃m:Nat,qm.den E.ρ=(m:Int):=⟨(qm.den E.ρ).toNat,J⟩;obtain⟨e1,e2⟩:=gu (P:=P) (w:=w) (isSlice:=true) (len:=m0) (cap:=cap) (m0:=cap) (d:=0) (m:=m) (h0:=m) (h:=k) (l:=l) Y8 (DH hk zm) (DH hm yR) ae (.inr ⟨_,rfl,DY J,az _⟩) (DY J) ⟨ae,fun _=>rfl⟩ (nZ _ hlk);refine⟨rfl,rfl,hp4,.slice (some (if m=l then a else a.add (l*ie.size))) (k-l) (m-l),?_,by simp only [VR]⟩;simp [Instr.sliceAt,run_underlying hu,Instr.slice,e1,iR]<;>split<;>rfl
         ·simp [T.leaf] at Z
        ·simp only [gI] at yR;subst yR
         have go:k<=cap->∃r,(Instr.sliceAt ty (.slice (some a) m0 cap) zi hi' none).run P w= .ok r w/\VR E w.heap (.vm id (tw J' ql) (Ee qh ql) t) r:=by intro hkc;obtain⟨e1,e2⟩:=gu (P:=P) (w:=w) (isSlice:=true) (len:=m0) (cap:=cap) (m0:=cap) (d:=0) (m:=cap) (h0:=cap) (h:=k) (l:=l) Y8 (DH hk zm) (mx:=none) (mx':=none) (by simp [gI]) ae (.inl ⟨rfl,rfl,az _⟩) (DY hkc) ⟨fun _=>az _,ae⟩ (nZ _ hlk);exact fin l k _ _ e1 hlk hkc Y hk
         obtain⟨VT,JQ,h3⟩:=cI (s:={ s with pc:=ky }) kf Z;split at h3
         ·rename_i t3;have:=bF h3;simp only [au] at this;obtain⟨rfl,rfl⟩:=this;rw [dX,decide_eq_false_iff_not] at t3;exact⟨rfl,rfl,JQ,go J⟩
         ·split at h3
          ·simp [T.leaf] at h3
          ·rename_i hz1;split at h3
           ·simp [T.leaf] at h3
           ·rename_i e Bo hva;obtain⟨pc4,hp4,h4⟩:=cI (s:={ s with pc:=VT }) JQ h3;split at h4
            ·simp [T.leaf] at h4
            ·rename_i t4;have:=bF h4;simp only [au] at this;obtain⟨rfl,rfl⟩:=this;rw [dX,decide_eq_false_iff_not,cD] at t4;refine⟨rfl,rfl,hp4,go ?_⟩;have hlv:=nT hva;obtain⟨ho,q0⟩:=OR.py.1 (r.live id _ hlv).2.1;have alr:=EY hz1;subst alr;simp only [V.den] at g1;have hl0:l0=0:=J
             subst hl0;simp only [OR] at q0;obtain⟨arr,lo1,hi1,us,q1,q2,q3,q4,q5,q6,q7⟩:=q0;unfold cQ at q4;rw [cE ho.1] at q4;have gb:0<(dec (e.den E.ρ)).l.length:=ani.2 ho.2.2.2;have ml:0<(rowOf t).es:=J
             simp only [eY] at hc
             have hκ:(dec (e.den E.ρ)).l.length<=cap:=by
              rcases hc with hc|hc
              ·have:(dec (e.den E.ρ)).l.length*(rowOf t).es<=cap*(rowOf t).es:=J
               exact aot this ml
              ·have:=anX gb ml;omega
             omega
      ·simp [T.leaf] at U
  ·simp [T.leaf] at h
theorem PO [bK] {tt:TT} (cP:eJ P tt) {s s':St} (hp:bY E.ρ s.pc) {ty t:Nat} {z:V} {lo hi mx:Option AV} {zi hi' mx':Option Value} {v:AV} {u:Value} (hx:VR E w.heap (.yl z t) u)
 (pg:gI E w.heap lo zi) (zm:gI E w.heap hi hi') (yR:gI E w.heap mx mx') (h:(Kq tt s ty z t lo hi mx).leaf E.ρ=some (v,s')) :
 s'.bG=s.bG/\s'.h=s.h/\bY E.ρ s'.pc/\∃r,(Instr.sliceAt ty u zi hi' mx').run P w= .ok r w/\VR E w.heap v r:=by
 unfold Kq at h;split at h
 ·grind [T.leaf]
 ·simp only [gI] at yR;subst yR;split at h
  ·grind [T.leaf]
  ·rename_i zz hz;obtain⟨el,ie,hu,lG,rfl⟩:=n7 cP hz;have iR:=eE (cP el ie lG);split at h
   ·rename_i Bh;split at h
    ·rename_i nZ;have:=bF h;simp only [au] at this;obtain⟨rfl,rfl⟩:=this;have hx0:=hx;simp only [VR] at hx;obtain⟨⟨x,rfl⟩,hr⟩:=hx;obtain⟨e1,e2⟩:=gu (P:=P) (w:=w) (isSlice:=true) (len:=0) (cap:=0) (m0:=0) (d:=0) (m:=0) pg zm (mx:=none) (mx':=none) (by simp [gI]) ae (.inl ⟨rfl,rfl,az _⟩) Bh ⟨fun _=>az _,ae⟩ nZ;refine⟨rfl,rfl,hp,.slice x 0 0,?_,hx0⟩;simp [Instr.sliceAt,run_underlying hu,Instr.slice,e1,iR]
    grind [T.leaf]
   grind [T.leaf]
end
theorem El: ∀{B Z!:List AV},Z!.length=B.length->dW B 0 Z!=some Z!
 |[],[],_=>rfl
 |[],_::_,h=>by simp at h
 |_::_,[],h=>by simp at h
 |b::B,v::Z!,h=>by simp only [dW];rw [El (by simpa using h)]
theorem OH {A B C Z!:List AV} (h:Z!.length=B.length):dW (A++(B++C)) A.length Z!=some (A++(Z!++C)):=by
 have:=tJ A (oC C (El h))
 grind
theorem G5 {α:Type}: ∀{a b:List α},iV a.length (a++b)=some a
 |[],b=>rfl
 |x::a,b=>by simp only [aR,aX,iV,G5]
theorem lj {ρ:Nat->Int} {r:Row}: ∀(L:List D) (a b:Nat),bH ρ r [] L a=bH ρ r [] L b
 |[],_,_=>rfl
 |d::L,a,b=>by simp only [bH,ed]; rw [lj L (a+1) (b+1)]
theorem iq {ρ:Nat->Int} {r:Row}: ∀(A B:List D),bH ρ r [] (A++B) 0=bH ρ r [] A 0++bH ρ r [] B 0
 |[],B=>rfl
 |d::A,B=>by simp only [aX,bH,ed,anU];rw [lj (A++B) 1 0,lj A 1 0,iq A B]
section
variable {P:Program} {E:En} {w:World}
theorem WD [bK] {H:Hp} (r:bR E H w) {id t:Nat} {e0:V} {tA:TypeId} (Y:H.get id=some (.vec e0 t tA [])) (vZ:(rowOf t).es≠0) {k cap:Nat} {a:Addr} (hc:eY E id 0 k a cap (.rest (rowOf t).es)) :
 a=⟨(E.θ id).1,(E.θ id).2,none⟩/\(dec (e0.den E.ρ)).l.length<=cap:=by
 obtain⟨ho,q0⟩:=OR.py.1 (r.live id _ Y).2.1;simp only [OR] at q0;obtain⟨arr,lo1,hi1,us,q1,q2,q3,q4,q5,q6,q7⟩:=q0;unfold cQ at q4;rw [cE ho.1] at q4;have gb:0<(dec (e0.den E.ρ)).l.length:=ani.2 ho.2.2.2;have ml:0<(rowOf t).es:=J
 simp only [eY] at hc;rcases hc with hc|hc
 ·refine⟨by simpa using hc.1,?_⟩;have:(dec (e0.den E.ρ)).l.length*(rowOf t).es<=cap*(rowOf t).es:=J
  exact aot this ml
 ·have:=anX gb ml;omega
theorem D3 [bK] {H:Hp} (r:bR E H w) {id t:Nat} {e0:V} {tA:TypeId} (Y:H.get id=some (.vec e0 t tA [])) {n mm:Nat} (hle:n+mm<=(dec (e0.den E.ρ)).l.length) {ds:List D} (xn:ds.length=mm) (xL: ∀d∈ds,qQ (rowOf t) d)
 {us:List Value} (hv:cC E w.heap (bH E.ρ (rowOf t) [] ds 0) us) (U: ∀u∈us,u.oneCell'=true) {e1:V} (Ze:dec (e1.den E.ρ)=dL ((dec (e0.den E.ρ)).l.take n++ds++(dec (e0.den E.ρ)).l.drop (n+mm))) :
 ∃w',(storeCells ⟨(E.θ id).1,(E.θ id).2+n*(rowOf t).es,none⟩ us).run P w= .ok () w'/\fq E H w E (H.put id (.vec e1 t tA [])) w'/\bR E (H.put id (.vec e1 t tA [])) w':=by
 obtain⟨rc,ho,hw⟩:=r.py Y;generalize hL:(dec (e0.den E.ρ)).l=L at *
 have hsp:L=L.take n++((L.drop n).take mm++L.drop (n+mm)):=by
  conv=>lhs; rw [<- anb n L]
  congr 1
  conv=>lhs; rw [<- anb mm (L.drop n)]
  simp_all
 have hc:cQ E.ρ e0 t []=bH E.ρ (rowOf t) [] (L.take n) 0++(bH E.ρ (rowOf t) [] ((L.drop n).take mm) 0++bH E.ρ (rowOf t) [] (L.drop (n+mm)) 0):=by
  unfold cQ;rw [hL]
  conv=>lhs; rw [hsp]
  rw [iq,iq]
 have hlA:(bH E.ρ (rowOf t) [] (L.take n) 0).length=n*(rowOf t).es:=by
  rw [cE (kX _),bk]
  grind
 have hsl:dW (cQ E.ρ e0 t []) (n*(rowOf t).es) (bH E.ρ (rowOf t) [] ds 0)=some (cQ E.ρ e1 t []):=by
  have:cQ E.ρ e1 t []=bH E.ρ (rowOf t) [] (L.take n) 0++(bH E.ρ (rowOf t) [] ds 0++bH E.ρ (rowOf t) [] (L.drop (n+mm)) 0):=by unfold cQ;rw [Ze,bE,iq,iq,anU]
  rw [this,hc,<- hlA];refine OH ?_;rw [cE (kX _),cE (kX _),bk,bu,xn]
  grind
 obtain⟨w',g1,g2,g3⟩:=mD (P:=P) rc (by rw [Hp.bU,an rfl]) hsl hv U;have al1:GY (H.put id (.cells (cQ E.ρ e0 t []) tA)) H:=(GY.put Y).symm
 have al2:GY ((H.put id (.cells (cQ E.ρ e0 t []) tA)).put id (.cells (cQ E.ρ e1 t []) tA)) (H.put id (.vec e1 t tA [])):=by
  refine⟨fun j y hj=>?_,fun j y hj=>?_,rfl,rfl⟩
  ·rw [Hp.bU];split
   ·grind
   ·rename_i gb;rw [Hp.bU,ak gb,Hp.bU,ak gb] at hj
    grind
  ·rw [Hp.bU] at hj ⊢;split
   ·grind
   ·rename_i gb;rw [ak gb] at hj;rw [Hp.bU,ak gb];exact⟨y,hj⟩
 have BW:=(g3.live id _ (by rw [Hp.bU,an rfl])).2.1
 have hor:OR E w'.heap id (.vec e1 t tA []):=by
  refine OR.py.2 ⟨⟨kX _,?_⟩,BW⟩;rw [Ze];refine⟨by rw [bE],?_,?_⟩
  ·rw [bE];intro d W;rcases am2.1 W with W|W
   ·rcases am2.1 W with W|W
    ·exact hw.2.1 d (by rw [hL]; exact am1 W)
    ·exact xL d W
   ·exact hw.2.1 d (by rw [hL]; exact amY W)
  ·rw [bE];intro q;have:=congrArg List.length q;simp only [a8,bk,bu,aC,xn] at this;have gb:=ani.2 hw.2.2;rw [hL] at gb;omega
 refine⟨w',g1,(g2.left al1).right al2,?_⟩;exact g3.swap (id:=id) (by rw [Hp.bU,an rfl]) hor (by rw [Hp.bU,an rfl]) (fun j hj=>by rw [Hp.bU,ak hj,Hp.bU,ak hj,Hp.bU,ak hj]) rfl rfl
theorem Nz [bK] {s s':St} (r:bR E s.h w) (hp:bY E.ρ s.pc) {id t t1 t2 ty e:Nat} {e0 n1 m sd lo:V} {tA:TypeId} {ie:TI} {d2:TypeDesc} (vv:nG P e ie) (ht:P.underlying t1=some (.slice e)) (zj:P.underlying t2=some d2) (jG: ∀k,d2≠.int k)
 (l9:(rowOf t).es=ie.size) (vZ:ie.size≠0) (Y:s.h.get id=some (.vec e0 t tA [])) (pg:isZ lo=true) {u u2:Value} {us:Array Value} {ds:List D} (hx:VR E w.heap (.vm id lo n1 t) u) {mm:Nat} (hm:m.den E.ρ=(mm:Int))
 (xn:ds.length=mm) (hsd:(dec (sd.den E.ρ)).l=ds) (xL: ∀d∈ds,qQ (rowOf t) d) {news:List AV} (src:Src P E w ie.size mm news u2 us) (hv:cC E w.heap (bH E.ρ (rowOf t) [] ds 0) us.toList) {v:AV} (h:(TA id t tA e0 n1 m sd s).leaf E.ρ=some (v,s')) :
 s'.bG=s.bG/\bY E.ρ s'.pc/\∃z w' E',(Builtin.append_ #[t1,t2] ty #[u,u2]).run P w= .ok z w'/\fq E s.h w E' s'.h w'/\bR E' s'.h w'/\VR E' w'.heap v z:=by
 unfold TA at h;obtain⟨ef,fU,g1,g2,g3,g4⟩:=w9 hp h;have:=bF g4;simp only [au] at this;obtain⟨rfl,rfl⟩:=this;have pg:=EY pg;subst pg;have hx0:=hx;simp only [VR] at hx;obtain⟨hid,l0,k,a,cap,q1,q2,rfl,q4,q5⟩:=hx;simp only [V.den] at q1;have hl0:l0=0:=J
 subst hl0;rw [am3] at q5;obtain⟨rfl,k7⟩:=WD r Y (by rw [l9]; exact vZ) q5;have hle:k+mm<=(dec (e0.den E.ρ)).l.length:=J
 obtain⟨inf,d,z,U,Z,h3,h4,h5,h6,h7,h8⟩:=vv.all
 obtain⟨w',f1,f2,f3⟩:=D3 (P:=P) r Y (n:=k) hle xn xL hv src.sV (e1:=.op .cat (.op .cat (.op .take e0 n1) sd) (.op .drop e0 (tw n1 m))) (by
  have hn:((k:Int)+(mm:Int)).toNat=k+mm:=J
  simp only [V.den,fX.den,bD,bE,pY,gP,q2,hm,hn,hsd,br])
 refine⟨rfl,fU,.slice (some ⟨(E.θ id).1,(E.θ id).2,none⟩) (k+mm) cap,w',E,?_,f2,f3,?_⟩
 ·exact lx (s:=ie.size) ht zj jG U h5 src J (by simp only [fD]; rw [<- l9]; exact f1)
 ·simp only [VR];refine⟨hid,0,k+mm,_,_,rfl,by rw [pY,q2,hm]; rfl,rfl,J,?_⟩;rw [am3];simp only [eY] at q5 ⊢
  grind
theorem M4 [bK] {tt:TT} (cP:eJ P tt) {s s':St} (r:bR E s.h w) (hp:bY E.ρ s.pc) {t t2 ty id t':Nat} {lo n1:V} {y v:AV} {u u2:Value} (pg:isZ lo=true) (hx:VR E w.heap (.vm id lo n1 t') u) (hy:VR E w.heap y u2) (h:(FQ tt t t2 id n1 t' y s).leaf E.ρ=some (v,s')) :
 s'.bG=s.bG/\bY E.ρ s'.pc/\∃z w' E',(Builtin.append_ #[t,t2] ty #[u,u2]).run P w= .ok z w'/\fq E s.h w E' s'.h w'/\bR E' s'.h w'/\VR E' w'.heap v z:=by
 unfold FQ at h;split at h
 ·rename_i ti fB;split at h
  ·rename_i e hk;split at h
   ·rename_i ie lG;split at h
    ·grind [T.leaf]
    ·rename_i Rk Mp;obtain⟨d2,jG,Bg⟩:=sZ (cP t2 Rk Mp);split at h
     ·grind [T.leaf]
     ·rename_i k2 gb
      have wc: ∀k,d2≠.int k:=by
       intro k W;subst W;cases xN:Rk.kind<;>rw [xN] at Bg<;>simp only [IX] at Bg
       grind
      split at h
      ·grind [T.leaf]
      ·rename_i jS;simp only [not_or,Classical.not_not] at jS;obtain⟨vZ,sv,tB,l9⟩:=jS;have vv:=cP e ie lG;have hu:=fK (cP t ti fB) hk;split at h
       ·grind [T.leaf]
       ·rename_i e0 tA hva;have Y:=nT hva;split at h
        ·rename_i id2 VU n2 K9;split at h
         ·rename_i JS;split at h
          ·rename_i zj;have JS:=aA JS;have zj:=aA zj;subst JS zj;obtain⟨ga,fS,g1,g2,g3,g4⟩:=w9 hp h;have hy0:=hy;simp only [VR] at hy;obtain⟨hid,l,k,a,cap,q1,q2,rfl,q4,q5⟩:=hy;obtain⟨rc,ho,hw⟩:=r.py Y;generalize hL:(dec (e0.den E.ρ)).l=L at *;have hlk:l+k<=L.length:=J
           have hsp:L=L.take l++((L.take (l+k)).drop l++L.drop (l+k)):=by
            conv=>lhs; rw [<- anb (l+k) L]
            grind
           have V0:cQ E.ρ e0 K9 []=bH E.ρ (rowOf K9) [] (L.take l) 0++(bH E.ρ (rowOf K9) [] ((L.take (l+k)).drop l) 0++bH E.ρ (rowOf K9) [] (L.drop (l+k)) 0):=by
            unfold cQ;rw [hL]
            conv=>lhs; rw [hsp]
            rw [iq,iq]
           have hlA:(bH E.ρ (rowOf K9) [] (L.take l) 0).length=l*(rowOf K9).es:=by rw [cE (kX _),bk];congr 1;omega
           have hlen:((L.take (l+k)).drop l).length=k:=by rw [bu,bk]; omega
           have hlB:(bH E.ρ (rowOf K9) [] ((L.take (l+k)).drop l) 0).length=k*(rowOf K9).es:=by rw [cE (kX _),hlen]
           have hy1:VR E w.heap (.slice id2 (l*(rowOf K9).es) k (.rest (rowOf K9).es)) (.slice (some a) k cap):=by simp only [VR];exact⟨hid,a,cap,rfl,q4,q5⟩
           obtain⟨us,src⟩:=ri (P:=P) rc hy1 (s:=ie.size) (m:=k) (news:=bH E.ρ (rowOf K9) [] ((L.take (l+k)).drop l) 0) (by
            simp only [sI,nw,Hp.bU,if_true];rw [V0,<- hlA,uI];simp only;rw [<- l9,<- hlB,G5]
            rfl)
           refine Nz (s:={ s with pc:=ga }) r fS vv hu jG wc l9 vZ Y pg hx q2 hlen (by rw [yD q1 q2,gP,hL]) (fun d W=>hw.2.1 d ?_) src src.VO g4;rw [hL];exact am1 (amY W)
          grind [T.leaf]
         grind [T.leaf]
        ·split at h
         ·grind [T.leaf]
         ·rename_i m news Pe;obtain⟨us,src⟩:=ri (P:=P) r hy Pe;split at h
          ·grind [T.leaf]
          ·rename_i m';split at h
           ·split at h
            ·rename_i sd hcr;obtain⟨ds,c1,c2,c3,c4,c5⟩:=rJ (ρ:=E.ρ) _ hcr;simp only [V.den,bD,D.l,ax] at c2;exact Nz r hp vv hu jG wc l9 vZ Y pg hx (mm:=m'+1) (by simp only [V.den]; rfl) c1 c2 c4 src (c5 E w.heap _ 0 rfl src.VO) h
            grind [T.leaf]
           grind [T.leaf]
   grind [T.leaf]
  grind [T.leaf]
 grind [T.leaf]
theorem CY [bK] {tt:TT} (cP:eJ P tt) {s s':St} (r:bR E s.h w) (hp:bY E.ρ s.pc) {t ty id t':Nat} {lo n:V} {v:AV} {u:Value} (hx:VR E w.heap (.vm id lo n t') u) (h:(AP tt t id lo n t' s).leaf E.ρ=some (v,s')) :
 s'.bG=s.bG/\bY E.ρ s'.pc/\v=AV.undef/\∃w' E',(Builtin.clear_ #[t] ty #[u]).run P w= .ok (.tuple #[]) w'/\fq E s.h w E' s'.h w'/\bR E' s'.h w':=by
 unfold AP at h;split at h
 ·rename_i ti fB;split at h
  ·rename_i e hk;have hu:=fK (cP t ti fB) hk;split at h
   ·rename_i ie lG;obtain⟨inf,d,z,U,Z,h3,h4,h5,h6,h7,h8⟩:=(cP e ie lG).all;have hz:=fm (E:=E) (h:=w.heap) h4;split at h
    ·rename_i jS;obtain⟨l9,vZ⟩:=jS;split at h
     ·grind [T.leaf]
     ·rename_i e0 Bo hva;have Y:=nT hva;split at h
      ·grind [T.leaf]
      ·rename_i zz hzz;obtain⟨ga,fS,g1⟩:=cI hp h;split at g1
       ·grind [T.leaf]
       ·rename_i t1;obtain⟨ky,kf,g2⟩:=cI (s:={ s with pc:=ga }) fS g1;split at g2
        ·grind [T.leaf]
        ·rename_i t2;obtain⟨VT,JQ,g3⟩:=cI (s:={ s with pc:=ky }) kf g2;split at g3
         ·grind [T.leaf]
         ·rename_i t3;have:=bF g3;simp only [au] at this;obtain⟨rfl,rfl⟩:=this;rw [dX,decide_eq_false_iff_not] at t1 t2;rw [hJ,beq_iff_eq,pY,cD] at t3;simp only [VR] at hx;obtain⟨hid,l,k,a,cap,q1,q2,rfl,q4,q5⟩:=hx;have hlk:l+k=(dec (e0.den E.ρ)).l.length:=J
          have hn0:(dec (e0.den E.ρ)).l.length-l=k:=J
          have hwz:=uQ (ρ:=E.ρ) hzz;have hrz:xS E.ro w.heap (rowOf t') (dec (zz.den E.ρ)) z.cells.toList:=uR hz.1 hzz
          have amG:cC E w.heap (ib (rowOf t') (.eD (dec (zz.den E.ρ)))) z.cells.toList:=by
           rw [gG];simp only [V.den,bD]
           grind
          have afF: ∀m:Nat,bH E.ρ (rowOf t') [] (List.replicate m (dec (zz.den E.ρ))) 0=dQ (ib (rowOf t') (.eD (dec (zz.den E.ρ)))) m:=by
           intro m
           induction m with
           |zero=>rfl
           |succ m ih=>
            simp only [aoA,bH,ed,dQ]
            grind [lj]
          have hv:cC E w.heap (bH E.ρ (rowOf t') [] (List.replicate k (dec (zz.den E.ρ))) 0) (dQ z.cells.toList k):=by
           grind [mR]
          obtain⟨w',f1,f2,f3⟩:=D3 (P:=P) r Y (n:=l) (mm:=k) J (anu) (fun d W=>by rw [aoU W]; exact hwz) hv (fun u hu=>hz.2 u (mQ hu)) (e1:=.op .fill e0 (eL (nV lo) zz)) (by
           simp only [eL,V.den,fX.den,bD,mi,D.n,q1,br,hn0,hlk]
           rw [List.drop_length,am8])
          refine⟨rfl,JQ,rfl,w',E,?_,f2,f3⟩;rcases anC k with Y9|Y9
          ·subst Y9;simp only [dQ] at f1
           have:w'=w:=by
            simp [storeCells] at f1
            grind
           subst this;simp [Builtin.clear_,run_underlying hu]
          ·have ha:a=⟨(E.θ id).1,(E.θ id).2+l*(rowOf t').es,none⟩:=by
            simp only [eY] at q5
            grind
           have afA:z.cells.toList≠[]:=by
            intro hx;have:=xS.length hrz
            grind
           have hzc:(Builtin.zeroCells z.cells k).toList=dQ z.cells.toList k:=vA z.cells afA k;subst ha;obtain⟨j,rfl⟩ : ∃j,k=j+1:=⟨k-1,J⟩;simp [Builtin.clear_,run_underlying hu,zeroValue,typeInfo,U,h3,hzc,f1]
    grind [T.leaf]
   grind [T.leaf]
  grind [T.leaf]
 grind [T.leaf]
end
theorem mW (l:List Nat):(lW l).l.length=l.length:=by simp [lW]
theorem Vs {a b:List Nat} (h:lW a=lW b):a=b:=by
 have:=yZ h
 induction a generalizing b with
 |nil=>cases b with
  |nil=>rfl
  |cons y b=>simp at this
 |cons x a ih=>cases b with
  |nil=>simp at this
  |cons y b=> simp only [aK,List.cons.injEq,D.i.injEq,Int.ofNat_eq_natCast,an5] at this;rw [this.1,ih (b:=b) (by unfold lW; exact congrArg dL (by simpa using this.2)) (by simpa using this.2)]
theorem F5: ∀(x y:List Nat),Nn (x.map fun b=>D.i (Int.ofNat b)) (y.map fun b=>D.i (Int.ofNat b))=bytesLess x y
 |[],[]=>rfl
 |[],_::_=>rfl
 |_::_,[]=>rfl
 |a::x,b::y=>by
  simp only [aK,Nn,bytesLess,D.n,F5 x y];have i1:(Int.ofNat a<Int.ofNat b)=(a<b):=propext aod;have i2:(Int.ofNat b<Int.ofNat a)=(b<a):=propext aod;simp only [i1,i2];rcases aoB a b with h|h|h
  ·simp_all
  ·simp_all
  ·have Z:a.blt b=false:=by rw [anJ]; simp [Nat.blt]; omega
   have h3:a.beq b=false:=by rw [anJ]; simp; omega
   grind
section
variable {P:Program} {E:En} {w:World}
theorem VR.aaL {h:Array Obj} {e:V} {v:Value} (hv:VR E h (.kE e) v): ∃l:List Nat,v= .string (di l)/\(∀b∈l,b<256)/\dec (e.den E.ρ)=lW l:=by
 simp only [VR] at hv;obtain⟨s,rfl,hs⟩:=hv.string;refine⟨bytesOf s,by rw [lC],zc s,?_⟩
 grind [AW,zc,lC,uN,di]
theorem VR.Yp {h:Array Obj} {e:V} {l:List Nat} (Y: ∀b∈l,b<256) (he:dec (e.den E.ρ)=lW l):VR E h (.kE e) (.string (di l)):=by
 simp only [VR];rw [he,AW _ Y];have:=Rd.str (ro:=E.ro) (h:=h) (di l)
 grind [uN,di]
theorem Ef {h:Array Obj} {x:AV} {u:Value} {e:V} (hx:VR E h x u) (hs:uW x=some e): ∃l:List Nat,u= .string (di l)/\(∀b∈l,b<256)/\dec (e.den E.ρ)=lW l:=by
 unfold uW at hs;split at hs
 ·simp only [aq] at hs;subst hs;simp only [VR] at hx;exact⟨_,hx.1,hx.2,by simp only [V.den,bD]⟩
 ·simp only [aq] at hs;subst hs;exact hx.aaL
 grind
theorem PC {tt:TT} (cP:eJ P tt) {s s':St} (hp:bY E.ρ s.pc) {ty:Nat} {e:V} {ix v:AV} {u ui:Value} (hx:VR E w.heap (.kE e) u) (An:VR E w.heap ix ui) (h:(Kg tt s ty e ix).leaf E.ρ=some (v,s')) :
 s'.bG=s.bG/\s'.h=s.h/\bY E.ρ s'.pc/\∃r,(Instr.index ty u ui).run P w= .ok r w/\VR E w.heap v r:=by
 unfold Kg at h;split at h
 ·rename_i kd i;split at h
  ·rename_i ti fB;split at h
   ·rename_i hk;obtain⟨ef,fU,U,Z,h3⟩:=oo hp h;have:=bF h3;simp only [au] at this;obtain⟨rfl,rfl⟩:=this;refine⟨rfl,rfl,fU,?_⟩;obtain⟨l,rfl,hb,W⟩:=hx.aaL;simp only [VR] at An;subst An;rw [cD,W,mW] at Z;obtain⟨k,Bg⟩ : ∃k:Nat,i.den E.ρ=(k:Int):=⟨(i.den E.ρ).toNat,J⟩;have gv:k<l.length:=J
    have hg:(di l)[k]?=some (UInt8.ofNat l[k]):=by rw [Eh,aW gv]; rfl
    have alM:=hb l[k] (aF gv);rw [Bg];refine⟨_,by simp [Instr.index,asIntOf,run_underlying (gf (cP ty ti fB) hk),hg]; rfl,?_⟩
    have VZ:(dec (e.den E.ρ)).l[k]?=some (.i (Int.ofNat l[k])):=by rw [W];simp only [lW,bE,bp,aW gv,am4]
    simp only [VR,Bx,Cm E.ρ e i Bg VZ,D.n]
    grind
   grind [T.leaf]
  grind [T.leaf]
 grind [T.leaf]
theorem PB {tt:TT} (cP:eJ P tt) {s s':St} (hp:bY E.ρ s.pc) {ty:Nat} {e:V} {lo hi mx:Option AV} {zi hi' mx':Option Value} {v:AV} {u:Value} (hx:VR E w.heap (.kE e) u)
 (pg:gI E w.heap lo zi) (zm:gI E w.heap hi hi') (yR:gI E w.heap mx mx') (h:(Kf tt s ty e lo hi mx).leaf E.ρ=some (v,s')) :
 s'.bG=s.bG/\s'.h=s.h/\bY E.ρ s'.pc/\∃r,(Instr.sliceAt ty u zi hi' mx').run P w= .ok r w/\VR E w.heap v r:=by
 unfold Kf at h;split at h
 ·grind [T.leaf]
 ·simp only [gI] at yR;subst yR;split at h
  ·grind [T.leaf]
  ·rename_i ti fB;split at h
   ·rename_i hk;have hu:=gf (cP ty ti fB) hk;split at h
    ·grind [T.leaf]
    ·rename_i ql hql;split at h
     ·grind [T.leaf]
     ·rename_i qh hqh;obtain⟨ga,fS,U⟩:=cI hp h;split at U
      ·grind [T.leaf]
      ·rename_i t1;obtain⟨ky,kf,Z⟩:=cI (s:={ s with pc:=ga }) fS U;split at Z
       ·grind [T.leaf]
       ·rename_i t2;obtain⟨VT,JQ,h3⟩:=cI (s:={ s with pc:=ky }) kf Z;split at h3
        ·grind [T.leaf]
        ·rename_i t3;have:=bF h3;simp only [au] at this;obtain⟨rfl,rfl⟩:=this;refine⟨rfl,rfl,JQ,?_⟩;obtain⟨l,rfl,hb,W⟩:=hx.aaL;rw [dX,decide_eq_false_iff_not] at t1 t2 t3;rw [cD,W,mW] at t3;simp only [V.den,anB] at t1;obtain⟨a,ha⟩ : ∃a:Nat,ql.den E.ρ=(a:Int):=⟨(ql.den E.ρ).toNat,J⟩;obtain⟨b,N7⟩ : ∃b:Nat,qh.den E.ρ=(b:Int):=⟨(qh.den E.ρ).toNat,J⟩;have hle:b<=l.length:=J
         have V2:a<=b:=J
         obtain⟨VU,Y8,nZ⟩:=YF hql pg ha
         have afK: ∃JS,gI E w.heap JS hi'/\oA JS l.length l.length=some b:=by
          unfold hiE at hqh;split at hqh
          ·simp only [aq] at hqh;subst hqh;rw [cD,W,mW] at N7;have:b=l.length:=J
           grind [oA]
          ·split at hqh
           ·simp only [aq] at hqh;subst hqh;exact⟨_,DH N7 zm,DY hle⟩
           grind
         obtain⟨JS,afK,Bh⟩:=afK;obtain⟨e1,e2⟩:=gu (P:=P) (w:=w) (isSlice:=false) (len:=l.length) (cap:=l.length) (m0:=l.length) (d:=0) Y8 afK (mx:=none) (mx':=none) rfl ae (.inl ⟨rfl,rfl,az _⟩) Bh ⟨fun _=>az _,ae⟩ (nZ b V2);refine⟨.string ((di l).extract a b),?_,?_⟩
         ·rw [<- lz] at e1;simp [Instr.sliceAt,run_underlying hu,Instr.slice,e1]
         ·rw [tG];refine VR.Yp (fun c hc=>hb c (am1 (amY hc))) ?_;simp only [eL,V.den,fX.den,bD,mi,D.W,D.l,aM,aN,ay,D.n,ha,N7,br,W];simp only [lW,bE,an8,an9]
   grind [T.leaf]
theorem Jb {x y:AV} {a b:V} (h:Du x y=some (a,b)):uW x=some a/\uW y=some b:=by
 grind [Du]
theorem Ha (ρ:Nat->Int) {a b:V} {x y:List Nat} (ha:dec (a.den ρ)=lW x) (hb:dec (b.den ρ)=lW y):(Hb a b).den ρ=bytesLess x y:=by
 simp only [Hb,SB.den,V.den,fX.den,ha,hb,lW,bE]
 grind [F5]
theorem A1: ∀(x y:List Nat),(bytesLess x y||im x y)=!(bytesLess y x)
 |[],[]=>rfl
 |[],_::_=>rfl
 |_::_,[]=>rfl
 |a::x,b::y=>by
  have ih:=A1 x y;simp only [bytesLess,im];rcases aoB a b with h|h|h
  ·have U:a.blt b=true:=by simp [Nat.blt]; omega
   have Z:b.blt a=false:=by rw [anJ]; simp [Nat.blt]; omega
   have h3:b.beq a=false:=by rw [anJ]; simp; omega
   grind
  ·simp_all
  ·have U:b.blt a=true:=by simp [Nat.blt]; omega
   have Z:a.blt b=false:=by rw [anJ]; simp [Nat.blt]; omega
   have h3:a.beq b=false:=by rw [anJ]; simp; omega
   grind
theorem Ve {s s':St} (hp:bY E.ρ s.pc) {t:Nat} {op:BinOp} {x y v:AV} {a b:V} {u u':Value} (hx:VR E w.heap x u) (hy:VR E w.heap y u') (hs:Du x y=some (a,b)) (h:(PD op a b s).leaf E.ρ=some (v,s')) :
 s'.bG=s.bG/\s'.h=s.h/\bY E.ρ s'.pc/\(∃r,(binOp op t u u').run P w= .ok r w/\VR E w.heap v r)/\(∀cs ds,¬(u= .agg cs/\u'= .agg ds))/\¬(u= .nilIface/\u'= .nilIface):=by
 obtain⟨hsx,hsy⟩:=Jb hs;obtain⟨l,rfl,nZ,hdl⟩:=Ef hx hsx;obtain⟨m,rfl,Fi,u4⟩:=Ef hy hsy
 have heq:((rj (nr a) (nr b)).den E.ρ)=im l m:=by
  grind [iU,mE,mK,Vs,ew]
 have gb:(∀cs ds,¬(Value.string (di l)= .agg cs/\Value.string (di m)= .agg ds))/\¬(Value.string (di l)= .nilIface/\Value.string (di m)= .nilIface):=⟨ae,ae⟩
 have fin: ∀(c:AV) (o:BinOp),LC o l m=some c->(∀q,VR E w.heap c q->VR E w.heap v q)->(∀q,(Op.stringOp o (di l) (di m)).run P w= .ok q w->(binOp o t (.string (di l)) (.string (di m))).run P w= .ok q w)->
  ∃r,(binOp o t (.string (di l)) (.string (di m))).run P w= .ok r w/\VR E w.heap v r:=by
  intro c o ho hc hq;obtain⟨r,U,Z⟩:=LB (P:=P) (E:=E) (w:=w) nZ Fi ho;exact⟨r,hq _ U,hc r Z⟩
 unfold PD at h;split at h
 ·obtain⟨ga,fS,U⟩:=cI hp h;split at U
  ·grind [T.leaf]
  ·rename_i t1;obtain⟨ky,kf,Z⟩:=cI (s:={ s with pc:=ga }) fS U;split at Z
   ·grind [T.leaf]
   ·rename_i t2;have:=bF Z;simp only [au] at this;obtain⟨rfl,rfl⟩:=this;rw [dX,decide_eq_true_eq,cD,hdl,mW] at t1;rw [dX,decide_eq_true_eq,cD,u4,mW] at t2;simp only [V.den] at t1 t2;refine⟨rfl,rfl,kf,⟨.string (di (l++m)),?_,?_⟩,gb⟩
    ·have hm:IntKind.i64.max=9223372036854775807:=ah
     have:(Op.stringOp .add (di l) (di m)).run P w= .ok (.string (di l++di m)) w:=by simp only [Op.stringOp,lz,hm];rw [ak J];rfl
     have e:di l++di m=di (l++m):=by apply ByteArray.ext;simp [di]
     rw [e] at this;simpa [binOp] using this
    ·refine VR.Yp (fun c hc=>?_) ?_
     ·grind
     ·simp only [V.den,fX.den,bD,hdl,u4];simp only [lW,bE,ank]
 all_goals first
  |(simp [T.leaf] at h; done)
  |(have:=bF h
    simp only [au] at this;obtain⟨rfl,rfl⟩:=this;refine⟨rfl,rfl,hp,?_,gb⟩;refine fin _ _ rfl (fun q hq=>?_) (fun q hq=>by simpa [binOp] using hq);simp only [VR,SB.den,nW] at hq ⊢
    first
     |(rw [heq]; exact hq)
     |(rw [Ha E.ρ hdl u4]; exact hq)
     |(rw [Ha E.ρ u4 hdl]; rw [A1] at hq; simpa using hq))
theorem PV [bK] {tt:TT} (cP:eJ P tt) {s s':St} (r:bR E s.h w) (hp:bY E.ρ s.pc) {sT dT:Nat} {e:V} {v:AV} {u:Value} (hx:VR E w.heap (.kE e) u) (h:(DS tt sT dT e s).leaf E.ρ=some (v,s')) :
 s'.bG=s.bG/\bY E.ρ s'.pc/\∃y w' E',(convert sT dT u).run P w= .ok y w'/\fq E s.h w E' s'.h w'/\bR E' s'.h w'/\VR E' w'.heap v y:=by
 unfold DS at h;split at h
 ·grind [T.leaf]
 ·rename_i j hj;split at h
  ·rename_i hjk;split at h
   ·grind [T.leaf]
   ·rename_i i hi;split at h
    ·rename_i el hik;split at h
     ·rename_i ie lG;split at h
      ·rename_i k amQ;split at h
       ·obtain⟨l,rfl,hb,W⟩:=hx.aaL
        have N6:pV tt sT dT (.str l) s.h=some (.slice s.h.fresh 0 l.length (.rest 1),s.h.new (.cells (l.map fun c=> .int .u8 (.lit (Int.ofNat c))) el)):=by
         grind [pV]
        obtain⟨y,w',E',g1,g2,g3,g4⟩:=AO (P:=P) cP r (x:=.str l) (u:=.string (di l)) (by simp only [VR]; exact⟨trivial,hb⟩) N6;obtain⟨ga,fS,U⟩:=cI hp h;rw [iU,cD,W,mW] at U;split at U
        ·rename_i hz;have:=bF U;simp only [au] at this;obtain⟨rfl,rfl⟩:=this;simp only [V.den,beq_iff_eq] at hz
         grind
        ·rename_i hz;have:=bF U;simp only [au] at this;obtain⟨rfl,rfl⟩:=this;simp only [V.den,beq_eq_false_iff_ne,ne_eq] at hz;have Fh:dec (e.den E'.ρ)=lW l:=by rw [g2.ρ]; exact W
         have V0:cQ E'.ρ e 14 []=l.map fun c=>AV.int .u8 (.lit (Int.ofNat c)):=by
          unfold cQ;rw [Fh];simp only [lW,bE]
          have: ∀(l:List Nat) (i:Nat),bH E'.ρ (rowOf 14) [] (l.map fun b=>D.i (Int.ofNat b)) i=l.map fun c=>AV.int .u8 (.lit (Int.ofNat c)):=by
           intro l
           induction l with
           |nil=>intro i; rfl
           |cons a l ih=> intro i;simp only [aK,bH,ed,ih];rfl
          grind
         have r2:=DD (e1:=e) (t:=14) g3 (by
          rw [Fh];refine⟨by simp only [lW,bE],fun x hx=>?_,fun q=>?_⟩
          ·simp only [lW,bE,bd] at hx;obtain⟨b,_,rfl⟩:=hx;rfl
          ·have:=congrArg List.length q;rw [mW] at this
           exact hz (by simp at this; simp [this])) (by rw [V0]) (fun us hu=>by rw [V0]; exact hu)
         refine⟨rfl,fS,y,w',E',g1,g2.right (xe rfl rfl fun _=>rfl),r2,?_⟩;simp only [VR] at g4 ⊢;obtain⟨q1,a,cap,q2,q3,q4⟩:=g4;exact⟨q1,l.length,a,cap,by rw [cD,Fh,mW],q2,q3,q4⟩
       grind [T.leaf]
      grind [T.leaf]
     grind [T.leaf]
    grind [T.leaf]
  grind [T.leaf]
end
section
variable {P:Program} {E:En} {w:World}
def Sb (c:CK):Prop:=(∃k,c= .int k)\/c= .str
theorem HQ (t:Nat):Sb (mapOf t).1:=by
 unfold mapOf;split<;>first |exact .inl ⟨_,rfl⟩|exact .inr rfl
theorem bytes_beq (p q:ByteArray):(p == q)=decide (p=q):=by
 rw [ana,decide_eq_true_eq];have e:(p == q)=(p.data == q.data):=rfl;rw [e,beq_iff_eq];constructor
 ·intro h; cases p; cases q; simp only at h; rw [h]
 grind
theorem Mi {ro:Nat->Prop} {h:Array Obj} {c:CK} (hc:Sb c) {dt:TypeDesc} (W:zh dt (CM c)) {d d':D} {u u':Value} (r:Rd ro h c d u) (r':Rd ro h c d' u') :
 Instr.sameNow dt u u'=some (decide (d=d'))/\(d=d'->∀n,Instr.sameBits (n+1) u' u=true):=by
 rcases hc with ⟨k,rfl⟩|rfl
 ·simp only [CM] at W;obtain⟨k',rfl⟩:=W
  cases r with
  |int _ n=>
   cases r' with
   |int _ m=>
    refine⟨?_,fun hh n=>?_⟩
    ·simp only [Instr.sameNow,D.i.injEq]
     grind
    ·simp only [D.i.injEq] at hh;subst hh;simp [Instr.sameBits]
 ·simp only [CM] at W;simp only [zh] at W;subst W;obtain⟨a,rfl,rfl⟩:=r.string;obtain⟨b,rfl,rfl⟩:=r'.string;refine⟨?_,fun hh n=>?_⟩
  ·simp only [Instr.sameNow,bytes_beq];congr 1
   grind [F3]
  ·have:=F3 hh;subst this;simp [Instr.sameBits,bytes_beq]
theorem AA {ro:Nat->Prop} {h:Array Obj} {t:Nat} {dt:TypeDesc} (W:zh dt (CM (mapOf t).1)) {kd:D} {u:Value} (hk:Rd ro h (mapOf t).1 kd u): ∀{ds:List D} {bS:List MapEntry} {i:Nat},
 ly ro h t ds bS->
 (df ds kd=none/\Instr.findNow dt u bS i=some none/\(∀v,jP ds kd v=ds++ [.p kd v])/\z7 ds kd=ds)\/
 (∃j x e,df ds kd=some x/\bS[j]?=some e/\Rd ro h (mapOf t).2 x e.val/\Instr.findNow dt u bS i=some (some (i+j,e.val))/\(∀n,Instr.sameBits (n+1) e.key u=true)/\(∀v,jP ds kd v=ds.set j (.p kd v))/\z7 ds kd=ds.eraseIdx j)
 |[],bS,i,he=>by simp only [ly] at he;subst he;exact .inl ⟨rfl,by simp [Instr.findNow],fun _=>rfl,rfl⟩
 |d::ds,bS,i,he=>by
  obtain⟨e,r,rfl,U,Z,h3,h4⟩:=he;obtain⟨g1,g2⟩:=Mi (HQ t) W hk Z;by_cases zl:ji d=kd
  ·have SG:Instr.sameNow dt u e.key=some true:=by rw [g1,decide_eq_true zl.symm]
   refine .inr ⟨0,GS d,e,by simp only [df,an zl],rfl,h3,by simp [Instr.findNow,SG],g2 zl.symm,fun v=>by simp only [jP,an zl,anG],by simp only [z7,an zl,List.eraseIdx_cons_zero]⟩
  ·have SG:Instr.sameNow dt u e.key=some false:=by rw [g1,decide_eq_false (fun q=>zl q.symm)]
   rcases AA (i:=i+1) W hk h4 with ⟨q1,q2,q3,q4⟩|⟨j,x,e',q1,q2,q3,q4,q5,q6,q7⟩
   ·exact .inl ⟨by simp only [df,ak zl,q1],by simp [Instr.findNow,SG,q2],fun v=>by simp only [jP,ak zl,q3,aX],by simp only [z7,ak zl,q4]⟩
   ·refine .inr ⟨j+1,x,e',by simp only [df,ak zl,q1],by simpa using q2,q3,?_,q5,fun v=>by simp only [jP,ak zl,q6,anH],by simp only [z7,ak zl,q7,aor]⟩;simp only [Instr.findNow,SG,q4]; congr 3; omega
theorem ly.set {ro:Nat->Prop} {h:Array Obj} {t:Nat} {kd vd:D} {uk uv:Value} (hk:Rd ro h (mapOf t).1 kd uk) (hv:Rd ro h (mapOf t).2 vd uv): ∀{ds:List D} {bS:List MapEntry} {i:Nat} {e:MapEntry},ly ro h t ds bS->bS[i]?=some e->
 ly ro h t (ds.set i (.p kd vd)) (bS.set i { e with key:=uk,val:=uv })
 |[],bS,i,e,he,hi=>by simp only [ly] at he; subst he; simp at hi
 |d::ds,bS,0,e,he,hi=>by obtain⟨e0,r,rfl,U,Z,h3,h4⟩:=he;simp at hi;subst hi;simp only [anG];exact⟨_,r,rfl,rfl,hk,hv,h4⟩
 |d::ds,bS,i+1,e,he,hi=>by obtain⟨e0,r,rfl,U,Z,h3,h4⟩:=he;simp only [anH];exact⟨e0,_,rfl,U,Z,h3,ly.set hk hv h4 (by simpa using hi)⟩
theorem ly.push {ro:Nat->Prop} {h:Array Obj} {t:Nat} {kd vd:D} {uk uv:Value} {c:Nat} (hk:Rd ro h (mapOf t).1 kd uk) (hv:Rd ro h (mapOf t).2 vd uv): ∀{ds:List D} {bS:List MapEntry},ly ro h t ds bS->
 ly ro h t (ds++ [.p kd vd]) (bS++ [{ key:=uk,val:=uv,born:=c }])
 |[],bS,he=>by simp only [ly] at he;subst he;exact⟨_,[],rfl,rfl,hk,hv,rfl⟩
 |d::ds,bS,he=>by obtain⟨e0,r,rfl,U,Z,h3,h4⟩:=he;simp only [aX];exact⟨e0,_,rfl,U,Z,h3,ly.push hk hv h4⟩
theorem ly.erase {ro:Nat->Prop} {h:Array Obj} {t:Nat}: ∀{ds:List D} {bS:List MapEntry} {i:Nat},ly ro h t ds bS->ly ro h t (ds.eraseIdx i) (bS.eraseIdx i)
 |[],bS,i,he=>by simp only [ly] at he; subst he; simp [ly]
 |d::ds,bS,0,he=>by
  obtain⟨e0,r,rfl,U,Z,h3,h4⟩:=he
  grind
 |d::ds,bS,i+1,he=>by obtain⟨e0,r,rfl,U,Z,h3,h4⟩:=he;simp only [aor];exact⟨e0,_,rfl,U,Z,h3,ly.erase h4⟩
theorem yJ {m:AV} {h:Hp} {id t:Nat} {e:V} (hm:xZ m h=some (id,e,t)):m= .map id/\h.get id=some (.kO e t):=by
 unfold xZ at hm
 grind
theorem BN {tt:TT} (cP:eJ P tt) {h:Array Obj} {ty t:Nat} {k:AV} {uk:Value} {a:V} {ie:TI} (hk:VR E h k uk) (hm:mapKey tt ty t k=some (a,ie)) :
 ∃kt et dt,P.underlying ty=some (.map kt et)/\P.underlying kt=some dt/\zh dt (CM (mapOf t).1)/\nG P et ie/\Rd E.ro h (mapOf t).1 (dec (a.den E.ρ)) uk:=by
 unfold mapKey at hm;split at hm
 ·grind
 ·rename_i ti fB;split at hm
  ·rename_i kt et Am;split at hm
   ·grind
   ·rename_i ki L!;split at hm
    ·rename_i xN;split at hm
     ·grind
     ·rename_i ie' lG;split at hm
      ·grind
      ·rename_i a0 ha0;simp only [aq,au] at hm;obtain⟨rfl,rfl⟩:=hm;have hu:=wU (cP ty ti fB) Am
       have zl: ∃dt,P.underlying kt=some dt/\zh dt (CM (mapOf t).1):=by
        rcases HQ t with ⟨q,hq⟩|hq
        ·rw [hq] at xN ⊢;exact⟨_,tF (cP kt ki L!) xN,q,rfl⟩
        ·rw [hq] at xN ⊢;exact⟨_,gf (cP kt ki L!) xN,rfl⟩
       obtain⟨dt,U,Z⟩:=zl;refine⟨kt,et,dt,hu,U,Z,cP et ie' lG,?_⟩;rw [mE,bD];exact (lL hk ha0).rd (n8 ha0)
    grind
  grind
theorem BM [bK] {H:Hp} (r:bR E H w) {id t:Nat} {e:V} (Y:H.get id=some (.kO e t)): ∃bS c',w.heap[(E.θ id).1]?=some (.map bS c')/\ly E.ro w.heap t (dec (e.den E.ρ)).l bS.toList:=
 (r.live id _ Y).2.1
theorem mX {t:Nat} {c:CK} {d:TypeDesc} (hu:P.underlying t=some d) (W:zh d (CM c)) (b:Bool) (v:Value):(Instr.checkKey b 10000 t v).run P w= .ok () w:=e8 hu W b v
theorem xo {ρ:Nat->Int} (e a:V):(Ib e a).den ρ=((V.op .O1 e a).den ρ == (V.lit 0).den ρ):=by
 unfold Ib;split
 ·split
  ·simp only [SB.den,V.den,fX.den,bD]
   grind
  ·rfl
 ·rfl
theorem PK [bK] {tt:TT} (cP:eJ P tt) {s s':St} (r:bR E s.h w) (hp:bY E.ρ s.pc) {ty id t:Nat} {m k v:AV} {e:V} {um uk:Value} {ok:Bool} (hm:VR E w.heap m um) (hk:VR E w.heap k uk) (hY:xZ m s.h=some (id,e,t)) (h:(AK tt ty k ok e t s).leaf E.ρ=some (v,s')) :
 s'.bG=s.bG/\s'.h=s.h/\bY E.ρ s'.pc/\∃x,(Instr.lookup ty um uk ok).run P w= .ok x w/\VR E w.heap v x:=by
 obtain⟨rfl,Y⟩:=yJ hY
 unfold AK at h;split at h
 ·grind [T.leaf]
 ·rename_i a ie hmk;obtain⟨kt,et,dt,hu,rv,jG,lG,hrk⟩:=BN cP hk hmk;split at h
  ·grind [T.leaf]
  ·rename_i z hz;obtain⟨u0,z1,z2⟩:=Bn (P:=P) (w:=w) (E:=E) lG hz;obtain⟨bS,c',g1,g2⟩:=BM r Y;have hg:=gW (P:=P) g1 ae;simp only [VR] at hm;obtain⟨rfl,hid⟩:=hm;have hf:=AA (i:=0) jG hrk g2;obtain⟨ga,fS,U⟩:=cI hp h;rw [xo] at U;simp only [V.den,fX.den] at U;rcases hf with ⟨q1,q2,_,_⟩|⟨j,x,en,q1,q2,q3,q4,q5,_,_⟩
   ·rw [q1] at U;have:=bF U;simp only [au] at this;obtain⟨rfl,rfl⟩:=this;refine⟨rfl,rfl,fS,(if ok then .tuple #[u0,.bool false] else u0),?_,?_⟩
    ·cases ok<;>simp [Instr.lookup,run_underlying hu,hg,mX rv jG,eU rv q2,z1]
    ·cases ok
     ·exact z2
     ·simp only [if_true,VR,cC];simp_all [z2,SB.den]
   ·rw [q1] at U;have:=bF U;simp only [au] at this;obtain⟨rfl,rfl⟩:=this
    have GP:VR E w.heap (sc (mapOf t).2 (.op .GM e a)) en.val:=by rw [od];simp only [V.den,fX.den,bD,q1,ay];exact q3.cell
    refine⟨rfl,rfl,fS,(if ok then .tuple #[en.val,.bool true] else en.val),?_,?_⟩
    ·cases ok<;>simp [Instr.lookup,run_underlying hu,hg,mX rv jG,eU rv q4]
    ·cases ok
     ·grind
     ·simp only [if_true,VR,cC]
      grind [SB.den]
theorem Vf [bK] {tt:TT} (cP:eJ P tt) {s s':St} (r:bR E s.h w) {ty id t:Nat} {m k x v:AV} {e:V} {um uk ux:Value} (hm:VR E w.heap m um) (hk:VR E w.heap k uk) (hx:VR E w.heap x ux) (hY:xZ m s.h=some (id,e,t)) (h:(PG tt ty id k x e t s).leaf E.ρ=some (v,s')) :
 s'.bG=s.bG/\s'.pc=s.pc/\v=AV.undef/\∃w',(Instr.mapUpdate ty um uk ux).run P w= .ok () w'/\fq E s.h w E s'.h w'/\bR E s'.h w':=by
 obtain⟨rfl,Y⟩:=yJ hY
 unfold PG at h;split at h
 ·grind [T.leaf]
 ·rename_i a ie hmk;obtain⟨kt,et,dt,hu,rv,jG,lG,hrk⟩:=BN cP hk hmk;split at h
  ·grind [T.leaf]
  ·rename_i b hb;have:=bF h;simp only [au] at this;obtain⟨rfl,rfl⟩:=this;have hrx:=(lL hx hb).rd (n8 hb);obtain⟨bS,c',g1,g2⟩:=BM r Y;have hg:=gW (P:=P) g1 ae;simp only [VR] at hm;obtain⟨rfl,hid⟩:=hm;refine⟨rfl,rfl,rfl,?_⟩
   have qn:dec ((V.op .zX e (eL a b)).den E.ρ)=dL (jP (dec (e.den E.ρ)).l (dec (a.den E.ρ)) (dec (b.den E.ρ))):=by simp only [eL,V.den,fX.den,bD]
   rcases AA (i:=0) jG hrk g2 with ⟨q1,q2,q3,_⟩|⟨j,y,en,q1,q2,q3,q4,q5,q6,_⟩
   ·refine⟨_,?_,iX r Y (.kO (.op .zX e (eL a b)) t) (.map (bS.push { key:=uk,val:=ux,born:=c' }) (c'+1)) ?_⟩
    ·simp [Instr.mapUpdate,run_underlying hu,hg,mX rv jG,eU rv q2,iA (P:=P) g1]
    ·intro h' hh kp;simp only [OR];refine⟨_,_,hh,?_⟩;rw [qn,bE,q3,Array.toList_push];exact ly.push (hrk.cx kp.ro kp.Cy) (hrx.cx kp.ro kp.Cy) (g2.cx kp.ro kp.Cy)
   ·simp only [aL] at q4
    have hkt:(Instr.keyThatStays (((bS[j]?).map (·.key)).getD uk) uk).run P w= .ok uk w:=by have q2':=q2;rw [amZ] at q2';simp only [q2',am4,ay,Instr.keyThatStays];simp_all
    refine⟨_,?_,iX r Y (.kO (.op .zX e (eL a b)) t) (.map (bS.modify j fun e=>{ e with key:=uk,val:=ux }) c') ?_⟩
    ·simp [Instr.mapUpdate,run_underlying hu,hg,mX rv jG,eU rv q4,hkt,iA (P:=P) g1]
    ·intro h' hh kp;simp only [OR];refine⟨_,_,hh,?_⟩;rw [qn,bE,q6,yI bS j en _ q2];exact ly.set (hrk.cx kp.ro kp.Cy) (hrx.cx kp.ro kp.Cy) (g2.cx kp.ro kp.Cy) q2
theorem Iu [bK] {tt:TT} (cP:eJ P tt) {s s':St} (r:bR E s.h w) (hp:bY E.ρ s.pc) {ty:Nat} {m k x v:AV} {um uk ux:Value} (hm:VR E w.heap m um) (hk:VR E w.heap k uk) (hx:VR E w.heap x ux) (h:(Kj tt ty m k x s).leaf E.ρ=some (v,s')) :
 s'.bG=s.bG/\bY E.ρ s'.pc/\v=AV.undef/\∃w' E',(Instr.mapUpdate ty um uk ux).run P w= .ok () w'/\fq E s.h w E' s'.h w'/\bR E' s'.h w':=by
 unfold Kj at h;obtain⟨vs,U,ga,E1,fS,f,q,g⟩:=qC rfl r hp h;have hρ:=f.ρ;rw [<- hρ] at fS g;have hv:=q [ux] (by simp only [cC]; exact⟨ux,[],rfl,hx,rfl⟩);split at g
 ·rename_i x1;simp only [cC] at hv;obtain⟨u1,us1,e1,hx1,e2⟩:=hv;subst e2;simp only [List.cons.injEq,and_true] at e1;subst e1;split at g
  ·rename_i id e t hY
   obtain⟨a1,a2,a3,w',a4,a5,a6⟩:=Vf cP (s:={ s with h:=U,pc:=ga }) f.rel (VR.cx (f.dY.keeps r) _ _ hm) (VR.cx (f.dY.keeps r) _ _ hk) hx1 hY g;exact⟨a1,by rw [a2,<- hρ]; exact fS,a3,w',E1,a4,f.dY.trans a5,a6⟩
  grind [T.leaf]
 grind [T.leaf]
theorem Vk [bK] {tt:TT} (cP:eJ P tt) {s s':St} (r:bR E s.h w) {ty id t ts:Nat} {m k v:AV} {e:V} {um uk:Value} (hm:VR E w.heap m um) (hk:VR E w.heap k uk) (hY:xZ m s.h=some (id,e,t)) (h:(PQ tt ty id k e t s).leaf E.ρ=some (v,s')) (tr:Nat) :
 s'.bG=s.bG/\s'.pc=s.pc/\v=AV.undef/\∃w',(Builtin.delete_ #[ty,ts] tr #[um,uk]).run P w= .ok (.tuple #[]) w'/\fq E s.h w E s'.h w'/\bR E s'.h w':=by
 obtain⟨rfl,Y⟩:=yJ hY
 unfold PQ at h;split at h
 ·grind [T.leaf]
 ·rename_i a ie hmk;obtain⟨kt,et,dt,hu,rv,jG,lG,hrk⟩:=BN cP hk hmk;have:=bF h;simp only [au] at this;obtain⟨rfl,rfl⟩:=this;obtain⟨bS,c',g1,g2⟩:=BM r Y;have hg:=gW (P:=P) g1 ae;simp only [VR] at hm;obtain⟨rfl,hid⟩:=hm;refine⟨rfl,rfl,rfl,?_⟩
  have qn:dec ((V.op .GO e a).den E.ρ)=dL (z7 (dec (e.den E.ρ)).l (dec (a.den E.ρ))):=by simp only [V.den,fX.den,bD]
  rcases AA (i:=0) jG hrk g2 with ⟨q1,q2,_,q3⟩|⟨j,y,en,q1,q2,q3,q4,q5,_,q6⟩
  ·refine⟨_,?_,iX r Y (.kO (.op .GO e a) t) (.map bS c') ?_⟩
   ·simp [Builtin.delete_,run_underlying hu,hg,mX rv jG,eU rv q2,iA (P:=P) g1]
   ·intro h' hh kp;simp only [OR];refine⟨_,_,hh,?_⟩;rw [qn,bE,q3];exact g2.cx kp.ro kp.Cy
  ·simp only [aL] at q4;refine⟨_,?_,iX r Y (.kO (.op .GO e a) t) (.map (bS.eraseIdxIfInBounds j) c') ?_⟩
   ·simp [Builtin.delete_,run_underlying hu,hg,mX rv jG,eU rv q4,iA (P:=P) g1]
   ·intro h' hh kp;simp only [OR];refine⟨_,_,hh,?_⟩;have dK:j<bS.size:=by have:=(bj.1 q2).1; simpa using this
    have:(bS.eraseIdxIfInBounds j).toList=bS.toList.eraseIdx j:=by simp_all
    rw [this,qn,bE,q6];exact ly.erase (g2.cx kp.ro kp.Cy)
end
section
variable {P:Program} {E:En} {w:World}
theorem Fx {m:AV} {h:Hp} {id t:Nat} {e:V} {fw:List Nat} {ov:List (V×AV)} (hm:Fy m h=some (id,e,t,fw,ov)):m= .map id/\h.get id=some (.uC e t fw ov):=by
 unfold Fy at hm;split at hm
 ·split at hm
  ·rename_i o ho;split at hm
   ·simp only [aq,au] at hm;obtain⟨rfl,rfl,rfl,rfl,rfl⟩:=hm;exact⟨rfl,ho⟩
   ·simp at hm
  ·simp at hm
 ·simp at hm
theorem Ir {tt:TT} (cP:eJ P tt) {h:Array Obj} {ty:Nat} {k:AV} {uk:Value} {x:V} {ie:TI} (hk:VR E h k uk) (hm:Kb tt ty k=some (x,ie)) :
 ∃kt et dt,P.underlying ty=some (.map kt et)/\P.underlying kt=some dt/\zh dt (.int .i64)/\nG P et ie/\uk= .int .i64 (x.den E.ρ):=by
 unfold Kb at hm;split at hm
 ·simp at hm
 ·rename_i ti fB;split at hm
  ·rename_i kt et Am;split at hm
   ·simp at hm
   ·rename_i ki L!;split at hm
    ·rename_i xN;split at hm
     ·simp at hm
     ·rename_i ie' lG;split at hm
      ·split at hm
       ·rename_i kk y alu;simp only [aq,au] at hm;obtain⟨rfl,rfl⟩:=hm;subst alu;simp only [VR] at hk;exact⟨kt,et,_,wU (cP ty ti fB) Am,tF (cP kt ki L!) xN,⟨_,rfl⟩,cP et ie' lG,hk⟩
       ·simp at hm
      ·simp at hm
    ·simp at hm
  ·simp at hm
theorem sM (ρ:Nat->Int) (x:V):dec ((nV x).den ρ)= .i (x.den ρ):=by
 unfold nV;split
 ·simp only [V.den,bD]
 ·simp only [V.den,fX.den,bD]
theorem yT {α:Type} {ρ:Nat->Int} {x:V} {k:Option AV->St->T α} {a:α}: ∀{ov:List (V×AV)} {s:St},bY ρ s.pc->(uB x ov s k).leaf ρ=some a->
 ∃ef,bY ρ ef/\(k (mA ρ (x.den ρ) ov) { s with pc:=ef }).leaf ρ=some a
 |[],s,hp,h=> ⟨s.pc,hp,h⟩
 |(y,v)::l,s,hp,h=>by
  simp only [uB] at h;split at h
  ·rename_i he;have:=cR _ _ he;subst this;refine⟨s.pc,hp,?_⟩;simp only [mA,if_true];exact h
  ·obtain⟨ga,fS,U⟩:=cI hp h;rw [hJ] at U;by_cases he:x.den ρ=y.den ρ
   ·simp only [he,beq_self_eq_true] at U;refine⟨ga,fS,?_⟩;simp only [mA,an he.symm];exact U
   ·have hf:(x.den ρ == y.den ρ)=false:=by simp [he]
    rw [hf] at U;obtain⟨ky,kf,Z⟩:=yT (s:={ s with pc:=ga }) fS U;refine⟨ky,kf,?_⟩;simp only [mA,ak (fun q=>he (Eq.symm q))];exact Z
theorem Ip {α:Type} {ρ:Nat->Int} {x:V} {v:AV} {a:α}: ∀{ov:List (V×AV)} {s:St} {k:Option (List (V×AV))->St->T α},bY ρ s.pc->(Ka x v ov s k).leaf ρ=some a->
 ∃ef,bY ρ ef/\((mA ρ (x.den ρ) ov=none/\(k none { s with pc:=ef }).leaf ρ=some a)\/
  ∃jA,(∃u,mA ρ (x.den ρ) ov=some u)/\((∀n,mA ρ n jA=if n=x.den ρ then some v else mA ρ n ov)/\jA.map (·.1)=ov.map (·.1))/\(k (some jA) { s with pc:=ef }).leaf ρ=some a)
 |[],s,k,hp,h=> ⟨s.pc,hp,.inl ⟨rfl,h⟩⟩
 |(y,u)::l,s,k,hp,h=>by
  simp only [Ka] at h
  have here:x.den ρ=y.den ρ->(∃u',mA ρ (x.den ρ) ((y,u)::l)=some u')/\((∀n,mA ρ n ((y,v)::l)=if n=x.den ρ then some v else mA ρ n ((y,u)::l))/\((y,v)::l).map (·.1)=((y,u)::l).map (·.1)):=by
   intro he;refine⟨⟨u,by simp only [mA,an he.symm]⟩,fun n=>?_,rfl⟩;simp only [mA];by_cases hn:n=x.den ρ
   ·rw [an hn,an (by rw [hn,he])]
   ·rw [ak hn,ak (fun q=>hn (by rw [he,q])),ak (fun q=>hn (by rw [he,q]))]
  split at h
  ·rename_i he;have:=cR _ _ he;subst this;exact⟨s.pc,hp,.inr ⟨_,(here rfl).1,(here rfl).2,h⟩⟩
  ·obtain⟨ga,fS,U⟩:=cI hp h;rw [hJ] at U;by_cases he:x.den ρ=y.den ρ
   ·have ht:(x.den ρ == y.den ρ)=true:=by simp [he]
    rw [ht] at U;exact⟨ga,fS,.inr ⟨_,(here he).1,(here he).2,U⟩⟩
   ·have hf:(x.den ρ == y.den ρ)=false:=by simp [he]
    rw [hf] at U;obtain⟨ky,kf,Z⟩:=Ip (s:={ s with pc:=ga }) fS U;have gb: ¬y.den ρ=x.den ρ:=fun q=>he q.symm;refine⟨ky,kf,?_⟩;rcases Z with ⟨g1,g2⟩|⟨jA,⟨u',g1⟩,⟨g2,g4⟩,g3⟩
    ·exact .inl ⟨by simp only [mA,ak gb]; exact g1,g2⟩
    ·refine .inr ⟨_,⟨u',by simp only [mA,ak gb]; exact g1⟩,⟨fun n=>?_,by simp only [aK,g4]⟩,g3⟩;simp only [mA];by_cases hy:y.den ρ=n
     ·rw [an hy,an hy,ak (fun q=>gb (by rw [hy,q]))]
     ·rw [ak hy,ak hy,g2 n]
theorem Az {h:Array Obj} {B t:Nat} {fw:List Nat} {ov:List (V×AV)} {dt:TypeDesc} (W:zh dt (.int .i64)) (n:Int): ∀{ds:List D} {bS:List MapEntry} {i:Nat},eX E h B t fw ov ds bS->
 (df ds (.i n)=none/\D.i n∉ds.map ji/\Instr.findNow dt (.int .i64 n) bS i=some none/\(∀v,jP ds (.i n) v=ds++ [.p (.i n) v]))\/
 (∃j x e,df ds (.i n)=some x/\D.i n∈ds.map ji/\bS[j]?=some e/\ds[j]?=some (.p (.i n) x)/\e.key= .int .i64 n/\(match mA E.ρ n ov with |some v=>VR E h v e.val|none=>qT E h B t fw (.i n) x e.val)/\
  Instr.findNow dt (.int .i64 n) bS i=some (some (i+j,e.val))/\(∀n',Instr.sameBits (n'+1) e.key (.int .i64 n)=true)/\(∀v,jP ds (.i n) v=ds.set j (.p (.i n) v)))
 |[],bS,i,he=>by simp only [eX] at he;subst he;exact .inl ⟨rfl,ae,by simp [Instr.findNow],fun _=>rfl⟩
 |d::ds,bS,i,he=>by
  obtain⟨e,r,m,rfl,U,Z,h3,h4⟩:=he;obtain⟨g1,g2⟩:=Mi (ro:=E.ro) (h:=h) (c:=.int .i64) (.inl ⟨_,rfl⟩) W (.int .i64 n) (.int .i64 m);have hk:ji d= .i m:=by rw [U]; rfl
  rw [<- Z] at g1 g2;by_cases zl:D.i m=D.i n
  ·have hmn:m=n:=by simpa using zl
   subst hmn;have SG:Instr.sameNow dt (.int .i64 m) e.key=some true:=by rw [g1,decide_eq_true rfl]
   refine .inr ⟨0,GS d,e,by simp only [df,hk,if_true],by simp [hk],rfl,by rw [<- U]; rfl,Z,h3,by simp [Instr.findNow,SG],g2 rfl,fun v=>by simp only [jP,hk,if_true,anG]⟩
  ·have SG:Instr.sameNow dt (.int .i64 n) e.key=some false:=by rw [g1,decide_eq_false (fun q=>zl q.symm)]
   have gb: ¬ji d= .i n:=by rw [hk]; exact zl
   rcases Az (i:=i+1) W n h4 with ⟨q1,q2,q3,q4⟩|⟨j,x,e',q1,q2,q3,q4,q5,q6,q7,q8,q9⟩
   ·refine .inl ⟨by simp only [df,ak gb,q1],?_,by simp [Instr.findNow,SG,q3],fun v=>by simp only [jP,ak gb,q4,aX]⟩;simp only [aK,aH,not_or];exact⟨fun q=>gb q.symm,q2⟩
   ·refine .inr ⟨j+1,x,e',by simp only [df,ak gb,q1],by simp only [aK,aH]; exact .inr q2,by simpa using q3,by simpa using q4,q5,q6,?_,q8,fun v=>by simp only [jP,ak gb,q9,anH]⟩;simp only [Instr.findNow,SG,q7]; congr 3; omega
theorem Ju {ρ:Nat->Int} {n:Int} {v:AV}: ∀{ov:List (V×AV)},mA ρ n ov=some v->n∈ov.map fun p=>p.1.den ρ
 |[],h=>by simp [mA] at h
 |(x,u)::l,h=>by
  simp only [mA] at h;simp only [aK,aH];split at h
  ·rename_i he; exact .inl he.symm
  ·exact .inr (Ju h)
theorem Jt {ρ:Nat->Int} {n:Int}: ∀{ov:List (V×AV)},mA ρ n ov=none->n∉ov.map fun p=>p.1.den ρ
 |[],_=>by simp
 |(x,u)::l,h=>by
  simp only [mA] at h;simp only [aK,aH,not_or];split at h
  ·simp at h
  ·rename_i he; exact⟨fun q=>he q.symm,Jt h⟩
theorem Bc.at {ρ:Nat->Int} {ds:List D} {ov:List (V×AV)} (h:Bc ρ ds ov) {n:Int} {v:AV} (hv:mA ρ n ov=some v):D.i n∈ds.map ji:=by obtain⟨p,hp,he⟩:=bd.1 (Ju hv);rw [<- he];exact h.2.1 p hp
theorem AB [bK] {H:Hp} (r:bR E H w) {id t:Nat} {e:V} {fw:List Nat} {ov:List (V×AV)} (Y:H.get id=some (.uC e t fw ov)) :
 Bc E.ρ (dec (e.den E.ρ)).l ov/\∃bS c',w.heap[(E.θ id).1]?=some (.map bS c')/\eX E w.heap (E.θ id).1 t fw ov (dec (e.den E.ρ)).l bS.toList:=
 (r.live id _ Y).2.1
theorem PJ [bK] {tt:TT} (cP:eJ P tt) {s s':St} (r:bR E s.h w) (hp:bY E.ρ s.pc) {ty id t:Nat} {fw:List Nat} {ov:List (V×AV)} {m k v:AV} {e:V} {um uk:Value} {ok:Bool} (hm:VR E w.heap m um) (hk:VR E w.heap k uk) (hY:Fy m s.h=some (id,e,t,fw,ov)) (h:(AJ tt ty k ok e ov s).leaf E.ρ=some (v,s')) :
 s'.bG=s.bG/\s'.h=s.h/\bY E.ρ s'.pc/\∃x,(Instr.lookup ty um uk ok).run P w= .ok x w/\VR E w.heap v x:=by
 obtain⟨rfl,Y⟩:=Fx hY
 unfold AJ at h;split at h
 ·simp [T.leaf] at h
 ·rename_i x ie hmk;obtain⟨kt,et,dt,hu,rv,jG,lG,rfl⟩:=Ir cP hk hmk;split at h
  ·simp [T.leaf] at h
  ·rename_i z hz;obtain⟨u0,z1,z2⟩:=Bn (P:=P) (w:=w) (E:=E) lG hz;obtain⟨g0,bS,c',g1,g2⟩:=AB r Y;have hg:=gW (P:=P) g1 ae;simp only [VR] at hm;obtain⟨rfl,hid⟩:=hm;have hf:=Az (i:=0) jG (x.den E.ρ) g2;obtain⟨ga,fS,U⟩:=yT hp h
   cases ho:mA E.ρ (x.den E.ρ) ov with
   |some v1=>
    rw [ho] at U;have:=bF U;simp only [au] at this;obtain⟨rfl,rfl⟩:=this;rcases hf with ⟨q1,q2,_,_⟩|⟨j,y,en,q1,q2,q3,_,_,q6,q7,_,_⟩
    ·exact absurd (g0.at ho) q2
    ·rw [ho] at q6;refine⟨rfl,rfl,fS,(if ok then .tuple #[en.val,.bool true] else en.val),?_,?_⟩
     ·cases ok<;>simp [Instr.lookup,run_underlying hu,hg,e8 rv jG,eU rv q7]
     ·cases ok
      ·exact q6
      ·simp only [if_true,VR,cC];exact⟨[en.val,.bool true],rfl,_,_,rfl,q6,_,_,rfl,by simp [SB.den],rfl⟩
   |none=>
    rw [ho] at U;obtain⟨ky,kf,Z⟩:=cI fS U;rw [xo] at Z;simp only [V.den,fX.den,sM] at Z;rcases hf with ⟨q1,_,q2,_⟩|⟨j,y,en,q1,_⟩
    ·rw [q1] at Z;have:=bF Z;simp only [au] at this;obtain⟨rfl,rfl⟩:=this;refine⟨rfl,rfl,kf,(if ok then .tuple #[u0,.bool false] else u0),?_,?_⟩
     ·cases ok<;>simp [Instr.lookup,run_underlying hu,hg,e8 rv jG,eU rv q2,z1]
     ·cases ok
      ·exact z2
      ·simp only [if_true,VR,cC];exact⟨[u0,.bool false],rfl,_,_,rfl,z2,_,_,rfl,by simp [SB.den],rfl⟩
    ·rw [q1] at Z;simp [T.leaf] at Z
theorem zy [bK] {H:Hp} (r:bR E H w) {id:Nat} {o:dO} (Y:H.get id=some o) (ao:dO) (o':Obj)
 (ho: ∀h',h'[(E.θ id).1]?=some o'->fY E w.heap E h'->(∀B key,HdK E w.heap E h' B key)->OR E h' id ao) :
 fq E H w E (H.put id ao) { w with heap:=w.heap.setIfInBounds (E.θ id).1 o' }/\bR E (H.put id ao) { w with heap:=w.heap.setIfInBounds (E.θ id).1 o' }:=by
 have gv:=gC r Y
 have l8: ∀b,b≠(E.θ id).1->({ w with heap:=w.heap.setIfInBounds (E.θ id).1 o' }:World).heap[b]?=w.heap[b]?:=fun b hb=>by
  grind
 refine Ez r Y ao ae l8 ⟨rfl,rfl,rfl⟩ (ho _ ?_ (mU r Y l8) fun B key=>r.VZ rfl (fun b _ hn=>l8 b fun e=>hn id o Y e.symm) B key)
 grind
theorem eX.set {h:Array Obj} {B t:Nat} {fw:List Nat} {ov jA:List (V×AV)} {n:Int} {v:AV} {ux:Value} (hx:VR E h v ux) (hv: ∀m,mA E.ρ m jA=if m=n then some v else mA E.ρ m ov): ∀{ds:List D} {bS:List MapEntry} {j:Nat} {e:MapEntry},
 (ds.map ji).Nodup->eX E h B t fw ov ds bS->bS[j]?=some e->e.key= .int .i64 n->eX E h B t fw jA ds (bS.set j { e with key:=.int .i64 n,val:=ux })
 |[],bS,j,e,_,he,hj,_=>by simp only [eX] at he; subst he; simp at hj
 |d::ds,bS,0,e,Aj,he,hj,hk=>by
  obtain⟨e0,r,m,rfl,U,Z,h3,h4⟩:=he;simp at hj;subst hj;have hm:m=n:=by rw [Z] at hk; simpa using hk
  subst hm;simp only [anG];refine⟨_,r,m,rfl,U,rfl,?_,?_⟩
  ·rw [hv,an rfl]; exact hx
  ·simp only [aK,anl] at Aj;have hk:ji d= .i m:=by rw [U]; rfl
   rw [hk] at Aj;exact eX.other hv Aj.1 h4
 |d::ds,bS,j+1,e,Aj,he,hj,hk=>by
  obtain⟨e0,r,m,rfl,U,Z,h3,h4⟩:=he;simp only [anH];simp only [aK,anl] at Aj;have Y9:ji d= .i m:=by rw [U]; rfl
  have Zb:r[j]?=some e:=by simpa using hj
  refine⟨e0,_,m,rfl,U,Z,?_,eX.set hx hv Aj.2 h4 Zb hk⟩
  have gb:m≠n:=by rintro rfl;rw [Y9] at Aj;exact Aj.1 (eX.DF h4 Zb hk)
  rw [hv,ak gb];exact h3
where
 eX.other {h:Array Obj} {B t:Nat} {fw:List Nat} {ov jA:List (V×AV)} {n:Int} {v:AV} (hv: ∀m,mA E.ρ m jA=if m=n then some v else mA E.ρ m ov): ∀{ds:List D} {bS:List MapEntry},D.i n∉ds.map ji->eX E h B t fw ov ds bS->eX E h B t fw jA ds bS
 |[],_,_,he=>he
 |d::ds,_,hn,⟨e0,r,m,h0,U,Z,h3,h4⟩=>by
  simp only [aK,aH,not_or] at hn;have Y9:ji d= .i m:=by rw [U]; rfl
  rw [Y9] at hn;refine⟨e0,r,m,h0,U,Z,?_,eX.other hv hn.2 h4⟩;rw [hv,ak (fun q=>hn.1 (by rw [q]))];exact h3
 eX.DF {h:Array Obj} {B t:Nat} {fw:List Nat} {ov:List (V×AV)} {n:Int}: ∀{ds:List D} {bS:List MapEntry} {j:Nat} {e:MapEntry},eX E h B t fw ov ds bS->bS[j]?=some e->e.key= .int .i64 n->D.i n∈ds.map ji
 |[],bS,j,e,he,hj,_=>by simp only [eX] at he; subst he; simp at hj
 |d::ds,bS,0,e,he,hj,hk=>by
  obtain⟨e0,r,m,rfl,U,Z,h3,h4⟩:=he;simp at hj;subst hj;rw [Z] at hk;have hm:m=n:=by simpa using hk
  subst hm;rw [U];simp [ji]
 |d::ds,bS,j+1,e,he,hj,hk=>by obtain⟨e0,r,m,rfl,U,Z,h3,h4⟩:=he;simp only [aK,aH];exact .inr (eX.DF h4 (by simpa using hj) hk)
theorem eX.push {h:Array Obj} {B t:Nat} {fw:List Nat} {ov jA:List (V×AV)} {n:Int} {v:AV} {ux:Value} {c:Nat} {x:D} (hx:VR E h v ux) (hv: ∀m,mA E.ρ m jA=if m=n then some v else mA E.ρ m ov): ∀{ds:List D} {bS:List MapEntry},D.i n∉ds.map ji->eX E h B t fw ov ds bS->
 eX E h B t fw jA (ds++ [.p (.i n) x]) (bS++ [{ key:=.int .i64 n,val:=ux,born:=c }])
 |[],bS,_,he=>by simp only [eX] at he;subst he;refine⟨_,[],n,rfl,rfl,rfl,?_,rfl⟩;rw [hv,an rfl]; exact hx
 |d::ds,bS,hn,he=>by
  obtain⟨e0,r,m,rfl,U,Z,h3,h4⟩:=he;simp only [aK,aH,not_or] at hn;have Y9:ji d= .i m:=by rw [U]; rfl
  rw [Y9] at hn;simp only [aX];refine⟨e0,_,m,rfl,U,Z,?_,eX.push hx hv hn.2 h4⟩;rw [hv,ak (fun q=>hn.1 (by rw [q]))];exact h3
theorem CX [bK] {tt:TT} (cP:eJ P tt) {s s':St} (r:bR E s.h w) (hp:bY E.ρ s.pc) {ty id t:Nat} {fw:List Nat} {ov:List (V×AV)} {m k x v:AV} {e:V} {um uk ux:Value} (hm:VR E w.heap m um) (hk:VR E w.heap k uk) (hx:VR E w.heap x ux) (hY:Fy m s.h=some (id,e,t,fw,ov)) (h:(AI tt ty id k x e t fw ov s).leaf E.ρ=some (v,s')) :
 s'.bG=s.bG/\bY E.ρ s'.pc/\v=AV.undef/\∃w',(Instr.mapUpdate ty um uk ux).run P w= .ok () w'/\fq E s.h w E s'.h w'/\bR E s'.h w':=by
 obtain⟨rfl,Y⟩:=Fx hY
 unfold AI at h;split at h
 ·simp [T.leaf] at h
 ·rename_i a ie hmk;obtain⟨kt,et,dt,hu,rv,jG,lG,rfl⟩:=Ir cP hk hmk;obtain⟨g0,bS,c',g1,g2⟩:=AB r Y;have hg:=gW (P:=P) g1 ae;simp only [VR] at hm;obtain⟨rfl,hid⟩:=hm;have hf:=Az (i:=0) jG (a.den E.ρ) g2;obtain⟨ga,fS,U⟩:=Ip hp h;rcases U with ⟨ho,U⟩|⟨jA,⟨u',ho⟩,⟨hv,My⟩,U⟩
  ·obtain⟨ky,kf,Z⟩:=cI fS U;rw [xo] at Z;simp only [V.den,fX.den,sM] at Z;rcases hf with ⟨q1,q0,q2,q3⟩|⟨j,y,en,q1,_⟩
   ·rw [q1] at Z;have:=bF Z;simp only [au] at this;obtain⟨rfl,rfl⟩:=this;refine⟨rfl,kf,rfl,_,?_,zy r Y (.uC (.op .zX e (eL (nV a) (.eD (.i 0)))) t fw ((a,x)::ov)) (.map (bS.push { key:=.int .i64 (a.den E.ρ),val:=ux,born:=c' }) (c'+1)) ?_⟩
    ·simp [Instr.mapUpdate,run_underlying hu,hg,e8 rv jG,eU rv q2,iA (P:=P) g1]
    ·intro h' hh kp hk
     have qn:dec ((V.op .zX e (eL (nV a) (.eD (.i 0)))).den E.ρ)=dL (jP (dec (e.den E.ρ)).l (.i (a.den E.ρ)) (.i 0)):=by simp only [eL,V.den,fX.den,bD,sM]
     have tC: ∀m,mA E.ρ m ((a,x)::ov)=if m=a.den E.ρ then some x else mA E.ρ m ov:=by
      intro m;simp only [mA];by_cases hm:a.den E.ρ=m
      ·rw [an hm,an hm.symm]
      ·rw [ak hm,ak (fun q=>hm q.symm)]
     simp only [OR];rw [qn,bE,q3];refine⟨⟨?_,fun p hp=>?_,?_⟩,_,_,hh,?_⟩
     ·rw [ank,anY];refine⟨g0.1,ae,fun p hp q hq=>?_⟩;simp only [aK,aoC,aoz] at hq;rw [hq];intro eq;rw [eq] at hp;exact q0 hp
     ·rw [ank,am2];rcases aH.1 hp with rfl|hp
      ·exact .inr (by simp [ji])
      ·exact .inl (g0.2.1 p hp)
     ·simp only [aK,anl];exact⟨Jt ho,g0.2.2⟩
     ·rw [Array.toList_push];exact eX.push (VR.cx kp _ _ hx) tC q0 (g2.cx kp fun _ _=>hk _ _)
   ·rw [q1] at Z;simp [T.leaf] at Z
  ·have:=bF U;simp only [au] at this;obtain⟨rfl,rfl⟩:=this;rcases hf with ⟨_,q2,_,_⟩|⟨j,y,en,q1,q2,q3,q4,q5,q6,q7,q8,q9⟩
   ·exact absurd (g0.at ho) q2
   ·simp only [aL] at q7
    have hkt:(Instr.keyThatStays (((bS[j]?).map (·.key)).getD (.int .i64 (a.den E.ρ))) (.int .i64 (a.den E.ρ))).run P w= .ok (.int .i64 (a.den E.ρ)) w:=by have q3':=q3;rw [amZ] at q3';simp only [q3',am4,ay,Instr.keyThatStays];rw [an (q8 9999)];rfl
    refine⟨rfl,fS,rfl,_,?_,zy r Y (.uC e t fw jA) (.map (bS.modify j fun e=>{ e with key:=.int .i64 (a.den E.ρ),val:=ux }) c') ?_⟩
    ·simp [Instr.mapUpdate,run_underlying hu,hg,e8 rv jG,eU rv q7,hkt,iA (P:=P) g1]
    ·intro h' hh kp hk;simp only [OR];refine⟨⟨g0.1,fun p hp=>?_,?_⟩,_,_,hh,?_⟩
     ·have:p.1∈jA.map (·.1):=bd.2 ⟨p,hp,rfl⟩;rw [My] at this;obtain⟨q,hq,he⟩:=bd.1 this;rw [<- he];exact g0.2.1 q hq
     ·have U:(jA.map fun p=>p.1.den E.ρ)=(jA.map (·.1)).map fun x=>x.den E.ρ:=by rw [anv]; rfl
      rw [U,My,anv];exact g0.2.2
     ·rw [yI bS j en _ q3];exact eX.set (VR.cx kp _ _ hx) hv g0.1 (g2.cx kp fun _ _=>hk _ _) q3 q5
end
section
variable {P:Program} {E:En} {w:World}
theorem YB [bK] {tt:TT} (cP:eJ P tt) {H:Hp} (r:bR E H w) {t e k:Nat} {i ie:TI} {k1 k2:IntKind} (hi:tt t=some i) (hk:i.kind= .slice e) (lG:tt e=some ie) (hz0:ie.zero.length=ie.size) (vZ:0<ie.size) (sv:ie.bytes≠0) (Fi:ie.bytes*k<=140737488355328) (ml:0<k) :
 ∃x w' E',(Instr.makeSlice t (.int k1 k) (.int k2 k)).run P w= .ok x w'/\fq E H w E' (H.new (.cells (dQ ie.zero k) e)) w'/\bR E' (H.new (.cells (dQ ie.zero k) e)) w'/\VR E' w'.heap (.slice H.fresh 0 k (.rest ie.size)) x:=by
 have fB:=cP t i hi;have YX:=cP e ie lG;obtain⟨inf,z,g1,g2,g3,g4,g5⟩:=xl YX;have hz:=fm (E:=E) (h:=w.heap) g5;have tB:z.cells.size=ie.size:=by have:=hz.1.length; simp only [bo] at this; omega
 have hkb:k<=140737488355328:=by refine bq ?_ Fi;exact Nat.le_mul_of_pos_left _ J
 have wn:IntKind.i64.wrap (k:Int)=(k:Int):=by rw [<- mr]; simp only [vh]; rw [an (by constructor<;>omega)]
 have ai: ∀(q:IntKind) (x:Int) (w:World),(asInt (Value.int q x)).run P w= .ok x w:=fun _ _ _=>rfl
 have gb:z.cells.toList≠[]:=by
  intro hx;have VW:z.cells.size=0:=by have:=congrArg List.length hx; simpa using this
  omega
 have hzz:=vA z.cells gb k;rw [tB] at hzz;obtain⟨hD,e1⟩ : ∃hD:Array Value,((Array.range (k*inf.size)).map (z.cells[·% z.cells.size]!))=hD:=⟨_,rfl⟩
 have kR:hD.toList=dQ z.cells.toList k:=by
  grind
 have e2:cC E w.heap (dQ ie.zero k) hD.toList:=by rw [kR]; exact mR hz.1 k
 have e3: ∀u∈hD.toList,u.oneCell'=true:=by rw [kR]; intro u hu; exact hz.2 u (mQ hu)
 have iR:hD.size=k*ie.size:=by rw [<- bo,kR,jD,bo,tB]
 refine⟨.slice (some ⟨w.heap.size,0,none⟩) k k,{ w with heap:=w.heap.push (.cells hD e) },E.ext H.fresh (w.heap.size,0) hD.size,?_,?_⟩
 ·have t1: ¬((k:Int)<0):=J
  have t2: ¬((inf.bytes:Int)*(k:Int) > 2 ^ 48):=by
   grind
  have t4: ¬((k:Int) > (k:Int)):=J
  have t5:(askRoom (k*inf.bytes)).run P w= .ok () w:=by
   have: ¬(k*inf.bytes > roomBytes):=by
    unfold roomBytes
    grind
   unfold askRoom;rw [ak this];rfl
  have t6:(k:Int).toNat=k:=rfl
  have h0: ¬(k*inf.size=0):=by rw [g2];have:=anX ml vZ;omega
  simp only [Instr.makeSlice,Sem.run_bind,run_underlying (fK fB hk),Result.andThen_ok,ai,sizeOf,typeInfo,zeroValue,run_program,g1,g4,Sem.run_pure,newRow,Sem.run_ite,wn,t1,t2,t4,t6,h0,decide_false,an7,aG,if_false];rw [t5,Result.andThen_ok,e1];rfl
 ·obtain⟨s1,s2⟩:=jt r hD 0 0 e e2 e3 (fun i u hu=>by rw [<- amZ]; exact hu) J (w':={ w with heap:=w.heap.push (.cells hD e) }) rfl ⟨rfl,rfl,rfl⟩;refine⟨s1,s2,?_⟩;simp only [VR];refine⟨En.gX _ _ _ _,⟨w.heap.size,0,none⟩,k,rfl,az _,?_⟩;simp only [eY,En.ext_θ_new,En.ext_κ_new]
  grind
theorem PI [bK] {tt:TT} (cP:eJ P tt) {s s':St} (r:bR E s.h w) (hp:bY E.ρ s.pc) {t:Nat} {l c v:AV} {lu cu:Value} (Y:VR E w.heap l lu) (hc:VR E w.heap c cu) (h:(Kl tt t l c s).leaf E.ρ=some (v,s')) :
 s'.bG=s.bG/\bY E.ρ s'.pc/\∃x w' E',(Instr.makeSlice t lu cu).run P w= .ok x w'/\fq E s.h w E' s'.h w'/\bR E' s'.h w'/\VR E' w'.heap v x:=by
 unfold Kl at h;split at h
 ·rename_i k n;split at h
  ·rename_i k2 n2;split at h
   ·simp [T.leaf] at h
   ·rename_i hnn;have hnn:=cR _ _ hnn;subst hnn;simp only [VR] at Y hc;subst Y hc;split at h
    ·simp [T.leaf] at h
    ·rename_i i hi;split at h
     ·simp [T.leaf] at h
     ·rename_i o ho;split at h
      ·rename_i e hk;split at h
       ·simp [T.leaf] at h
       ·rename_i ie lG;split at h
        ·simp [T.leaf] at h
        ·rename_i z hz;split at h
         ·rename_i jS;obtain⟨l9,vZ,sv,tB⟩:=jS;obtain⟨ga,fS,U⟩:=cI hp h;split at U
          ·simp [T.leaf] at U
          ·rename_i t1;obtain⟨ky,kf,Z⟩:=cI (s:={ s with pc:=ga }) fS U;split at Z
           ·rename_i t2;split at Z
            ·rename_i v0 h0 hm;have:=bF Z;simp only [au] at this;obtain⟨rfl,rfl⟩:=this;rw [iU,beq_iff_eq] at t2;simp only [V.den] at t2;rw [t2];obtain⟨x,w',E',q1,q2,q3,q4⟩:=wB (P:=P) cP r (lu:=.int k 0) (cu:=.int k2 0) (by simp only [VR,V.den]) (by simp only [VR,V.den]) hm
             grind
            ·simp [T.leaf] at Z
           ·rename_i t2;obtain⟨VT,JQ,h3⟩:=cI (s:={ s with pc:=ky }) kf Z;split at h3
            ·rename_i t3;have:=bF h3;simp only [au] at this;obtain⟨rfl,rfl⟩:=this;rw [dX,decide_eq_false_iff_not] at t1;rw [iU,beq_eq_false_iff_ne] at t2;rw [dX,decide_eq_true_eq] at t3;simp only [V.den] at t1 t2 t3;obtain⟨m,hm⟩ : ∃m:Nat,n.den E.ρ=(m:Int):=⟨(n.den E.ρ).toNat,J⟩;rw [hm] at t2 t3 ⊢;have ml:0<m:=J
             have Fi:ie.bytes*m<=140737488355328:=by
              unfold rP at t3
              have U:m<=140737488355328 / ie.bytes:=by
               grind
              exact bq (Nat.mul_le_mul_left _ U) (Nat.mul_div_le _ _)
             obtain⟨x,w',E',q1,q2,q3,q4⟩:=YB (P:=P) (k1:=k) (k2:=k2) cP r hi hk lG tB vZ sv Fi ml;have hρ:=q2.ρ
             have W:dec ((V.op .rep n z).den E'.ρ)=dL (List.replicate m (dec (z.den E'.ρ))):=by
              have:n.den E'.ρ=(m:Int):=by rw [hρ]; exact hm
              simp only [V.den,fX.den,bD,this,br]
             have hlen:(dec ((V.op .rep n z).den E'.ρ)).l.length=m:=by rw [W,bE,anu]
             have hwz:qQ (rowOf o) (dec (z.den E'.ρ)):=uQ hz
             have DK:(cQ E'.ρ (.op .rep n z) o []).length=(dQ ie.zero m).length:=by unfold cQ;rw [cE (kX _),hlen,jD,tB,l9]
             have afF: ∀(q:Nat) (us:List Value),cC E' w'.heap (dQ ie.zero q) us->cC E' w'.heap (bH E'.ρ (rowOf o) [] (List.replicate q (dec (z.den E'.ρ))) 0) us:=by
              intro q
              induction q with
              |zero=>intro us h; exact h
              |succ q ih=> intro us h;simp only [dQ] at h;obtain⟨us1,us2,rfl,a,b⟩:=cC.split h;simp only [aoA,bH,ed];rw [lj _ 1 0];refine cC.append ?_ (ih _ b);rw [gG];simp only [V.den,bD];exact uR a hz
             have r2:=DD (e1:=.op .rep n z) (t:=o) q3 ⟨by rw [W,bE],fun d Fh=>by
              rw [W,bE] at Fh;rw [aoU Fh]
              exact hwz,fun hq=>by rw [hq] at hlen; simp at hlen; omega⟩ DK (fun us hu=>by
              unfold cQ;rw [W,bE]
              exact afF m us hu)
             refine⟨rfl,JQ,x,w',E',q1,q2.right (xe rfl rfl fun _=>rfl),r2,?_⟩;simp only [VR] at q4 ⊢;obtain⟨p1,a,cap,p2,p3,p4⟩:=q4;refine⟨p1,m,a,cap,by rw [cD,hlen],p2,p3,?_⟩
             grind
            ·simp [T.leaf] at h3
         ·simp [T.leaf] at h
      ·simp [T.leaf] at h
  ·simp [T.leaf] at h
 ·simp [T.leaf] at h
end
theorem KW {α β:Type} (f:α->β) (xs:Array α):xs.map f=(xs.toList.map f).toArray:=by
 grind
def oY (P:Program) (R:Value->World->Prop):Result Next->Prop
 | .ok (.value u) w'=>R u w'
 | .ok (.enter f args) w'=>Calls P f args w' fun e w''=> ∃u,e= .returned u/\R u w''
 |_=>False
def mz (P:Program) (g:FuncId) (vals:Array Value) (w:World) (R:Value->World->Prop):Prop:=oY P R ((callFunc g vals).run P w)
def kQ [bK] (P:Program) (g:FuncId) (f:List AV->St->T (AV×St)):Prop:=
 ∀(args:List AV) (s:St) (E:En) (w:World) (vals:List Value) (v:AV) (s':St),bR E s.h w->cC E w.heap args vals->bY E.ρ s.pc->(f args s).leaf E.ρ=some (v,s')->
  s'.bG=s.bG/\bY E.ρ s'.pc/\mz P g vals.toArray w (NY E s w v s')
theorem Ad {E:En} {h:Array Obj} {k:Nat} {e:V} {i:Nat} (he:e.den E.ρ=(i:Int)): ∀(ks:List IntKind) (j:Nat),
 cC E h (vW k e ks j) ((ks.zipIdx j).map fun p=> .int p.1 (E.ρ (1000+i*64+(k*8+p.2))))
 |[],j=>by simp [vW,cC]
 |kd::ks,j=>by simp only [vW,List.zipIdx_cons,aK];rw [bW];refine⟨_,_,rfl,?_,Ad he ks (j+1)⟩;simp only [VR,V.den,he,br]
theorem PM {P:Program} {E:En} {w:World} {tt:TT} (cP:eJ P tt) {pc:List (SB×Bool)} (hp:bY E.ρ pc) {t k:Nat} {ks:List IntKind} {ix v:AV} {u ui:Value} (hx:VR E w.heap (.ya k ks) u) (An:VR E w.heap ix ui)
 (h:Km tt pc t k ks ix=some v): ∃r,(Instr.indexAt t u ui).run P w= .ok r w/\VR E w.heap v r:=by
 unfold Km at h;split at h
 ·rename_i kd e;split at h
  ·rename_i ti fB;split at h
   ·rename_i el hk;have hu:=fK (cP t ti fB) hk;split at h
    ·rename_i s hs;simp only [iW,aZ] at hs;obtain⟨ie,lG,rfl⟩:=hs;split at h
     ·rename_i hc;split at h
      ·rename_i U Z;simp at h;subst h;have U:=gY hp U;have Z:=gY hp Z;rw [dX,decide_eq_false_iff_not] at U;rw [dX,decide_eq_true_eq] at Z;simp only [V.den,anB] at U Z;simp only [VR] at hx An;subst An;rcases hx with ⟨⟨x,cap,rfl⟩,h0⟩|⟨b,o,n,cap,rfl,g1,g2,g3,g4⟩
       ·omega
       ·obtain⟨i,hi⟩ : ∃i:Nat,e.den E.ρ=(i:Int):=⟨(e.den E.ρ).toNat,J⟩;have Ao:i<n:=J
        refine⟨.pointer (some ⟨b,o+i*ie.size,none⟩),?_,?_⟩
        ·rw [hi];simp [Instr.indexAt,asIntOf,run_underlying hu,eE (cP el ie lG),Ao,fD]
        ·simp only [VR];refine⟨b,_,_,rfl,g3,Ad hi ks 0,?_,?_⟩
         ·intro j u hj
          grind
         ·intro u hu';rw [bd] at hu';obtain⟨p,_,rfl⟩:=hu';rfl
      grind
     grind
    grind
   grind
  grind
 grind
def qOp (q:Bool):BinOp:=match q with
 |true=> .quo
 |false=> .rem
def aas (q:Bool) (k:IntKind) (x y:Int):Int:=match q with
 |true=>k.wrap (x.tdiv y)
 |false=>x.tmod y
theorem aar {E:En} {s s':St} {q:Bool} {k:IntKind} {e d:V} {v:AV} (hp:bY E.ρ s.pc) (h:(ae9 s q k e d).leaf E.ρ=some (v,s')) :
 s'.bG=s.bG/\s'.h=s.h/\bY E.ρ s'.pc/\d.den E.ρ≠0/\∀h,VR E h v (.int k (aas q k (e.den E.ρ) (d.den E.ρ))):=by
 unfold ae9 at h;obtain⟨ef,fU,h3⟩:=cI hp h;rw [hJ] at h3;split at h3
 ·grind [T.leaf]
 ·rename_i he;simp only [T.leaf,aq,au] at h3;obtain⟨rfl,rfl⟩:=h3;simp only [V.den,beq_eq_false_iff_ne,ne_eq] at he;exact⟨rfl,rfl,fU,he,fun h=>by cases q<;>simp only [VR,V.den,aas]⟩
theorem Uu {E:En} {h:Array Obj} {op:BinOp} {a b:AV} {q:Bool} {k:IntKind} {e d:V} (hr:OQ op a b=some (q,k,e,d)) {u u':Value} (ha:VR E h a u) (hb:VR E h b u') :
 op=qOp q/\u= .int k (e.den E.ρ)/\u'= .int k (d.den E.ρ):=by
 unfold OQ at hr;split at hr
 ·rename_i q' hq
  have mI:op=qOp q':=by split at hq<;>simp only [aq,reduceCtorEq] at hq<;>subst hq<;>rfl
  cases a with
  |int k1 e1=>
   cases b with
   |int k2 e2=>
    simp only at hr;split at hr
    ·simp at hr
    ·split at hr
     ·rename_i hc;simp only [aq,au] at hr;obtain⟨rfl,rfl,rfl,rfl⟩:=hr;simp only [VR] at ha hb;exact⟨mI,ha,by rw [hb,hc]⟩
     ·simp at hr
   |_=>simp at hr
  |_=>simp at hr
 ·simp at hr
theorem G0 {E:En} {YY:Array Obj} {s s':St} {h:Option AV} {hh:Option Value} {v:AV} {k:Option AV->St->T (AV×St)} (hp:bY E.ρ s.pc) (ho:gI E YY h hh) (H:(IZ s h k).leaf E.ρ=some (v,s')) :
 ∃ef h',bY E.ρ ef/\gI E YY h' hh/\(k h' { s with pc:=ef }).leaf E.ρ=some (v,s'):=by
 unfold IZ at H;split at H
 ·rename_i e;obtain⟨ef,fU,h3⟩:=cI hp H;rw [hJ] at h3;split at h3
  ·rename_i he;simp only [V.den,beq_iff_eq] at he;obtain⟨u,rfl,hu⟩:=ho;simp only [VR] at hu;refine⟨ef,some (.int .i64 (.lit 0)),fU,?_,h3⟩;exact⟨u,rfl,by simp only [VR,V.den]; rw [hu,he]⟩
  ·simp [T.leaf] at h3
 ·exact⟨s.pc,_,hp,ho,H⟩
def iT [bK] (P:Program) (call:eu):Prop:= ∀g,kQ P g (call g)
theorem p9.next {P:Program} {o:Oper} {a:Act} {w:World} {R:Value->World->Prop} (h:oY P R ((execOp a.eval o).run P w)):p9 P o a w R:=by
 intro K Q hk;unfold Oper.wp;generalize (execOp a.eval o).run P w=r at h
 cases r with
 |halt x w'=>exact h.elim
 |ok n w'=>
  cases n<;>first
   |exact h.elim
   |exact hk _ _ h
   |(exact Calls.mono h fun e w'' ⟨u,he,hr⟩=>by subst he; exact hk _ _ hr)
theorem Gf {tt:TT} {t n:Nat} {ix:AV} {e:V} (h:Tx tt t ix=some (n,e)): ∃k ti el ie,ix= .int k e/\tt t=some ti/\ti.kind= .array n el/\tt el=some ie/\ie.size=1/\ie.agg=false:=by
 unfold Tx at h;split at h
 all_goals grind
section
variable {P:Program} {E:En} {w:World} {s s':St} {o:Oper} {a:Act} {v:AV}
theorem Kw [bK] {tt:TT} (cP:eJ P tt) (r:bR E s.h w) (hp:bY E.ρ s.pc) {b:Builtin} {ts:List Nat} {args:List AV} {vals:List Value} (hv:cC E w.heap args vals) (ty:Nat) (cs:Array Bool)
 (h:(xw tt s b ts args).leaf E.ρ=some (v,s')):s'.bG=s.bG/\bY E.ρ s'.pc/\∃u w',(builtin b ts.toArray ty cs vals.toArray).run P w= .ok (.value u) w'/\NY E s w v s' u w':=by
 unfold xw at h;split at h
 ·rename_i t x;obtain⟨e1,rfl⟩:=iE h;rw [bW] at hv;obtain⟨u,vs,rfl,hx,nM⟩:=hv;rw [iG] at nM;subst nM;obtain⟨y,U,Z⟩:=ZB (ty:=ty) cP r hx e1;exact⟨rfl,hp,y,w,by simp [builtin,U],E,fq.refl _ _ _,r,Z⟩
 ·rename_i t t2 id lo n t' y;rw [bW] at hv;obtain⟨u,vs,rfl,hx,nM⟩:=hv;rw [bW] at nM;obtain⟨u2,vs,rfl,hy,H4⟩:=nM;rw [iG] at H4;subst H4;split at h
  ·rename_i hz;obtain⟨q1,q2,z,w',E',U,Z,h3,h4⟩:=M4 (ty:=ty) cP r hp hz hx hy h;exact⟨q1,q2,z,w',by simp [builtin,U],E',Z,h3,h4⟩
  grind [T.leaf]
 ·rename_i t t2 x y _;rw [bW] at hv;obtain⟨u,vs,rfl,hx,nM⟩:=hv;rw [bW] at nM;obtain⟨u2,vs,rfl,hy,H4⟩:=nM;rw [iG] at H4;subst H4;split at h
  ·rename_i aaV;obtain⟨q1,q2,z,w',E',U,Z,h3,h4⟩:=Ky (ty:=ty) cP r hp hx hy (fun W=>by rw [W,an7] at aaV; exact Mk hx aaV) h;exact⟨q1,q2,z,w',by simp [builtin,U],E',Z,h3,h4⟩
  obtain⟨H,e1,rfl⟩:=qi h;obtain⟨z,w',E',U,Z,h3,h4⟩:=M3 (ty:=ty) cP r hx hy e1;exact⟨rfl,hp,z,w',by simp [builtin,U],E',Z,h3,h4⟩
 ·rename_i t ts' m k;rw [bW] at hv;obtain⟨u,vs,rfl,hx,nM⟩:=hv;rw [bW] at nM;obtain⟨u2,vs,rfl,hy,H4⟩:=nM;rw [iG] at H4;subst H4;split at h
  ·rename_i id e t' hY
   obtain⟨q1,q2,rfl,w',U,Z,h3⟩:=Vk (ts:=ts') cP r hx hy hY h ty;exact⟨q1,by rw [q2]; exact hp,.tuple #[],w',by simp [builtin,U],E,Z,h3,by simp only [AV.undef,VR,cC]; exact⟨[],rfl,rfl⟩⟩
  obtain⟨ef,fU,h⟩:=rb hp h;obtain⟨H,e1,rfl,rfl⟩:=zJ h;obtain⟨w',U,Z,h3⟩:=MZ (ts:=ts') cP fU r hx hy e1 ty;exact⟨rfl,fU,.tuple #[],w',by simp [builtin,U],E,Z,h3,by simp only [AV.undef,VR,cC]; exact⟨[],rfl,rfl⟩⟩
 ·rename_i t id n t';rw [bW] at hv;obtain⟨u,vs,rfl,hx,nM⟩:=hv;rw [iG] at nM;subst nM;obtain⟨q1,q2,rfl,w',E',U,Z,h3⟩:=CY (ty:=ty) cP r hp (Rf hx) h;exact⟨q1,q2,.tuple #[],w',by simp [builtin,U],E',Z,h3,by simp only [AV.undef,VR,cC]; exact⟨[],rfl,rfl⟩⟩
 ·rename_i t id lo n t';rw [bW] at hv;obtain⟨u,vs,rfl,hx,nM⟩:=hv;rw [iG] at nM;subst nM;obtain⟨q1,q2,rfl,w',E',U,Z,h3⟩:=CY (ty:=ty) cP r hp hx h;exact⟨q1,q2,.tuple #[],w',by simp [builtin,U],E',Z,h3,by simp only [AV.undef,VR,cC]; exact⟨[],rfl,rfl⟩⟩
 ·rename_i t x _ _;obtain⟨H,e1,rfl,rfl⟩:=zJ h;rw [bW] at hv;obtain⟨u,vs,rfl,hx,nM⟩:=hv;rw [iG] at nM;subst nM;obtain⟨w',U,Z,h3⟩:=PU (ty:=ty) cP r hx e1;exact⟨rfl,hp,.tuple #[],w',by simp [builtin,U],E,Z,h3,by simp only [AV.undef,VR,cC]; exact⟨[],rfl,rfl⟩⟩
 ·rename_i k e xs;rw [bW] at hv;obtain⟨u,vs,rfl,hx,nM⟩:=hv;simp only [VR] at hx;subst hx;obtain⟨q1,q2,q3,u,q4,q5⟩:=n6 (P:=P) (w:=w) hp nM h;refine⟨q2,q3,u,w,?_,E,by rw [q1]; exact fq.refl _ _ _,by rw [q1]; exact r,q5⟩;simp only [aG,if_false] at q4;simp [builtin,Builtin.min_,q4]
 ·rename_i k e xs;rw [bW] at hv;obtain⟨u,vs,rfl,hx,nM⟩:=hv;simp only [VR] at hx;subst hx;obtain⟨q1,q2,q3,u,q4,q5⟩:=n6 (P:=P) (w:=w) hp nM h;refine⟨q2,q3,u,w,?_,E,by rw [q1]; exact fq.refl _ _ _,by rw [q1]; exact r,q5⟩;simp only [if_true] at q4;simp [builtin,Builtin.max_,q4]
 grind [T.leaf]
theorem Vl [bK] {tt:TT} (cP:eJ P tt) {call:eu} (hc:iT P call) (r:bR E s.h w) (sr:SR E w.heap s.bG a) (hp:bY E.ρ s.pc) {c:Call} (ho:o.op= .call c)
 (h:(Kv tt call s c).leaf E.ρ=some (v,s')):lN P E s o a w v s':=by
 unfold Kv at h;split at h
 ·grind [T.leaf]
 ·rename_i args acZ;have hv:=Kc sr acZ;have ajc:c.args.map a.eval=(c.args.toList.map a.eval).toArray:=KW _ _;split at h
  ·rename_i b afN;obtain⟨q1,q2,u,w',q3,q4⟩:=Kw cP r hp hv o.type (c.args.map fun| .const _=>true|_=>false) h;refine⟨q1,q2,p9.value ?_ q4⟩;simp only [execOp,ho,resolve,afN,Sem.run_bind,Sem.run_pure,Result.andThen_ok,invoke,ajc];exact q3
  ·rename_i f afN;split at h
   ·rename_i g fs cs hf;have hfv:=gF sr hf;simp only [VR] at hfv;obtain⟨us,ws,he,U,Z⟩:=hfv;obtain⟨q1,q2,q3⟩:=hc g _ s E w _ v s' r ((U.append hv).append Z) hp h;refine⟨q1,q2,p9.next ?_⟩;unfold mz at q3;simp only [execOp,ho,resolve,afN,Sem.run_bind,he,Deferred.ofValue,Sem.run_pure,Result.andThen_ok,invoke,ajc]
    grind
   grind [T.leaf]
  grind [T.leaf]
theorem w! [bK] {α:Type} {E:En} {h:Array Obj} {v:AV} {u:Value} {s:St} {k:AV->St->T α} {r:α} (hp:bY E.ρ s.pc) (hv:VR E h v u) (Y:(w? v s k).leaf E.ρ=some r) :
 ∃v' ef,bY E.ρ ef/\VR E h v' u/\(k v' { s with pc:=ef }).leaf E.ρ=some r:=by
 unfold w? at Y;split at Y
 ·split at Y
  ·exact⟨_,s.pc,hp,hv,Y⟩
  ·obtain⟨ga,fS,U⟩:=cI hp Y;refine⟨_,ga,fS,?_,U⟩;simp only [VR,SB.den] at *;exact hv
 ·exact⟨_,s.pc,hp,hv,Y⟩
theorem SP [bK] {tt:TT} (cP:eJ P tt) {call:eu} (hc:iT P call) (r:bR E s.h w) (sr:SR E w.heap s.bG a) (hp:bY E.ρ s.pc) (h:(Kk tt call s o.op).leaf E.ρ=some (v,s')):lN P E s o a w v s':=by
 obtain⟨dst,op,type,pos,after,guard⟩:=o;simp only at h;cases op<;>simp only [Kk] at h<;>first |(simp [T.leaf] at h; done)|skip
 case move x=>
  obtain⟨u,U,Z⟩:=ij sr h;have:=bF Z;simp only [au] at this;obtain⟨rfl,rfl⟩:=this;exact lN.pure hp r (u:=a.eval x) rfl U
 case assign x=>
  obtain⟨u,U,Z⟩:=ij sr h;have:=bF Z;simp only [au] at this;obtain⟨rfl,rfl⟩:=this;exact lN.pure hp r (u:=a.eval x) rfl U
 case pick c x y=>
  obtain⟨cv,U,Z⟩:=ij sr h;split at Z
  ·rename_i cb;obtain⟨ef,fU,h3⟩:=cI hp Z;simp only [VR] at U;cases Su:cb.den E.ρ<;>rw [Su] at U h3
   ·simp only [aG,if_false] at h3;obtain⟨u,h4,h5⟩:=ij (s:={ s with pc:=ef }) sr h3;have:=bF h5;simp only [au] at this;obtain⟨rfl,rfl⟩:=this;exact⟨rfl,fU,p9.value (u:=a.eval y) (by simp [execOp,U,asBool]) ⟨E,fq.refl _ _ _,r,h4⟩⟩
   ·simp only [if_true] at h3;obtain⟨u,h4,h5⟩:=ij (s:={ s with pc:=ef }) sr h3;have:=bF h5;simp only [au] at this;obtain⟨rfl,rfl⟩:=this;exact⟨rfl,fU,p9.value (u:=a.eval x) (by simp [execOp,U,asBool]) ⟨E,fq.refl _ _ _,r,h4⟩⟩
  ·simp [T.leaf] at Z
 case alloc t=>
  split at h
  ·rename_i i hi;have:=bF h;simp only [au] at this;obtain⟨rfl,rfl⟩:=this;obtain⟨inf,z,g1,g2,g3,g4,g5⟩:=xl (cP t i hi);have hz:=fm (E:=E) (h:=w.heap) g5;obtain⟨s1,s2⟩:=jt r z.cells 0 0 t hz.1 hz.2 (fun i u hu=>by rw [<- amZ]; exact hu) J (w':={ w with heap:=w.heap.push (.cells z.cells t) }) rfl ⟨rfl,rfl,rfl⟩;exact lN.heap hp (u:=.pointer (some ⟨w.heap.size,0,none⟩)) (by simp [execOp,Instr.alloc,zeroValue,typeInfo,g1,g4,newVar,newRow]) s1 s2 (Jo r _ _ 0)
  ·simp [T.leaf] at h
 case box t x=>
  obtain⟨u,U,Z⟩:=ij sr h;split at Z
  ·rename_i xM;have:=bF Z;simp only [au] at this;obtain⟨rfl,rfl⟩:=this;have N6:=U.cells xM;obtain⟨s1,s2⟩:=jt r (a.eval x).cells 0 0 t N6 (N6.sV xM) (fun i u hu=>by rw [<- amZ]; exact hu) J (w':={ w with heap:=w.heap.push (.cells (a.eval x).cells t) }) rfl ⟨rfl,rfl,rfl⟩;exact lN.heap hp (u:=.pointer (some ⟨w.heap.size,0,none⟩)) (by simp [execOp,Instr.box,newVar,newRow]) s1 s2 (Jo r _ _ 0)
  ·simp [T.leaf] at Z
 case build t parts=>
  split at h
  ·rename_i ps hps;obtain⟨e1,rfl⟩:=iE h;have hpr:=yV sr hps;obtain⟨x,U,Z⟩:=PW (w:=w) (ps:=parts.map fun p=>(p.1,a.eval p.2)) cP (by simpa using hpr) e1;exact lN.pure hp r (u:=x) (by simp [execOp,U]) Z
  ·simp [T.leaf] at h
 case buildSlice t len parts=>
  split at h
  ·rename_i ps hps;obtain⟨H,e1,rfl⟩:=qi h;have hpr:=yV sr hps;obtain⟨x,w',E',U,Z,h3,h4⟩:=Df (ps:=parts.map fun p=>(p.1,a.eval p.2)) cP r (by simpa using hpr) e1;exact lN.heap hp (u:=x) (by simp [execOp,U]) Z h3 h4
  ·simp [T.leaf] at h
 case makeSlice t l c=>
  obtain⟨u,U,Z⟩:=ij sr h;split at Z
  ·rename_i cv hc;split at Z
   ·rename_i q hq;obtain⟨H,e1,rfl⟩:=qi Z;simp only [aq] at e1;subst e1;obtain⟨x,w',E',g1,g2,g3,g4⟩:=wB cP r U (gF sr hc) hq;exact lN.heap hp (u:=x) (by simp [execOp,g1]) g2 g3 g4
   ·obtain⟨q1,q2,x,w',E',g1,g2,g3,g4⟩:=PI cP r hp U (gF sr hc) Z;exact⟨q1,q2,p9.value (by simp [execOp,g1]) ⟨E',g2,g3,g4⟩⟩
  ·simp [T.leaf] at Z
 case insert t m k x=>
  obtain⟨u,U,Z⟩:=ij sr h;split at Z
  ·rename_i kv xv hk hx;split at Z
   ·obtain⟨q1,q2,rfl,w',E',g1,g2,g3⟩:=Iu (P:=P) cP r hp U (gF sr hk) (gF sr hx) Z;exact⟨q1,q2,p9.skip (by simp [execOp,g1]) ⟨E',g2,g3,mf⟩⟩
   split at Z
   ·rename_i hY
    obtain⟨q1,q2,rfl,w',g1,g2,g3⟩:=CX (P:=P) cP r hp U (gF sr hk) (gF sr hx) hY Z;exact⟨q1,q2,p9.skip (by simp [execOp,g1]) ⟨E,g2,g3,mf⟩⟩
   obtain⟨ef,fU,Z⟩:=rb hp Z;obtain⟨H,e1,rfl,rfl⟩:=zJ Z;obtain⟨w',g1,g2,g3⟩:=wA cP fU r U (gF sr hk) (gF sr hx) e1;exact⟨rfl,fU,p9.skip (by simp [execOp,g1]) ⟨E,g2,g3,mf⟩⟩
  ·simp [T.leaf] at Z
 case load t x=>
  obtain⟨u,U,Z⟩:=ij sr h;split at Z
  ·obtain⟨q1,q2,q3,y,b,off,g1,g2,g3⟩:=PL cP r hp U Z;exact⟨q1,q3,p9.value (u:=y) (by simp [execOp,Instr.loadAt,g1,Instr.sureAddr,g2]) ⟨E,by rw [q2]; exact fq.refl _ _ _,by rw [q2]; exact r,g3⟩⟩
  obtain⟨e1,rfl⟩:=iE Z;obtain⟨y,b,off,g1,g2,g3⟩:=B7 cP r U e1;exact lN.pure hp r (u:=y) (by simp [execOp,Instr.loadAt,g1,Instr.sureAddr,g2]) g3
 case store t x y=>
  obtain⟨u,U,Z⟩:=ij sr h;split at Z
  ·rename_i yv hy;obtain⟨yv',ef,fU,Pc,Z⟩:=w! hp (gF sr hy) Z;split at Z
   ·obtain⟨q1,q2,rfl,w',E',g1,g2,g3⟩:=MU cP (s:={ s with pc:=ef }) r fU U Pc Z;exact⟨q1,q2,p9.skip (by simp [execOp,g1]) ⟨E',g2,g3,mf⟩⟩
   obtain⟨H,e1,rfl,rfl⟩:=zJ Z;obtain⟨w',g1,g2,g3⟩:=PE cP r U Pc e1;exact⟨rfl,fU,p9.skip (by simp [execOp,g1]) ⟨E,g2,g3,mf⟩⟩
  ·simp [T.leaf] at Z
 case nilCheck x=>
  obtain⟨u,U,Z⟩:=ij sr h;split at Z
  ·have:=bF Z;simp only [au] at this;obtain⟨rfl,rfl⟩:=this;have Sz:=U;simp only [VR] at U;exact lN.pure hp r (u:=a.eval x) (by simp [execOp,U.1]) Sz
  ·have:=bF Z;simp only [au] at this;obtain⟨rfl,rfl⟩:=this;have Sz:=U;simp only [VR] at U;obtain⟨b,off,us,hu,_⟩:=U;exact lN.pure hp r (u:=a.eval x) (by simp [execOp,hu]) Sz
  ·have:=bF Z;simp only [au] at this;obtain⟨rfl,rfl⟩:=this;have Sz:=U;simp only [VR] at U;obtain⟨_,k,_,hu⟩:=U;exact lN.pure hp r (u:=a.eval x) (by simp [execOp,hu]) Sz
  ·simp [T.leaf] at Z
 case binOp bop t x y yt=>
  obtain⟨u,U,Z⟩:=ij sr h;split at Z
  ·rename_i yv hy;have Pc:=gF sr hy;split at Z
   ·rename_i xs;simp only [VR] at U;obtain⟨us,H5,U⟩:=U;split at Z
    ·rename_i ys;simp only [VR] at Pc;obtain⟨vs,Lb,Pc⟩:=Pc;split at Z
     ·rename_i c V0;have:=bF Z;simp only [au] at this;obtain⟨rfl,rfl⟩:=this;obtain⟨g1,g2,g3⟩:=FN (w:=w) cP U Pc V0 .eql x y;exact lN.pure hp r (u:=.bool (c.den E.ρ)) (by simp [execOp,H5,Lb,g1,g2]) (by simp only [VR])
     ·simp [T.leaf] at Z
    ·rename_i ys;simp only [VR] at Pc;obtain⟨vs,Lb,Pc⟩:=Pc;split at Z
     ·rename_i c V0;have:=bF Z;simp only [au] at this;obtain⟨rfl,rfl⟩:=this;obtain⟨g1,g2,g3⟩:=FN (w:=w) cP U Pc V0 .neq x y;exact lN.pure hp r (u:=.bool (!(c.den E.ρ))) (by simp [execOp,H5,Lb,g1,g3]) (by simp only [VR,nW])
     ·simp [T.leaf] at Z
    ·simp [T.leaf] at Z
   ·split at Z
    ·rename_i e hna;obtain⟨q1,q2,q3,y',g1,g2,g3,g4⟩:=aaJ (P:=P) (w:=w) cP hna U Pc hp Z;exact⟨q1,q3,p9.value (u:=y') (by simp [execOp,wE (P:=P) (w:=w) g3 g4,g1]) ⟨E,by rw [q2]; exact fq.refl _ _ _,by rw [q2]; exact r,g2⟩⟩
    split at Z
    ·rename_i qq k e d VX;obtain⟨rfl,hu1,hu2⟩:=Uu VX U Pc;obtain⟨q1,q2,q3,gb,q4⟩:=aar hp Z;refine⟨q1,q3,p9.value (u:=.int k (aas qq k (e.den E.ρ) (d.den E.ρ))) (w':=w) ?_ ⟨E,by rw [q2]; exact fq.refl _ _ _,by rw [q2]; exact r,q4 _⟩⟩;cases qq<;>simp [execOp,hu1,hu2,binOp,Op.intDiv,gb,eqGuard,aas,qOp]
    split at Z
    ·rename_i x' y' hsp;obtain⟨q1,q2,q3,⟨y'',g1,g2⟩,g3,g4⟩:=Ve (P:=P) (w:=w) (t:=t) hp U Pc hsp Z;exact⟨q1,q3,p9.value (u:=y'') (by simp [execOp,wE (P:=P) (w:=w) g3 g4,g1]) ⟨E,by rw [q2]; exact fq.refl _ _ _,by rw [q2]; exact r,g2⟩⟩
    ·obtain⟨e1,rfl⟩:=iE Z;obtain⟨⟨y',g1,g2⟩,g3,g4⟩:=ZD (w:=w) cP U Pc e1;exact lN.pure hp r (u:=y') (by simp [execOp,wE (P:=P) (w:=w) g3 g4,g1]) g2
  ·simp [T.leaf] at Z
 case unOp uop t x=>
  obtain⟨u,U,Z⟩:=ij sr h;obtain⟨e1,rfl⟩:=iE Z;obtain⟨y,g1,g2⟩:=abb (P:=P) (w:=w) U e1;exact lN.pure hp r (u:=y) (by simp [execOp,g1]) g2
 case convert sT dT x=>
  obtain⟨u,U,Z⟩:=ij sr h;split at Z
  ·obtain⟨q1,q2,y,w',E',g1,g2,g3,g4⟩:=PV (P:=P) cP r hp U Z;exact⟨q1,q2,p9.value (u:=y) (by simp [execOp,g1]) ⟨E',g2,g3,g4⟩⟩
  obtain⟨H,e1,rfl⟩:=qi Z;obtain⟨y,w',E',g1,g2,g3,g4⟩:=AO cP r U e1;exact lN.heap hp (u:=y) (by simp [execOp,g1]) g2 g3 g4
 case makeFunc fn fs cs=>
  split at h
  ·rename_i f c hf MC;have:=bF h;simp only [au] at this;obtain⟨rfl,rfl⟩:=this;have U:=Kc sr hf;have Z:=Kc sr MC;refine lN.pure hp r (u:=.func fn (fs.map a.eval) (cs.map a.eval)) (by simp [execOp,Instr.makeFunc]) ?_;simp only [VR];have m1:fs.map a.eval=(fs.toList.map a.eval).toArray:=KW _ _;have m2:cs.map a.eval=(cs.toList.map a.eval).toArray:=KW _ _;exact⟨_,_,by rw [m1,m2],U,Z⟩
  ·simp [T.leaf] at h
 case makeMap t res=>
  split at h
  ·split at h
   ·rename_i m hm;split at h
    ·have:=bF h;simp only [au] at this;obtain⟨rfl,rfl⟩:=this
     obtain⟨s1,s2⟩:=vS r (.map #[] 0) (.uC (.eD (.i 0)) (m-100) (Zz tt t) []) 0 (w':={ w with heap:=w.heap.push (.map #[] 0) }) rfl ⟨rfl,rfl,rfl⟩ (by
      simp only [OR,En.ext_θ_new]
      exact⟨⟨by simp [V.den,bD,D.l],ae,ae⟩,#[],0,ae,by simp [eX,V.den,bD,D.l]⟩)
     exact lN.heap hp (u:=.map (some w.heap.size)) (by simp [execOp,Instr.makeMap]) s1 s2 (by simp only [VR,En.ext_θ_new]; exact⟨trivial,En.gX _ _ _ _⟩)
    have:=bF h;simp only [au] at this;obtain⟨rfl,rfl⟩:=this
    obtain⟨s1,s2⟩:=vS r (.map #[] 0) (.kO (.eD (.i 0)) m) 0 (w':={ w with heap:=w.heap.push (.map #[] 0) }) rfl ⟨rfl,rfl,rfl⟩ (by
     simp only [OR,En.ext_θ_new]
     exact⟨#[],0,ae,by simp [ly,V.den,bD,D.l]⟩)
    exact lN.heap hp (u:=.map (some w.heap.size)) (by simp [execOp,Instr.makeMap]) s1 s2 (by simp only [VR,En.ext_θ_new]; exact⟨trivial,En.gX _ _ _ _⟩)
   have:=bF h;simp only [au] at this;obtain⟨rfl,rfl⟩:=this
   obtain⟨s1,s2⟩:=vS r (.map #[] 0) (.map [] 0) 0 (w':={ w with heap:=w.heap.push (.map #[] 0) }) rfl ⟨rfl,rfl,rfl⟩ (by
    simp only [OR,En.ext_θ_new]
    exact⟨#[],0,ae,by simp [e9]⟩)
   exact lN.heap hp (u:=.map (some w.heap.size)) (by simp [execOp,Instr.makeMap]) s1 s2 (by simp only [VR,En.ext_θ_new]; exact⟨trivial,En.gX _ _ _ _⟩)
  ·simp [T.leaf] at h
 case slice t x lo hi mx=>
  obtain⟨u,U,Z⟩:=ij sr h;split at Z
  ·rename_i l hh m Y hhh hm;split at Z
   ·obtain⟨q1,q2,q3,y,g1,g2⟩:=PR (w:=w) cP hp U (eG sr Y) (eG sr hhh) (eG sr hm) Z;exact⟨q1,q3,p9.value (u:=y) (by simp [execOp,g1]) ⟨E,by rw [q2]; exact fq.refl _ _ _,by rw [q2]; exact r,g2⟩⟩
   ·obtain⟨q1,q2,q3,y,g1,g2⟩:=FA cP r hp (Rf U) (eG sr Y) (eG sr hhh) (eG sr hm) Z;exact⟨q1,q3,p9.value (u:=y) (by simp [execOp,g1]) ⟨E,by rw [q2]; exact fq.refl _ _ _,by rw [q2]; exact r,g2⟩⟩
   ·obtain⟨q1,q2,q3,y,g1,g2⟩:=FA cP r hp U (eG sr Y) (eG sr hhh) (eG sr hm) Z;exact⟨q1,q3,p9.value (u:=y) (by simp [execOp,g1]) ⟨E,by rw [q2]; exact fq.refl _ _ _,by rw [q2]; exact r,g2⟩⟩
   ·obtain⟨q1,q2,q3,y,g1,g2⟩:=PB (w:=w) cP hp U (eG sr Y) (eG sr hhh) (eG sr hm) Z;exact⟨q1,q3,p9.value (u:=y) (by simp [execOp,g1]) ⟨E,by rw [q2]; exact fq.refl _ _ _,by rw [q2]; exact r,g2⟩⟩
   ·obtain⟨q1,q2,q3,y,g1,g2⟩:=PO (w:=w) cP hp U (eG sr Y) (eG sr hhh) (eG sr hm) Z;exact⟨q1,q3,p9.value (u:=y) (by simp [execOp,g1]) ⟨E,by rw [q2]; exact fq.refl _ _ _,by rw [q2]; exact r,g2⟩⟩
   ·obtain⟨ef,h',fU,Ai,h3⟩:=G0 hp (eG sr hhh) Z;obtain⟨e1,rfl⟩:=iE h3;obtain⟨y,g1,g2⟩:=yU (w:=w) cP U (eG sr Y) Ai (eG sr hm) e1;exact⟨rfl,fU,p9.value (u:=y) (by simp [execOp,g1]) ⟨E,fq.refl _ _ _,r,g2⟩⟩
   ·obtain⟨ef,h',fU,Ai,h3⟩:=G0 hp (eG sr hhh) Z;obtain⟨e1,rfl⟩:=iE h3;obtain⟨y,g1,g2⟩:=yU (w:=w) cP U (eG sr Y) Ai (eG sr hm) e1;exact⟨rfl,fU,p9.value (u:=y) (by simp [execOp,g1]) ⟨E,fq.refl _ _ _,r,g2⟩⟩
   split at Z
   ·rename_i v' e1;have:=bF Z;simp only [au] at this;obtain⟨rfl,rfl⟩:=this;obtain⟨y,g1,g2⟩:=yU (w:=w) cP U (eG sr Y) (eG sr hhh) (eG sr hm) e1;exact lN.pure hp r (u:=y) (by simp [execOp,g1]) g2
   ·obtain⟨e1,rfl⟩:=iE Z;obtain⟨y,g1,g2⟩:=MV (w:=w) cP r U (eG sr Y) (eG sr hhh) (eG sr hm) e1;exact lN.pure hp r (u:=y) (by simp [execOp,g1]) g2
  ·simp [T.leaf] at Z
 case fieldAddr t x f=>
  obtain⟨u,U,Z⟩:=ij sr h;obtain⟨e1,rfl⟩:=iE Z;obtain⟨y,g1,g2⟩:=FM (w:=w) cP U e1;exact lN.pure hp r (u:=y) (by simp [execOp,g1]) g2
 case field t x f=>
  obtain⟨u,U,Z⟩:=ij sr h;obtain⟨e1,rfl⟩:=iE Z;obtain⟨y,g1,g2⟩:=PN (w:=w) cP U e1;exact lN.pure hp r (u:=y) (by simp [execOp,g1]) g2
 case indexAddr t x i=>
  obtain⟨u,U,Z⟩:=ij sr h;split at Z
  ·rename_i iv hi;split at Z
   ·obtain⟨e1,rfl⟩:=iE Z;obtain⟨y,g1,g2⟩:=PM (w:=w) cP hp U (gF sr hi) e1;exact lN.pure hp r (u:=y) (by simp [execOp,g1]) g2
   ·obtain⟨q1,q2,q3,y,g1,g2⟩:=PS (w:=w) cP hp U (gF sr hi) Z;exact⟨q1,q3,p9.value (u:=y) (by simp [execOp,g1]) ⟨E,by rw [q2]; exact fq.refl _ _ _,by rw [q2]; exact r,g2⟩⟩
   ·obtain⟨q1,q2,q3,y,g1,g2⟩:=PA (w:=w) cP hp U (gF sr hi) Z;exact⟨q1,q3,p9.value (u:=y) (by simp [execOp,g1]) ⟨E,by rw [q2]; exact fq.refl _ _ _,by rw [q2]; exact r,g2⟩⟩
   ·obtain⟨q1,q2,q3,y,g1,g2⟩:=Pz (w:=w) cP hp U (gF sr hi) Z;exact⟨q1,q3,p9.value (u:=y) (by simp [execOp,g1]) ⟨E,by rw [q2]; exact fq.refl _ _ _,by rw [q2]; exact r,g2⟩⟩
   ·rename_i pid po;split at Z
    ·rename_i n e hb;split at Z
     ·rename_i ho;subst ho;obtain⟨kd,ti,el,ie,rfl,b1,b2,b3,b4,b5⟩:=Gf hb;obtain⟨ef,fU,t1,t2,h3⟩:=oo hp Z;have:=bF h3;simp only [au] at this;obtain⟨rfl,rfl⟩:=this;have hiv:=gF sr hi;simp only [VR] at hiv;simp only [V.den] at t2;obtain⟨k,hk⟩ : ∃k:Nat,e.den E.ρ=(k:Int):=⟨(e.den E.ρ).toNat,J⟩;have gv:k<n:=by simp at t2; omega
      rw [hk] at hiv
      obtain⟨y,g1,g2⟩:=qF (P:=P) (w:=w) cP (t:=t) (ix:=.int kd (.lit (Int.ofNat k))) U (by simp only [VR,V.den]; exact hiv) (v:=.ptr pid (0+k*ie.size)) (by
       unfold oR;simp only [kZ,b1,b2,iW,b3,am4];rw [an gv]
       rfl)
      refine⟨rfl,fU,p9.value (u:=y) (by simp [execOp,g1]) ⟨E,fq.refl _ _ _,r,?_⟩⟩;simp only [VR] at g2 ⊢;exact⟨g2.2,k,hk,by rw [g2.1,b4]; congr 3; omega⟩
     ·simp [T.leaf] at Z
    ·obtain⟨ix',ef,fU,An,Z⟩:=A7 hp (gF sr hi) Z;obtain⟨e1,rfl⟩:=iE Z;obtain⟨y,g1,g2⟩:=qF (w:=w) cP U An e1;exact⟨rfl,fU,p9.value (u:=y) (by simp [execOp,g1]) ⟨E,fq.refl _ _ _,r,g2⟩⟩
   ·obtain⟨ix',ef,fU,An,Z⟩:=A7 hp (gF sr hi) Z;obtain⟨e1,rfl⟩:=iE Z;obtain⟨y,g1,g2⟩:=qF (w:=w) cP U An e1;exact⟨rfl,fU,p9.value (u:=y) (by simp [execOp,g1]) ⟨E,fq.refl _ _ _,r,g2⟩⟩
  ·simp [T.leaf] at Z
 case index t x i=>
  obtain⟨u,U,Z⟩:=ij sr h;split at Z
  ·rename_i iv hi;split at Z
   ·obtain⟨q1,q2,q3,y,g1,g2⟩:=PC (w:=w) cP hp U (gF sr hi) Z;exact⟨q1,q3,p9.value (u:=y) (by simp [execOp,g1]) ⟨E,by rw [q2]; exact fq.refl _ _ _,by rw [q2]; exact r,g2⟩⟩
   ·rename_i cs;split at Z
    ·rename_i n e hb;split at Z
     ·rename_i hn;have hn:=aA hn;obtain⟨kd,ti,el,ie,rfl,b1,b2,b3,b4,b5⟩:=Gf hb;obtain⟨q1,q2,q3,k,kk,z,x',c1,c2,c3,rfl,c5⟩:=MQ hp Z;have hiv:=gF sr hi;simp only [VR] at hiv;rw [c1] at hiv;obtain⟨l,W⟩:=Cf c3
      obtain⟨y,g1,g2⟩:=yW (P:=P) (w:=w) cP (t:=t) (ix:=.int kd (.lit (Int.ofNat k))) U (by simp only [VR,V.den]; exact hiv) (v:=.int kk (.lit z)) (by
       unfold AM;simp only [kZ,b1,b2,b3];rw [an J,b4,aob,W]
       simp [partOf,b5])
      refine⟨q1,q3,p9.value (u:=y) (w':=w) (by simp [execOp,g1]) ⟨E,by rw [q2]; exact fq.refl _ _ _,by rw [q2]; exact r,?_⟩⟩;simp only [VR,V.den] at g2 ⊢;rw [g2,c5]
     ·simp [T.leaf] at Z
    ·obtain⟨ix',ef,fU,An,Z⟩:=A7 hp (gF sr hi) Z;obtain⟨e1,rfl⟩:=iE Z;obtain⟨y,g1,g2⟩:=yW (w:=w) cP U An e1;exact⟨rfl,fU,p9.value (u:=y) (by simp [execOp,g1]) ⟨E,fq.refl _ _ _,r,g2⟩⟩
   obtain⟨ix',ef,fU,An,Z⟩:=A7 hp (gF sr hi) Z;obtain⟨e1,rfl⟩:=iE Z;obtain⟨y,g1,g2⟩:=yW (w:=w) cP U An e1;exact⟨rfl,fU,p9.value (u:=y) (by simp [execOp,g1]) ⟨E,fq.refl _ _ _,r,g2⟩⟩
  ·simp [T.leaf] at Z
 case lookup t m k ok=>
  obtain⟨u,U,Z⟩:=ij sr h;split at Z
  ·rename_i kv hk;split at Z
   ·rename_i id e t' hY
    obtain⟨q1,q2,q3,y,g1,g2⟩:=PK (P:=P) cP r hp U (gF sr hk) hY Z;exact⟨q1,q3,p9.value (u:=y) (by simp [execOp,g1]) ⟨E,by rw [q2]; exact fq.refl _ _ _,by rw [q2]; exact r,g2⟩⟩
   split at Z
   ·rename_i hY
    obtain⟨q1,q2,q3,y,g1,g2⟩:=PJ (P:=P) cP r hp U (gF sr hk) hY Z;exact⟨q1,q3,p9.value (u:=y) (by simp [execOp,g1]) ⟨E,by rw [q2]; exact fq.refl _ _ _,by rw [q2]; exact r,g2⟩⟩
   obtain⟨ef,fU,Z⟩:=rb hp Z;obtain⟨e1,rfl⟩:=iE Z;obtain⟨y,g1,g2⟩:=MY cP fU r U (gF sr hk) e1;exact⟨rfl,fU,p9.value (u:=y) (by simp [execOp,g1]) ⟨E,fq.refl _ _ _,r,g2⟩⟩
  ·simp [T.leaf] at Z
 case mapUpdate t m k x=>
  obtain⟨u,U,Z⟩:=ij sr h;split at Z
  ·rename_i kv xv hk hx;split at Z
   ·obtain⟨q1,q2,rfl,w',E',g1,g2,g3⟩:=Iu (P:=P) cP r hp U (gF sr hk) (gF sr hx) Z;exact⟨q1,q2,p9.skip (by simp [execOp,g1]) ⟨E',g2,g3,mf⟩⟩
   split at Z
   ·rename_i hY
    obtain⟨q1,q2,rfl,w',g1,g2,g3⟩:=CX (P:=P) cP r hp U (gF sr hk) (gF sr hx) hY Z;exact⟨q1,q2,p9.skip (by simp [execOp,g1]) ⟨E,g2,g3,mf⟩⟩
   obtain⟨ef,fU,Z⟩:=rb hp Z;obtain⟨H,e1,rfl,rfl⟩:=zJ Z;obtain⟨w',g1,g2,g3⟩:=wA cP fU r U (gF sr hk) (gF sr hx) e1;exact⟨rfl,fU,p9.skip (by simp [execOp,g1]) ⟨E,g2,g3,mf⟩⟩
  ·simp [T.leaf] at Z
 case range t x=>
  obtain⟨u,U,Z⟩:=ij sr h;obtain⟨H,e1,rfl⟩:=qi Z;obtain⟨y,w',E',g1,g2,g3,g4⟩:=PF cP r U e1;exact lN.heap hp (u:=y) (by simp [execOp,g1]) g2 g3 g4
 case next x isS=>
  obtain⟨u,U,Z⟩:=ij sr h;obtain⟨H,e1,rfl⟩:=qi Z;obtain⟨y,w',g1,g2,g3,g4⟩:=Vg (P:=P) r U e1 type;exact lN.heap hp (u:=y) (by simp [execOp,g1]) g2 g3 g4
 case extract x i=>
  obtain⟨u,U,Z⟩:=ij sr h;split at Z
  ·rename_i vs;obtain⟨e1,rfl⟩:=iE Z;simp only [VR] at U;obtain⟨us,H5,U⟩:=U;obtain⟨y,g1,g2⟩:=U.nth e1;exact lN.pure hp r (u:=y) (by simp [execOp,Instr.extract,H5,g1]) g2
  ·simp [T.leaf] at Z
 case call c=>exact Vl cP hc r sr hp rfl h
end
section
variable {P:Program}
structure Fit [bK] (E:En) (s:St) (a:Act) (w:World):Prop where
 rel:bR E s.h w
 sr:SR E w.heap s.bG a
 pc:bY E.ρ s.pc
structure nK [bK] (E:En) (s:St) (a:Act) (w:World) (s':St) (a':Act) (w':World):Prop where
 defers:a'.defers=a.defers
 size:a'.tmps.size=a.tmps.size
 step: ∃E',fq E s.h w E' s'.h w'/\Fit E' s' a' w'
theorem nK.refl [bK] {E:En} {s:St} {a:Act} {w:World} (f:Fit E s a w):nK E s a w s a w:=⟨rfl,rfl,E,fq.refl _ _ _,f⟩
theorem SR.cx {E E':En} {h h':Array Obj} (k:fY E h E' h') {bG:Tr AV} {a:Act} (sr:SR E h bG a):SR E' h' bG a:=by intro t v ht;obtain⟨u,U,Z⟩:=sr t v ht;exact⟨u,U,VR.cx k v u Z⟩
theorem SR.put {E:En} {h:Array Obj} {bG:Tr AV} {a:Act} (sr:SR E h bG a) {d:Nat} {v:AV} {u:Value} (W:d<a.tmps.size) (hv:VR E h v u):SR E h (bG.put d (some v)) (a.put (some d) u):=by
 intro t x ht;rw [Tr.bU] at ht;simp only [Act.put];split at ht
 ·rename_i e
  grind
 ·rename_i e;obtain⟨y,U,Z⟩:=sr t x ht
  grind
theorem SR.akI {E:En} {h:Array Obj} {s:St} {a:Act} (sr:SR E h s.bG a) {d:Option Nat} {v:AV} {u:Value} (W: ∀t,d=some t->t<a.tmps.size) (hv:VR E h v u):SR E h (s.LH d v).bG (a.put d u):=by
 cases d with
 |none=>exact sr
 |some t=>exact sr.put (W t rfl) hv
theorem EA (a:Act) (d:Option Nat) (u:Value):(a.put d u).tmps.size=a.tmps.size:=by cases d<;>simp [Act.put]
theorem put_defers (a:Act) (d:Option Nat) (u:Value):(a.put d u).defers=a.defers:=by cases d<;>rfl
theorem XS (s:St) (d:Option Nat) (v:AV):(s.LH d v).h=s.h:=by cases d<;>rfl
theorem aaj (s:St) (d:Option Nat) (v:AV):(s.LH d v).pc=s.pc:=by cases d<;>rfl
theorem Im [bK] {E:En} {s s':St} {a:Act} {w w':World} {v:AV} {u:Value} {d:Option Nat} (f:Fit E s a w) (hs:s'.bG=s.bG) (hp:bY E.ρ s'.pc) (h:NY E s w v s' u w') (W: ∀t,d=some t->t<a.tmps.size) :
 nK E s a w (s'.LH d v) (a.put d u) w':=by
 obtain⟨E',U,Z,h3⟩:=h;refine⟨put_defers _ _ _,EA _ _ _,E',by rw [XS]; exact U,⟨by rw [XS]; exact Z,?_,by rw [aaj,U.ρ]; exact hp⟩⟩;refine SR.akI ?_ W h3;rw [hs];exact f.sr.cx (U.keeps f.rel)
theorem nK.trans [bK] {E:En} {s s1 s2:St} {a a1 a2:Act} {w w1 w2:World} (U:nK E s a w s1 a1 w1) (Z: ∀E1,fq E s.h w E1 s1.h w1->Fit E1 s1 a1 w1->nK E1 s1 a1 w1 s2 a2 w2):nK E s a w s2 a2 w2:=by obtain⟨d1,z1,E1,Ej,f1⟩:=U;obtain⟨d2,z2,E2,vo,f2⟩:=Z E1 Ej f1;exact⟨d2.trans d1,z2.trans z1,E2,Ej.trans vo,f2⟩
theorem EN [bK] {α:Type} {E:En} {w:World} {s:St} {a:Act} {ops:Array Oper} {o:Oper} {f:St->Bool->T α} {r:α} (fit:Fit E s a w) (h:(w8 ops.toList s o f).leaf E.ρ=some r) :
 ∃ef,bY E.ρ ef/\(f { s with pc:=ef } (Region.wanted o (yielded ops a.tmps))).leaf E.ρ=some r:=by
 unfold w8 at h;unfold Region.wanted;split at h
 ·rename_i hg;rw [hg];exact⟨s.pc,fit.pc,h⟩
 ·rename_i j want hg;rw [hg];split at h
  ·rename_i oj hj;rw [du,amZ] at hj;split at h
   ·rename_i d W;split at h
    ·rename_i c hc;obtain⟨u,U,Z⟩:=fit.sr d _ hc;simp only [VR] at Z;subst Z;obtain⟨ef,fU,h3⟩:=cI fit.pc h;refine⟨ef,fU,?_⟩;have:yielded ops a.tmps j=some (c.den E.ρ):=by simp [yielded,hj,W,U]
     simp only [this];simpa using h3
    ·rename_i vs hc;obtain⟨u,U,Z⟩:=fit.sr d _ hc;simp only [VR] at Z;obtain⟨us,rfl,_⟩:=Z;refine⟨s.pc,fit.pc,?_⟩;have:yielded ops a.tmps j=none:=by simp [yielded,hj,W,U]
     simp only [this];simpa using h
    ·simp [T.leaf] at h
   ·simp [T.leaf] at h
  ·simp [T.leaf] at h
def agG (n:Nat) (ops:List Oper):Bool:=ops.all fun o=>match o.dst with |some d=>d<n|none=>true
theorem FI [bK] {tt:TT} (cP:eJ P tt) {call:eu} (hc:iT P call) {ops:Array Oper} {Q:Exit->Act->World->Prop}: ∀(rest:List Oper) (i:Nat) {E:En} {s s':St} {a:Act} {w:World},ops.toList.drop i=rest->
 (∀o∈rest,∀d,o.dst=some d->d<a.tmps.size)->Fit E s a w->(MX tt call ops.toList rest s).leaf E.ρ=some s'->
 (∀a' w',nK E s a w s' a' w'->Q .normal a' w')->wpOps P ops Q (List.range' i rest.length) a w
 |[],i,E,s,s',a,w,_,_,fit,h,hq=>by have:=bF h;subst this;exact hq a w (nK.refl fit)
 |o::rest,i,E,s,s',a,w,hi,W,fit,h,hq=>by
  simp only [MX] at h;obtain⟨ef,fU,U⟩:=EN fit h
  have hoi:ops[i]?=some o:=by
   have:=congrArg (·[0]?) hi
   grind
  have acR:ops.toList.drop (i+1)=rest:=by have:=congrArg List.tail hi;simpa using this
  have Vb:Fit E { s with pc:=ef } a w:=⟨fit.rel,fit.sr,fU⟩;simp only [aR,List.range'_succ];show wpOps P ops Q (i::List.range' (i+1) rest.length) a w;simp only [wpOps,hoi];cases hw:Region.wanted o (yielded ops a.tmps)<;>rw [hw] at U
  ·simp only [aG,if_false] at U ⊢
   have CN:nK E s a w (St.LH { s with pc:=ef } o.dst AV.undef) (a.put o.dst undef) w:=
    Im (s':={ s with pc:=ef }) fit rfl fU ⟨E,fq.refl _ _ _,fit.rel,mf⟩ (W o ae)
   obtain⟨d1,z1,E1,Ej,f1⟩:=CN;refine FI cP hc rest (i+1) acR (fun o' Ai d Fh=>by rw [z1]; exact W o' (by simp [Ai]) d Fh) f1 (by rw [Ej.ρ]; exact U) fun a' w' ht=>?_;exact hq a' w' ⟨ht.defers.trans d1,ht.size.trans z1,by obtain⟨E2,vo,f2⟩:=ht.step; exact⟨E2,Ej.trans vo,f2⟩⟩
  ·simp only [if_true] at U ⊢;left;obtain⟨⟨v,s1⟩,Z,h3⟩:=T.fL U;obtain⟨q1,q2,q3⟩:=SP cP hc (o:=o) Vb.rel Vb.sr Vb.pc Z;refine q3 _ _ fun u w1 hu=>?_;have CN:nK E s a w (s1.LH o.dst v) (a.put o.dst u) w1:=Im (s:=s) (s':=s1) fit q1 q2 hu (W o ae);obtain⟨d1,z1,E1,Ej,f1⟩:=CN;refine FI cP hc rest (i+1) acR (fun o' Ai d Fh=>by rw [z1]; exact W o' (by simp [Ai]) d Fh) f1 (by rw [Ej.ρ]; exact h3) fun a' w' ht=>?_;exact hq a' w' ⟨ht.defers.trans d1,ht.size.trans z1,by obtain⟨E2,vo,f2⟩:=ht.step; exact⟨E2,Ej.trans vo,f2⟩⟩
def abO [bK] (P:Program) (draw:List Oper->St->T St):Prop:=
 ∀(id:Nat) (ops:Array Oper) (E:En) (s s':St) (a:Act) (w:World) (Q:Exit->Act->World->Prop),(∀o∈ops.toList,∀d,o.dst=some d->d<a.tmps.size)->Fit E s a w->(draw ops.toList s).leaf E.ρ=some s'->
  (∀a' w',nK E s a w s' a' w'->Q .normal a' w')->(Code.region id ops true).wp P Q a w
def wQ [bK] (P:Program) (rL:Nat->List Oper->Bool) (draw:Nat->List Oper->St->T St):Prop:=
 ∀(id:Nat) (ops:Array Oper),rL id ops.toList=true->∀(E:En) (s s':St) (a:Act) (w:World) (Q:Exit->Act->World->Prop),(∀o∈ops.toList,∀d,o.dst=some d->d<a.tmps.size)->Fit E s a w->(draw id ops.toList s).leaf E.ρ=some s'->
  (∀a' w',nK E s a w s' a' w'->Q .normal a' w')->(Code.region id ops true).wp P Q a w
def kJ (rL:Nat->List Oper->Bool) (n:Nat):Code->Bool
 | .region id ops d=>agG n ops.toList&&(!d||rL id ops.toList)
 | .seq a b=>kJ rL n a&&kJ rL n b
 | .cond _ a b=>kJ rL n a&&kJ rL n b
 | .block _ b=>kJ rL n b
 | .loop b=>kJ rL n b
 | .scope b=>kJ rL n b
 |_=>true
theorem abp {n m:Nat} {ops:List Oper} (h:agG n ops=true) (hm:n<=m): ∀o∈ops,∀d,o.dst=some d->d<m:=by
 intro o ho d W;unfold agG at h
 grind
def yx:Ex->Exit
 | .normal=> .normal
 | .exit id=> .exit id
 | .ret=> .ret
def agO [bK] (E:En) (s:St) (a:Act) (w:World) (e:Ex) (s':St) (x:Exit) (a':Act) (w':World):Prop:=x=yx e/\nK E s a w s' a' w'
theorem nK.comp [bK] {E E1:En} {s s1 s2:St} {a a1 a2:Act} {w w1 w2:World} (d1:a1.defers=a.defers) (z1:a1.tmps.size=a.tmps.size) (Ej:fq E s.h w E1 s1.h w1) (Z:nK E1 s1 a1 w1 s2 a2 w2):nK E s a w s2 a2 w2:=by obtain⟨d2,z2,E2,vo,f2⟩:=Z;exact⟨d2.trans d1,z2.trans z1,E2,Ej.trans vo,f2⟩
def H! [bK] (P:Program) (c:Code) (n:Nat) (f:St->T (Ex×St)):Prop:=
 ∀(E:En) (s s':St) (e:Ex) (a:Act) (w:World),n<=a.tmps.size->Fit E s a w->(f s).leaf E.ρ=some (e,s')->c.wp P (agO E s a w e s') a w
theorem FJ {ρ:Nat->Int} {f:St->T (Ex×St)}: ∀(k:Nat) {s s':St} {e:Ex},(wC f k s).leaf ρ=some (e,s')->e≠.normal
 |0,s,s',e,h=>by simp [wC,T.leaf] at h
 |k+1,s,s',e,h=>by
  simp only [wC] at h;obtain⟨⟨e1,s1⟩,U,Z⟩:=T.fL h
  cases e1 with
  |normal=>exact FJ k Z
  |exit id=>have:=bF Z; simp only [au] at this; rw [<- this.1]; simp
  |ret=>have:=bF Z; simp only [au] at this; rw [<- this.1]; simp
theorem Iw [bK] {c:Code} {n:Nat} {f:St->T (Ex×St)} (hf:H! P c n f): ∀(k:Nat) {E:En} {s s':St} {e:Ex} {a:Act} {w:World},n<=a.tmps.size->Fit E s a w->(wC f k s).leaf E.ρ=some (e,s')->
 ∀(Q:Exit->Act->World->Prop),(∀a' w',nK E s a w s' a' w'->Q (yx e) a' w')->e≠.normal/\Code.rounds P c Q k a w
 |0,E,s,s',e,a,w,_,_,h,_,_=>by simp [wC,T.leaf] at h
 |k+1,E,s,s',e,a,w,hn,fit,h,Q,hq=>by
  simp only [wC] at h;obtain⟨⟨e1,s1⟩,U,Z⟩:=T.fL h;have hw:=hf E s s1 e1 a w hn fit U;rw [rounds_succ]
  cases e1 with
  |normal=>
   simp only at Z;constructor
   ·exact FJ k Z
   ·refine wp_mono hw fun x a1 w1 ⟨hx,ht⟩=>?_;subst hx;obtain⟨d1,z1,E1,Ej,f1⟩:=ht;exact (Iw hf k (by rw [z1]; exact hn) f1 (by rw [Ej.ρ]; exact Z) Q fun a' w' ht'=>hq a' w' (ht'.comp d1 z1 Ej)).2
  |exit id=> have:=bF Z;simp only [au] at this;obtain⟨rfl,rfl⟩:=this;refine⟨ae,wp_mono hw fun x a1 w1 ⟨hx,ht⟩=>?_⟩;subst hx;exact hq a1 w1 ht
  |ret=> have:=bF Z;simp only [au] at this;obtain⟨rfl,rfl⟩:=this;refine⟨ae,wp_mono hw fun x a1 w1 ⟨hx,ht⟩=>?_⟩;subst hx;exact hq a1 w1 ht
theorem lJ [bK] {tt:TT} (cP:eJ P tt) {call:eu} (hc:iT P call) {draw:Nat->List Oper->St->T St} {rL:Nat->List Oper->Bool} (Ff:wQ P rL draw) {lf n:Nat}: ∀(c:Code),kJ rL n c=true->H! P c n (jK tt call draw lf c)
 | .skip,_,E,s,s',e,a,w,_,fit,h=>by have:=bF h;simp only [au] at this;obtain⟨rfl,rfl⟩:=this;exact wp_skip ⟨rfl,nK.refl fit⟩
 | .region id ops d,nJ,E,s,s',e,a,w,hn,fit,h=>by
   simp only [jK] at h;simp only [kJ,aw] at nJ;have W:=abp nJ.1 hn;cases d
   ·simp only [aG,if_false] at h;obtain⟨s1,U,Z⟩:=T.fL h;have:=bF Z;simp only [au] at this;obtain⟨rfl,rfl⟩:=this;refine wp_region ?_;have:=FI (Q:=agO E s a w .normal s1) cP hc ops.toList 0 ae W fit U (fun a' w' ht=> ⟨rfl,ht⟩);rw [List.range_eq_range']
    grind
   ·simp only [if_true] at h;obtain⟨s1,U,Z⟩:=T.fL h;have:=bF Z;simp only [au] at this;obtain⟨rfl,rfl⟩:=this;exact Ff id ops (by simpa using nJ.2) E s s1 a w _ W fit U (fun a' w' ht=> ⟨rfl,ht⟩)
 | .seq x y,nJ,E,s,s',e,a,w,hn,fit,h=>by
   simp only [kJ,aw] at nJ;simp only [jK] at h;obtain⟨⟨e1,s1⟩,U,Z⟩:=T.fL h;refine wp_seq (wp_mono (lJ cP hc Ff x nJ.1 E s s1 e1 a w hn fit U) fun q a1 w1 ⟨hx,ht⟩=>?_);subst hx
   cases e1 with
   |normal=> simp only at Z;obtain⟨d1,z1,E1,Ej,f1⟩:=ht;refine wp_mono (lJ cP hc Ff y nJ.2 E1 s1 s' e a1 w1 (by rw [z1]; exact hn) f1 (by rw [Ej.ρ]; exact Z)) fun q a2 w2 ⟨hx,ht'⟩=>?_;exact⟨hx,ht'.comp d1 z1 Ej⟩
   |exit id=> have:=bF Z;simp only [au] at this;obtain⟨rfl,rfl⟩:=this;exact⟨rfl,ht⟩
   |ret=> have:=bF Z;simp only [au] at this;obtain⟨rfl,rfl⟩:=this;exact⟨rfl,ht⟩
 | .cond c x y,nJ,E,s,s',e,a,w,hn,fit,h=>by
   simp only [kJ,aw] at nJ;simp only [jK] at h;split at h
   ·rename_i cb hcb;have hv:=gF fit.sr hcb;simp only [VR] at hv;obtain⟨ef,fU,U⟩:=cI fit.pc h;have Vb:Fit E { s with pc:=ef } a w:=⟨fit.rel,fit.sr,fU⟩;refine wp_cond hv ?_;cases Su:cb.den E.ρ<;>rw [Su] at U
    ·simp only [aG,if_false] at U ⊢;exact wp_mono (lJ cP hc Ff y nJ.2 E _ s' e a w hn Vb U) fun q a2 w2 ⟨hx,ht⟩=> ⟨hx,ht.defers,ht.size,ht.step⟩
    ·simp only [if_true] at U ⊢;exact wp_mono (lJ cP hc Ff x nJ.1 E _ s' e a w hn Vb U) fun q a2 w2 ⟨hx,ht⟩=> ⟨hx,ht.defers,ht.size,ht.step⟩
   ·simp [T.leaf] at h
 | .block id b,nJ,E,s,s',e,a,w,hn,fit,h=>by
   simp only [kJ] at nJ;simp only [jK] at h;obtain⟨⟨e1,s1⟩,U,Z⟩:=T.fL h;refine wp_block (wp_mono (lJ cP hc Ff b nJ E s s1 e1 a w hn fit U) fun q a1 w1 ⟨hx,ht⟩=>?_);subst hx
   cases e1 with
   |normal=> have:=bF Z;simp only [au] at this;obtain⟨rfl,rfl⟩:=this;exact⟨rfl,ht⟩
   |exit j=>
    have:=bF Z;simp only [au] at this;obtain⟨rfl,rfl⟩:=this;simp only [yx,Exit.inBlock];by_cases hj:j=id
    ·rw [an hj,an hj]; exact⟨rfl,ht⟩
    ·rw [ak hj,ak hj]; exact⟨rfl,ht⟩
   |ret=> have:=bF Z;simp only [au] at this;obtain⟨rfl,rfl⟩:=this;exact⟨rfl,ht⟩
 | .loop b,nJ,E,s,s',e,a,w,hn,fit,h=>by simp only [kJ] at nJ;simp only [jK] at h;exact wp_loop_rounds lf (Iw (lJ cP hc Ff b nJ) lf hn fit h (agO E s a w e s') (fun a' w' ht=> ⟨rfl,ht⟩)).2
 | .exit id,_,E,s,s',e,a,w,_,fit,h=>by have:=bF h;simp only [au] at this;obtain⟨rfl,rfl⟩:=this;exact wp_exit ⟨rfl,nK.refl fit⟩
 | .scope b,nJ,E,s,s',e,a,w,hn,fit,h=>by simp only [kJ] at nJ;simp only [jK] at h;refine wp_scope_straight (wp_mono (lJ cP hc Ff b nJ E s s' e a w hn fit h) fun q a1 w1 ⟨hx,ht⟩=>?_);subst hx;cases e<;>exact⟨rfl,ht⟩
 | .label l,_,E,s,s',e,a,w,_,fit,h=>by have:=bF h;simp only [au] at this;obtain⟨rfl,rfl⟩:=this;exact wp_label ⟨rfl,nK.refl fit⟩
 | .ret,_,E,s,s',e,a,w,_,fit,h=>by have:=bF h;simp only [au] at this;obtain⟨rfl,rfl⟩:=this;exact wp_ret ⟨rfl,nK.refl fit⟩
 | .rangeFunc _ _ _ _,_,E,s,s',e,a,w,_,fit,h=>by simp [jK,T.leaf] at h
 | .goto _,_,E,s,s',e,a,w,_,fit,h=>by simp [jK,T.leaf] at h
 | .refuse _,_,E,s,s',e,a,w,_,fit,h=>by simp [jK,T.leaf] at h
end
section
variable {P:Program}
theorem Mm: ∀(args:List AV) (i:Nat) (t:Tr AV) (k:Nat),(cw args i t).get k=if i<=k/\k<i+args.length then args[k-i]? else t.get k
 |[],i,t,k=>by
  have: ¬(i<=k/\k<i+([]:List AV).length):=ae
  rw [ak this];rfl
 |v::vs,i,t,k=>by
  simp only [cw,Mm vs (i+1),Tr.bU,aR]
  grind
theorem cC.get {E:En} {h:Array Obj}: ∀{vs:List AV} {us:List Value},cC E h vs us->∀(i:Nat) (v:AV),vs[i]?=some v->∃u,us[i]?=some u/\VR E h v u
 |[],us,hv,i,v,hi=>by simp at hi
 |x::xs,us,hv,i,v,hi=>by
  cases us with
  |nil=>simp [cC] at hv
  |cons y ys=>
   simp only [cC] at hv;obtain⟨u',hD,he,U,Z⟩:=hv;simp only [List.cons.injEq] at he;obtain⟨rfl,rfl⟩:=he
   cases i with
   |zero=>simp at hi; subst hi; exact⟨y,ae,U⟩
   |succ i=>simpa using cC.get Z i v (by simpa using hi)
theorem Ae {E:En} {h:Array Obj} {args:List AV} {vals:List Value} (hv:cC E h args vals) (n:Nat) :
 SR E h (cw args 0 .nil) { tmps:=vals.toArray++Array.replicate n undef,defers:=[] }:=by
 intro t v ht;rw [Mm] at ht;split at ht
 ·rename_i hk;obtain⟨u,U,Z⟩:=cC.get hv t v (by simpa using ht)
  grind
 ·simp [Tr.get] at ht
def vM (a:Act):ResultVar->Sem Value
 | .tmp t=>pure (a.tmps.getD t undef)
 | .cell b t=>do loadVar t (<- asAddr (a.tmps.getD b undef))
def BE (vs:List AV):AV:=match vs with |[x]=>x|vs=> .tuple vs
theorem Hr {vs:List AV} (h: ∀v,vs= [v]->False):BE vs= .tuple vs:=by
 unfold BE
 grind
theorem Dw {E:En} {h:Array Obj} {vs:List AV} {us:List Value} (g2:cC E h vs us):VR E h (BE vs) (if h:us.toArray.size=1 then us.toArray[0] else .tuple us.toArray):=by
 cases vs with
 |nil=> simp only [cC] at g2;subst g2;simp [BE,VR,cC]
 |cons x xs=>
  cases xs with
  |nil=> simp only [cC] at g2;obtain⟨u,hD,rfl,U,rfl⟩:=g2;simpa [BE] using U
  |cons x2 xs=>
   have g3:=g2;simp only [cC] at g2;obtain⟨u,hD,rfl,U,u2,us2,rfl,Z,h3⟩:=g2;have: ¬((u::u2::us2).toArray.size=1):=ae
   rw [dif_neg this];simp only [BE,VR]
   grind
theorem MW [bK] {tt:TT} (cP:eJ P tt) {E:En} {s:St} {a:Act} {w:World} (fit:Fit E s a w) {r:ResultVar} {v:AV} (h:AH tt s r=some v) :
 ∃u,(vM a r).run P w= .ok u w/\VR E w.heap v u:=by
 cases r with
 |tmp t=> simp only [AH] at h;obtain⟨u,U,Z⟩:=fit.sr t v h;exact⟨u,by simp [vM,U,anx],Z⟩
 |cell b t=>
  simp only [AH] at h;split at h
  ·rename_i p hp;obtain⟨u,U,Z⟩:=fit.sr b p hp;obtain⟨x,bb,o,rfl,h3,h4⟩:=B7 cP fit.rel Z h;exact⟨x,by simp [vM,U,anx,asAddr,h3],h4⟩
  grind
theorem uF [bK] {tt:TT} (cP:eJ P tt) {E:En} {s:St} {a:Act} {w:World} (fit:Fit E s a w): ∀{rs:List ResultVar} {vs:List AV},lI tt s rs=some vs->
 ∃us,(rs.mapM (vM a)).run P w= .ok us w/\cC E w.heap vs us
 |[],vs,h=>by simp [lI] at h;subst h;exact⟨[],ae,by simp [cC]⟩
 |r::rs,vs,h=>by
  simp only [lI] at h;split at h
  ·grind
  ·rename_i v hv;split at h
   ·grind
   ·rename_i N2 Lb;simp at h;subst h;obtain⟨u,U,Z⟩:=MW cP fit hv;obtain⟨us,h3,h4⟩:=uF cP fit Lb;refine⟨u::us,?_,by simp only [cC]; exact⟨u,us,rfl,Z,h4⟩⟩;rw [anT];simp [Sem.run_bind,U,h3]
def VI (P:Program) (rL:Nat->Nat->List Oper->Bool) (ft:Nat->Option Func):Prop:= ∀g fn,ft g=some fn->P.funcs[g]?=some fn/\(fn.name == "runtime.NumGoroutine")=false/\∀c,fn.body=some c->kJ (rL g) fn.ntmps c=true
theorem AN [bK] {tt:TT} (cP:eJ P tt) {rL:Nat->Nat->List Oper->Bool} {ft:Nat->Option Func} (hft:VI P rL ft) {hook:Nat->Option (List AV->St->T (AV×St))} (hh: ∀g h,hook g=some h->kQ P g h)
 {draw:eu->Nat->Nat->List Oper->St->T St} (Ff: ∀call,iT P call->∀g,wQ P (rL g) (draw call g)) (lf:Nat): ∀(n:Nat),iT P (Ko tt ft hook draw lf n)
 |0=>by intro g args s E w vals v s' _ _ _ h;simp [Ko,T.leaf] at h
 |n+1=>by
  have ih:=AN cP hft hh Ff lf n;intro g args s E w vals v s' r hv hp h;simp only [Ko] at h;split at h
  ·rename_i f hf;exact hh g f hf args s E w vals v s' r hv hp h
  ·split at h
   ·simp [T.leaf] at h
   ·rename_i fn vz;obtain⟨hf,mn,nJ⟩:=hft g fn vz;split at h
    ·simp [T.leaf] at h
    ·rename_i c hb;obtain⟨⟨e,s1⟩,U,Z⟩:=T.fL h
     have fit:Fit E { s with bG:=cw args 0 .nil } { tmps:=vals.toArray++Array.replicate (fn.ntmps-vals.toArray.size) undef,defers:=[] } w:=
      ⟨r,Ae hv _,hp⟩
     have hwp:=lJ cP ih (Ff _ ih g) (lf:=lf) c (nJ c hb) E _ s1 e _ w (by simp; omega) fit U
     have alf: ∃vs,lI tt s1 fn.results.toList=some vs/\(e= .normal\/e= .ret)/\s'= { s1 with bG:=s.bG }/\v=BE vs:=by
      cases e with
      |exit id=>simp [T.leaf] at Z
      |normal=>
       simp only at Z;split at Z
       ·rename_i x hx;have:=bF Z;simp only [au] at this;exact⟨_,hx,.inl rfl,this.2.symm,this.1.symm⟩
       ·rename_i vs hn hx;have:=bF Z;simp only [au] at this;refine⟨_,hx,.inl rfl,this.2.symm,?_⟩;rw [<- this.1];exact (Hr hn).symm
       ·simp [T.leaf] at Z
      |ret=>
       simp only at Z;split at Z
       ·rename_i x hx;have:=bF Z;simp only [au] at this;exact⟨_,hx,.inr rfl,this.2.symm,this.1.symm⟩
       ·rename_i vs hn hx;have:=bF Z;simp only [au] at this;refine⟨_,hx,.inr rfl,this.2.symm,?_⟩;rw [<- this.1];exact (Hr hn).symm
       ·simp [T.leaf] at Z
     obtain⟨vs,hr,he,rfl,rfl⟩:=alf
     have hpc:bY E.ρ s1.pc:=by
      obtain⟨_,_,_,⟨_,ht⟩,_⟩:=hwp default [] [];obtain⟨E1,Ej,f1⟩:=ht.step;have:=f1.pc;rw [Ej.ρ] at this
      grind
     refine⟨rfl,hpc,?_⟩
     have alG:Calls P g vals.toArray w fun e w''=> ∃u,e= .returned u/\NY E s w (BE vs) { s1 with bG:=s.bG } u w'':=by
      refine calls_of_wp hf hb (wp_mono hwp fun x a1 w1 ⟨hx,ht⟩=>?_);subst hx;obtain⟨d1,z1,E1,Ej,f1⟩:=ht;obtain⟨us,g1,g2⟩:=uF cP f1 hr
      have: ∃u,(results fn a1.tmps).run P w1= .ok u w1/\VR E1 w1.heap (BE vs) u:=by
       refine⟨if h:us.toArray.size=1 then us.toArray[0] else .tuple us.toArray,?_,?_⟩
       ·have hm:(fn.results.mapM (vM a1)).run P w1= .ok us.toArray w1:=by
         rw [aoV];rw [map_eq_pure_bind];simp only [Sem.run_bind,g1];rfl
        have yQ:results fn a1.tmps=(do let vs <- fn.results.mapM (vM a1); pure (if h:vs.size=1 then vs[0] else .tuple vs)):=rfl;rw [yQ];simp only [Sem.run_bind,hm];rfl
       ·exact Dw g2
      obtain⟨u,g3,g4⟩:=this;rcases he with rfl|rfl
      ·exact⟨d1,u,g3,u,rfl,E1,Ej,f1.rel,g4⟩
      ·exact⟨d1,u,g3,u,rfl,E1,Ej,f1.rel,g4⟩
     have kP:(callFunc g vals.toArray).run P w= .ok (.enter g vals.toArray) w:=by unfold callFunc;simp [hf,hb,by simpa using mn]
     unfold mz oY
     grind
end
def Tr.over {α:Type}:Tr α->Tr α->Tr α
 | .nil,b=>b
 | .node v l r,b=> .node (match v with |some x=>some x|none=>b.val) (Tr.over l b.left) (Tr.over r b.right)
def Tr.minus {α:Type}:Tr α->Tr α->Tr α
 | .nil,b=>b
 | .node v l r,b=> .node (match v with |some _=>none|none=>b.val) (Tr.minus l b.left) (Tr.minus r b.right)
theorem Tr.Fo {α:Type}: ∀(a b:Tr α) (k:Nat),(Tr.over a b).get k=match a.get k with |some x=>some x|none=>b.get k
 | .nil,b,k=>by simp [Tr.over,Tr.get]
 | .node v l r,b,k=>by
   simp only [Tr.over];rw [Tr.oQ,Tr.oQ,Tr.xp b k];by_cases h0:k=0
   ·grind
   ·simp only [ak h0];by_cases U:(k-1) % 2=0
    ·simp only [an U]; exact Tr.Fo l b.left _
    ·simp only [ak U]; exact Tr.Fo r b.right _
theorem Tr.B4 {α:Type}: ∀(a b:Tr α) (k:Nat),(Tr.minus a b).get k=match a.get k with |some _=>none|none=>b.get k
 | .nil,b,k=>by simp [Tr.minus,Tr.get]
 | .node v l r,b,k=>by
   simp only [Tr.minus];rw [Tr.oQ,Tr.oQ,Tr.xp b k];by_cases h0:k=0
   ·grind
   ·simp only [ak h0];by_cases U:(k-1) % 2=0
    ·simp only [an U]; exact Tr.B4 l b.left _
    ·simp only [ak U]; exact Tr.B4 r b.right _
structure TE (E:En) (H:Hp) (w:World) (E':En) (H':Hp) (w':World):Prop where
 ρ:E'.ρ=E.ρ
 dm: ∀id,E.dm id->E'.dm id
 θ: ∀id,E.dm id->E'.θ id=E.θ id
 κ: ∀id,E.dm id->E'.κ id=E.κ id
 ro: ∀b,E.ro b->E'.ro b
 sR: ∀b,E'.ro b->E.ro b\/(∃id o,H.get id=some o/\(E.θ id).1=b)\/w.heap.size<=b
 os:w'.os=w.os
 tape:w'.tape=w.tape
 output:w'.output=w.output
 size:w.heap.size<=w'.heap.size
 cx: ∀b,b<w.heap.size->(∀id o,H.get id=some o->(E.θ id).1≠b)->w'.heap[b]?=w.heap[b]?
 own: ∀id o,H'.get id=some o->(E'.θ id).1<w.heap.size->∃s5 o0,H.get s5=some o0/\(E.θ s5).1=(E'.θ id).1
 W:E'.W=E.W
section
variable {E E' E'':En} {H H' H'':Hp} {w w' w'':World}
theorem fq.akp (s:fq E H w E' H' w'):TE E H w E' H' w':=⟨s.ρ,s.dm,s.θ,s.κ,s.ro,s.sR,s.os,s.tape,s.output,s.size,s.cx,s.own,s.W⟩
theorem TE.XJ (s:TE E H w E' H' w') (U:H.next<=H'.next) (Z:H'.res=none) (h3: ∀id,E'.dm id->E.dm id\/(H.next<=id/\id<H'.next)):fq E H w E' H' w':=
 ⟨s.ρ,s.dm,s.θ,s.κ,s.ro,s.sR,U,.inl Z,fun id h=>(h3 id h).elim .inl fun h=> .inr (.inl h),s.os,s.tape,s.output,s.size,s.cx,s.own,s.W⟩
theorem TE.trans (a:TE E H w E' H' w') (b:TE E' H' w' E'' H'' w''):TE E H w E'' H'' w'' where
 ρ:=b.ρ.trans a.ρ
 dm:=fun id h=>b.dm id (a.dm id h)
 θ:=fun id h=>(b.θ id (a.dm id h)).trans (a.θ id h)
 κ:=fun id h=>(b.κ id (a.dm id h)).trans (a.κ id h)
 ro:=fun x h=>b.ro x (a.ro x h)
 sR:=fun x h=>by
  rcases b.sR x h with h|⟨id,o,U,Z⟩|h
  ·exact a.sR x h
  ·rcases bg x w.heap.size with hx|hx
   ·obtain⟨s5,o0,h3,h4⟩:=a.own id o U (by rw [Z]; exact hx);exact .inr (.inl ⟨s5,o0,h3,h4.trans Z⟩)
   ·exact .inr (.inr hx)
  ·exact .inr (.inr (bq a.size h))
 os:=b.os.trans a.os
 tape:=b.tape.trans a.tape
 output:=b.output.trans a.output
 size:=bq a.size b.size
 cx:=fun x hx hn=>by rw [b.cx x (anh hx a.size) ?_,a.cx x hx hn];intro id o ho he;obtain⟨s5,o0,h0,he0⟩:=a.own id o ho (by rw [he]; exact hx);exact hn s5 o0 h0 (he0.trans he)
 own:=fun id o ho gv=>by obtain⟨id1,o1,U,Ze⟩:=b.own id o ho (anh gv a.size);obtain⟨s5,o0,h0,he0⟩:=a.own id1 o1 U (by rw [Ze]; exact gv);exact⟨s5,o0,h0,he0.trans Ze⟩
 W:=b.W.trans a.W
theorem TE.keeps [bK] (s:TE E H w E' H' w') (r:bR E H w):fY E w.heap E' w'.heap:=
 ⟨s.ρ,s.dm,s.θ,s.κ,s.ro,fun b hb=>s.cx b (r.su b hb) fun id o ho he=>(r.live id o ho).2.2 (by rw [he]; exact hb)⟩
theorem bR.part [bK] {H1:Hp} (r:bR E H w) (sub: ∀id o,H1.get id=some o->H.get id=some o) (hn:H.next<=H1.next) (hr: ∀q,H1.res=some q->q<H1.next/\¬E.dm q):bR E H1 w:=
 ⟨fun id h=>r.fresh id (bq hn h),hr,fun id o h=>r.live id o (sub id o h),fun i j o o' h h' e=>r.inj i j o o' (sub _ _ h) (sub _ _ h') e,r.su,r.kj,fun b x hb=> ⟨(r.hid b x hb).1,(r.hid b x hb).2.1,fun id o h=>(r.hid b x hb).2.2 id o (sub id o h)⟩⟩
theorem Zs [bK] {H1 QV:Hp} (r:bR E H w) (sub: ∀id o,H1.get id=some o->H.get id=some o) (st:fq E H1 w E' QV w') (r':bR E' QV w') (n:Nat) (hn: ∀id,n<=id->¬E'.dm id) :
 ∃H':Hp,H'=⟨Tr.over QV.m (Tr.minus H1.m H.m),n,none⟩/\(∀id o,QV.get id=some o->H'.get id=some o)/\(∀id o,H.get id=some o->H1.get id=none->H'.get id=some o)/\bR E' H' w'/\TE E H w E' H' w':=by
 have ai9: ∀id o,H.get id=some o->H1.get id=none->QV.get id=none:=by
  intro id o h U
  cases Z:QV.get id with
  |none=>rfl
  |some o'=>
   exfalso;have W:=(r.live id o h).1;have hθ:=st.θ id W;obtain⟨s5,o0,g1,g2⟩:=st.own id o' Z (by rw [hθ]; exact gC r h);have:=r.inj s5 id o0 o (sub _ _ g1) h (by rw [g2,hθ])
   grind
 have wb: ∀id,(⟨Tr.over QV.m (Tr.minus H1.m H.m),n,none⟩ : Hp).get id=match QV.get id with |some x=>some x|none=>match H1.get id with |some _=>none|none=>H.get id:=by
  intro id;simp only [Hp.get,Tr.Fo,Tr.B4]
  grind
 have qo: ∀id o,(⟨Tr.over QV.m (Tr.minus H1.m H.m),n,none⟩ : Hp).get id=some o->QV.get id=some o\/(QV.get id=none/\H1.get id=none/\H.get id=some o):=by
  intro id o h
  grind
 have uZ: ∀id o,H1.get id=none->H.get id=some o->w'.heap[(E.θ id).1]?=w.heap[(E.θ id).1]?:=by
  intro id o U h;refine st.cx _ (gC r h) fun s5 o0 h0 he=>?_;have:=r.inj s5 id o0 o (sub _ _ h0) h he
  grind
 have k:fY E w.heap E' w'.heap:=⟨st.ρ,st.dm,st.θ,st.κ,st.ro,fun b hb=>st.cx b (r.su b hb) fun id o ho he=>(r.live id o (sub _ _ ho)).2.2 (by rw [he]; exact hb)⟩;refine⟨_,rfl,fun id o h=>by rw [wb,h],fun id o h U=>by rw [wb,ai9 id o h U,U]; exact h,⟨hn,ae,?_,?_,r'.su,r'.kj,?_⟩,⟨st.ρ,st.dm,st.θ,st.κ,st.ro,fun b hb=>(st.sR b hb).imp id (Or.imp (fun⟨i,o,U,Z⟩=> ⟨i,o,sub _ _ U,Z⟩) id),st.os,st.tape,st.output,st.size,?_,?_,st.W⟩⟩
 ·intro id o h;rcases qo id o h with U|⟨U,Z,h3⟩
  ·exact r'.live id o U
  ·obtain⟨g1,g2,g3⟩:=r.live id o h3;refine⟨st.dm id g1,g2.cx k g1 (uZ id o Z h3) (r.VZ st.W (fun b hb hn=>st.cx b hb fun i o ho=>hn i o (sub i o ho)) _),?_⟩;rw [st.θ id g1];intro hr;rcases st.sR _ hr with hr|⟨s5,o0,f1,f2⟩|hr
   ·grind
   ·have:=r.inj s5 id o0 o (sub _ _ f1) h3 f2
    grind
   grind [gC]
 ·intro i j o o' h h' he;rcases qo i o h with U|⟨U,Z,h3⟩ <;>rcases qo j o' h' with g1|⟨g1,g2,g3⟩
  ·exact r'.inj i j o o' U g1 he
  ·exfalso;rw [st.θ j (r.live j o' g3).1] at he;obtain⟨s5,o0,f1,f2⟩:=st.own i o U (by rw [he]; exact gC r g3);have:=r.inj s5 j o0 o' (sub _ _ f1) g3 (f2.trans he)
   grind
  ·exfalso;rw [st.θ i (r.live i o h3).1] at he;obtain⟨s5,o0,f1,f2⟩:=st.own j o' g1 (by rw [<- he]; exact gC r h3);have:=r.inj s5 i o0 o (sub _ _ f1) h3 (f2.trans he.symm)
   grind
  ·rw [st.θ i (r.live i o h3).1,st.θ j (r.live j o' g3).1] at he;exact r.inj i j o o' h3 g3 he
 ·refine r.U0 st.W st.size (fun b hb=>(st.sR b hb).imp id (Or.imp (fun⟨i,o,U,Z⟩=> ⟨i,o,sub _ _ U,Z⟩) id)) fun id o h gv=>?_;rcases qo id o h with U|⟨U,Z,h3⟩
  ·obtain⟨s5,o0,f1,f2⟩:=st.own id o U gv;exact⟨s5,o0,sub _ _ f1,f2⟩
  ·exact⟨id,o,h3,by rw [st.θ id (r.live id o h3).1]⟩
 ·intro b hb uc;exact st.cx b hb fun id o h=>uc id o (sub _ _ h)
 ·intro id o h gv;rcases qo id o h with U|⟨U,Z,h3⟩
  ·obtain⟨s5,o0,f1,f2⟩:=st.own id o U gv
   grind
  ·exact⟨id,o,h3,by rw [st.θ id (r.live id o h3).1]⟩
theorem frame [bK] {H1 QV:Hp} (r:bR E H w) (sub: ∀id o,H1.get id=some o->H.get id=some o) (st:fq E H1 w E' QV w') (r':bR E' QV w') (n:Nat) (hn: ∀id,n<=id->¬E'.dm id) :
 ∃H':Hp,H'.next=n/\H'.res=none/\(∀id o,QV.get id=some o->H'.get id=some o)/\(∀id o,H.get id=some o->H1.get id=none->H'.get id=some o)/\bR E' H' w'/\TE E H w E' H' w':=by
 obtain⟨H',h0,U,Z,h3,h4⟩:=Zs r sub st r' n hn
 grind
end
section
variable {P:Program}
def Gx [bK] (P:Program) (ρ:Nat->Int) (ops:Array Oper) (o:Oper) (S:Tr AV) (H:Hp) (v:AV) (H':Hp):Prop:=
 ∀(E:En) (a:Act) (w:World),E.ρ=ρ->bR E H w->SR E w.heap S a->
  (Region.wanted o (yielded ops a.tmps)=false/\v=AV.undef/\H'=H)\/
  (Region.wanted o (yielded ops a.tmps)=true/\p9 P o a w (fun u w'=> ∃E',fq E H w E' H' w'/\bR E' H' w'/\VR E' w'.heap v u))
theorem Gx.wpOp [bK] {ρ:Nat->Int} {ops:Array Oper} {o:Oper} {S:Tr AV} {H H':Hp} {v:AV} (h:Gx P ρ ops o S H v H') {E:En} {a:Act} {w:World} (hρ:E.ρ=ρ) (r:bR E H w) (sr:SR E w.heap S a)
 {i:Nat} (ho:ops[i]?=some o) {K:Act->World->Prop} {Q:Exit->Act->World->Prop}
 (hk: ∀(u:Value) (E':En) (w':World),fq E H w E' H' w'->bR E' H' w'->VR E' w'.heap v u->K (a.put o.dst u) w'):wpOp P ops Q i K a w:=by
 unfold Go.wpOp;simp only [ho];rcases h E a w hρ r sr with ⟨U,rfl,rfl⟩|⟨U,Z⟩
 ·rw [U];simp only [aG,if_false];exact hk undef E w (fq.refl _ _ _) r mf
 ·rw [U];simp only [if_true];exact .inl (Z _ _ fun u w' ⟨E',q1,q2,q3⟩=>hk u E' w' q1 q2 q3)
inductive Kind where
 |pa
 |e
 |r
 deriving DecidableEq
structure Gt [bK] (P:Program) (ρ:Nat->Int) (ops:Array Oper) (qd:Tr AV) (H0:Hp) where
 base:Nat
 bf:Nat->Nat->Bool
 kd:Nat->Kind
 S:Nat->Tr AV
 val:Nat->AV
 st:Nat->Nat
 nE:Nat
 hp:Nat->Hp
 un:Nat->Nat->Bool
 nH:Nat->Option dO
 gen: ∀i j,bf i j=true->∃(o:Oper) (e:Edge),ops[j]?=some o/\e∈o.after/\Region.binds .any e=true/\(e.on=i\/bf i e.on=true)
 back: ∀(j:Nat) (o:Oper),ops[j]?=some o->∀e∈o.after,Region.binds .any e=true->e.on<j
 dst: ∀(i j:Nat) (oi oj:Oper) (d:Nat),ops[i]?=some oi->ops[j]?=some oj->oi.dst=some d->oj.dst=some d->i=j
 bG: ∀(i:Nat) (o:Oper),ops[i]?=some o->∀t x,(S i).get t=some x->(∃(j:Nat) (oj:Oper),bf j i=true/\ops[j]?=some oj/\oj.dst=some t/\val j=x)\/(qd.get t=some x/\∀(j:Nat) (oj:Oper),ops[j]?=some oj->oj.dst=some t->bf i j=true)
 stl: ∀(j:Nat) (o:Oper),ops[j]?=some o->kd j= .e->st j<nE
 inj: ∀i j,kd i= .e->kd j= .e->st i=st j->i=j
 aii: ∀(j:Nat) (o:Oper),ops[j]?=some o->kd j= .e->∀m,m<st j->∃i,kd i= .e/\st i=m/\bf i j=true
 pa: ∀(i:Nat) (o:Oper),ops[i]?=some o->kd i= .pa->∃HA N,Gx P ρ ops o (S i) ⟨.nil,N,some (base+i)⟩ (val i) HA/\HA.next=N/\nH i=HA.get (base+i)/\∀k,k<=nE->(hp k).next<=N
 ev: ∀(j:Nat) (o:Oper),ops[j]?=some o->kd j= .e->∃Li,Gx P ρ ops o (S j) Li (val j) (hp (st j+1))/\Li.next=(hp (st j)).next/\Li.res=none/\
  (∀id x,Li.get id=some x->(hp (st j)).get id=some x\/∃a,bf a j=true/\un (st j) a=true/\id=base+a/\nH a=some x)/\
  (∀a,un (st j+1) a=true->un (st j) a=true/\bf a j=false)
 rd: ∀(i:Nat) (o:Oper),ops[i]?=some o->kd i= .r->∀k,k<=nE->(∀j,kd j= .e->bf j i=true->st j<k)->(∀(j:Nat) (oj:Oper),ops[j]?=some oj->kd j= .e->bf i j=true->k<=st j)->
  ∃Li,Gx P ρ ops o (S i) Li (val i) Li/\Li.next=(hp k).next/\Li.res=none/\
   (∀id x,Li.get id=some x->(hp k).get id=some x\/∃a,bf a i=true/\un k a=true/\id=base+a/\nH a=some x)
 unm: ∀k a x,k<=nE->nH a=some x->un k a=true->(hp k).get (base+a)=none
 nob: ∀i,kd i≠.pa->nH i=none
 first:base=H0.next/\base+ops.size<=(hp 0).next/\∀id x,(hp 0).get id=some x->H0.get id=some x
section
variable {gl:bK} {ρ:Nat->Int} {ops:Array Oper} {qd:Tr AV} {H0:Hp} (p:Gt P ρ ops qd H0)
structure Gt.Inv (E0:En) (a0:Act) (w0:World) (L:Nat->Prop) (a:Act) (w:World):Prop where
 defers:a.defers=a0.defers
 size:a.tmps.size=a0.tmps.size
 closed: ∀i j,p.bf i j=true->L j->L i
 ex: ∃(E:En) (Hc:Hp) (k:Nat),k<=p.nE/\(∀(j:Nat) (o:Oper),ops[j]?=some o->p.kd j= .e->(L j↔p.st j<k))/\E.ρ=ρ/\TE E0 H0 w0 E Hc w/\bR E Hc w/\Hc.next=(p.hp k).next/\Hc.res=none/\
  p.base+ops.size<=Hc.next/\(∀id,E.dm id->E0.dm id\/H0.next<=id)/\(∀(i:Nat) (o:Oper),ops[i]?=some o->¬L i->¬E.dm (p.base+i))/\
  (∀id x,(p.hp k).get id=some x->Hc.get id=some x)/\(∀b x,L b->p.un k b=true->p.nH b=some x->Hc.get (p.base+b)=some x)/\
  (∀t x,qd.get t=some x->(∀(j:Nat) (oj:Oper),ops[j]?=some oj->oj.dst=some t->¬L j)->∃u,a.tmps[t]?=some u/\VR E w.heap x u)/\
  (∀(j:Nat) (oj:Oper) (t:Nat),L j->ops[j]?=some oj->oj.dst=some t->∃u,a.tmps[t]?=some u/\VR E w.heap (p.val j) u)
theorem EB {a:Act} {d:Option Nat} {u:Value} {t:Nat} (h:d≠some t):(a.put d u).tmps[t]?=a.tmps[t]?:=by
 cases d with
 |none=>rfl
 |some x=>
  simp only [Act.put]
  grind
theorem aat {a:Act} {u:Value} {t:Nat} (h:t<a.tmps.size):(a.put (some t) u).tmps[t]?=some u:=by simp [Act.put,h]
theorem Gt.aj8: ∀(j i:Nat),p.bf i j=true->i<j/\j<ops.size:=by
 intro j
 induction j using Nat.strongRecOn with
 |_ j ih=>
  intro i h;obtain⟨o,e,g1,g2,g3,g4⟩:=p.gen i j h;have gv:=p.back j o g1 e g2 g3
  grind
theorem Gt.aeb {i j:Nat} (h:p.bf i j=true): ∃o:Oper,ops[i]?=some o:=by have:=p.aj8 j i h;exact⟨ops[i]'J,ae⟩
theorem Gt.step {E0:En} {a0:Act} {w0:World} {L:Nat->Prop} {a:Act} {w:World} (W: ∀o∈ops.toList,∀d,o.dst=some d->d<a0.tmps.size) (inv:p.Inv E0 a0 w0 L a w) {i:Nat} {o:Oper} (ho:ops[i]?=some o) (hL: ¬L i)
 (hr: ∀e∈o.after,Region.binds .any e=true->L e.on) {K:Act->World->Prop} {Q:Exit->Act->World->Prop} (hk: ∀a' w',p.Inv E0 a0 w0 (fun j=>j=i\/L j) a' w'->K a' w'):wpOp P ops Q i K a w:=by
 obtain⟨U,Z,DK,E,Hc,k,L_,DI,hρ,LA,rel,hnx,yQ,k7,u4,hun,hhp,nZ,vZ,hs1⟩:=inv
 have hbf: ∀j,p.bf j i=true->L j:=by
  intro j hj;obtain⟨o',e,g1,g2,g3,g4⟩:=p.gen j i hj;rw [ho] at g1;simp at g1;subst g1;have:=hr e g2 g3;rcases g4 with rfl|g4
  ·exact this
  ·exact DK j e.on g4 this
 have hii:p.bf i i≠true:=fun h=>hL (hbf i h);have Ao:i<ops.size:=(anf.1 ho).1
 have sr:SR E w.heap (p.S i) a:=by
  intro t x ht;rcases p.bG i o ho t x ht with ⟨j,oj,g1,g2,g3,g4⟩|⟨g1,g2⟩
  ·subst g4;exact hs1 j oj t (hbf j g1) g2 g3
  ·exact vZ t x g1 fun j oj hj hjt hLj=>hL (DK i j (g2 j oj hj hjt) hLj)
 have JT: ∀x j,p.bf x j=true->(j=i\/L j)->(x=i\/L x):=by
  intro x j hx hj;rcases hj with rfl|hj
  ·exact .inr (hbf x hx)
  ·exact .inr (DK x j hx hj)
 have fin: ∀(u:Value) (E':En) (Og:Hp) (w':World) (k':Nat),TE E Hc w E' Og w'->bR E' Og w'->VR E' w'.heap (p.val i) u->k'<=p.nE->(∀(j:Nat) (o:Oper),ops[j]?=some o->p.kd j= .e->((j=i\/L j)↔p.st j<k'))->
  Og.next=(p.hp k').next->Og.res=none->Hc.next<=Og.next->(∀id,E'.dm id->E.dm id\/Hc.next<=id\/id=p.base+i)->(∀id x,(p.hp k').get id=some x->Og.get id=some x)->
  (∀b x,(b=i\/L b)->p.un k' b=true->p.nH b=some x->Og.get (p.base+b)=some x)->K (a.put o.dst u) w':=by
  intro u E' Og w' k' q1 q2 q3 q4 q5 q6 q7 q8 q9 q10 q11;have kp:=q1.keeps rel;refine hk _ _ ⟨by rw [As.put_defers]; exact U,by rw [EA]; exact Z,JT,E',Og,k',q4,q5,q1.ρ.trans hρ,LA.trans q1,q2,q6,q7,bq k7 q8,?_,?_,q10,q11,?_,?_⟩
  ·intro id h;rcases q9 id h with h|h|h
   ·exact u4 id h
   ·right;have:=p.first.1;omega
   ·right;have:=p.first.1;omega
  ·intro j oj hj hn hdj;have hj2:=(anf.1 hj).1;rcases q9 _ hdj with h|h|h
   ·exact hun j oj hj (fun h'=>hn (.inr h')) h
   ·omega
   ·exact hn (.inl J)
  ·intro t x ht uc;obtain⟨y,g1,g2⟩:=vZ t x ht fun j oj hj hjt h'=>uc j oj hj hjt (.inr h');exact⟨y,by rw [EB (fun e=>uc i o ho e (.inl rfl))]; exact g1,VR.cx kp _ _ g2⟩
  ·intro j oj t hj pR ht;by_cases hji:j=i
   ·subst hji;rw [ho] at pR;simp at pR;subst pR;rw [ht];exact⟨u,aat (by rw [Z]; exact W o (Array.mem_toList_iff.2 (aoD ho)) t ht),q3⟩
   ·obtain⟨y,g1,g2⟩:=hs1 j oj t (hj.resolve_left hji) pR ht;refine⟨y,?_,VR.cx kp _ _ g2⟩;rw [EB]
    ·exact g1
    ·intro h;exact hji (p.dst j i oj o t pR ho ht h)
 cases zl:p.kd i with
 |pa=>
  obtain⟨HA,N,g1,g2,g3,g4⟩:=p.pa i o ho zl;have hN:=g4 k L_;have ak9:=hun i o ho hL
  have r1:bR E ⟨.nil,N,some (p.base+i)⟩ w:=rel.part (by intro id x h; simp [Hp.get,Tr.get] at h) (by show Hc.next<=N; omega) (by
   intro q hq;simp at hq;subst hq
   exact⟨by show p.base+i<N; omega,ak9⟩)
  refine g1.wpOp hρ r1 sr ho fun u E' w' st r' hv=>?_
  have hdn: ∀id,E'.dm id->E.dm id\/id=p.base+i:=by
   intro id h;rcases st.M? id h with h|h|h
   ·exact .inl h
   ·have h':N<=id/\id<HA.next:=h;omega
   ·have h':some (p.base+i)=some id:=h;simp at h';exact .inr h'.symm
  obtain⟨Og,f1,f2,f3,f4,f5,f6⟩:=frame rel (by intro id x h; simp [Hp.get,Tr.get] at h) st r' Hc.next (fun id hid h=>by
   rcases hdn id h with h|h
   ·exact rel.fresh id hid h
   ·omega)
  refine fin u E' Og w' k f6 f5 hv L_ ?_ (by rw [f1,hnx]) f2 J (fun id h=>(hdn id h).elim .inl fun h=> .inr (.inr h)) ?_ ?_
  ·intro j oj pR hj;rw [<- DI j oj pR hj];constructor
   ·intro h;rcases h with rfl|h
    ·rw [zl] at hj; simp at hj
    ·exact h
   ·exact .inr
  ·intro id x h;exact f4 id x (hhp id x h) (by simp [Hp.get,Tr.get])
  ·intro b x hb hu hx;by_cases hbi:b=i
   ·subst hbi;rw [hx] at g3;exact f3 _ _ g3.symm
   ·exact f4 _ x (nZ b x (hb.resolve_left hbi) hu hx) (by simp [Hp.get,Tr.get])
 |e=>
  obtain⟨Li,g1,g2,g3,g4,g5⟩:=p.ev i o ho zl
  have U3:k<=p.st i:=by
   rcases bg (p.st i) k with h|h
   ·exact absurd ((DI i o ho zl).2 h) hL
   ·exact h
  have hsk:p.st i=k:=by
   rcases bg k (p.st i) with h|h
   ·obtain⟨j,e1,e2,e3⟩:=p.aii i o ho zl k h;have hj:=hbf j e3;obtain⟨oj,pR⟩:=p.aeb e3;have:=(DI j oj pR e1).1 hj;omega
   ·omega
  rw [hsk] at g1 g2 g4 g5;have hkE:=p.stl i o ho zl
  have oI: ∀id x,Li.get id=some x->Hc.get id=some x:=by
   intro id x h;rcases g4 id x h with h|⟨b,e1,e2,rfl,e4⟩
   ·exact hhp id x h
   ·exact nZ b x (hbf b e1) e2 e4
  have r1:bR E Li w:=rel.part oI J (by rw [g3]; simp);refine g1.wpOp hρ r1 sr ho fun u E' w' st r' hv=>?_
  have hdn: ∀id,E'.dm id->E.dm id\/Hc.next<=id:=by
   intro id h;rcases st.M? id h with h|h|h
   ·exact .inl h
   ·right; omega
   ·rw [g3] at h; simp at h
  obtain⟨Og,f1,f2,f3,f4,f5,f6⟩:=frame rel oI st r' (p.hp (k+1)).next (fun id hid h=>r'.fresh id hid h)
  have amA:=st.RN;refine fin u E' Og w' (k+1) f6 f5 hv J ?_ f1 f2 J (fun id h=>(hdn id h).elim .inl fun h=> .inr (.inl h)) f3 ?_
  ·intro j oj pR hj;constructor
   ·intro h;rcases h with rfl|h
    ·omega
    ·have:=(DI j oj pR hj).1 h;omega
   ·intro h;rcases bg (p.st j) k with h'|h'
    ·exact .inr ((DI j oj pR hj).2 h')
    ·exact .inl (p.inj j i hj zl J)
  ·intro b x hb hu hx;obtain⟨e1,e2⟩:=g5 b hu;by_cases hbi:b=i
   ·subst hbi;rw [p.nob b (by rw [zl]; simp)] at hx;simp at hx
   ·refine f4 _ x (nZ b x (hb.resolve_left hbi) e1 hx) ?_
    cases hy:Li.get (p.base+b) with
    |none=>rfl
    |some y=>
     exfalso;rcases g4 _ y hy with h|⟨c,c1,c2,c3,c4⟩
     ·rw [p.unm k b x L_ hx e1] at h;simp at h
     ·have:c=b:=J
      subst this;rw [e2] at c1;simp at c1
 |r=>
  have ni: ∀j,p.kd j= .e->p.bf j i=true->p.st j<k:=by intro j hj hb;obtain⟨oj,pR⟩:=p.aeb hb;exact (DI j oj pR hj).1 (hbf j hb)
  have Bg: ∀(j:Nat) (oj:Oper),ops[j]?=some oj->p.kd j= .e->p.bf i j=true->k<=p.st j:=by
   intro j oj pR hj hb;rcases bg (p.st j) k with h|h
   ·exact absurd (DK i j hb ((DI j oj pR hj).2 h)) hL
   ·exact h
  obtain⟨Li,g1,g2,g3,g4⟩:=p.rd i o ho zl k L_ ni Bg
  have oI: ∀id x,Li.get id=some x->Hc.get id=some x:=by
   intro id x h;rcases g4 id x h with h|⟨b,e1,e2,rfl,e4⟩
   ·exact hhp id x h
   ·exact nZ b x (hbf b e1) e2 e4
  have r1:bR E Li w:=rel.part oI J (by rw [g3]; simp);refine g1.wpOp hρ r1 sr ho fun u E' w' st r' hv=>?_
  have hdn: ∀id,E'.dm id->E.dm id:=by
   intro id h;rcases st.M? id h with h|h|h
   ·exact h
   ·omega
   ·rw [g3] at h; simp at h
  obtain⟨Og,f1,f2,f3,f4,f5,f6⟩:=frame rel oI st r' Hc.next (fun id hid h=>rel.fresh id hid (hdn id h))
  have BX: ∀id x,Hc.get id=some x->Og.get id=some x:=by
   intro id x h
   cases h':Li.get id with
   |none=>exact f4 id x h h'
   |some y=> have:=oI id y h';rw [h] at this;simp at this;subst this;exact f3 id x h'
  refine fin u E' Og w' k f6 f5 hv L_ ?_ (by rw [f1,hnx]) f2 J (fun id h=> .inl (hdn id h)) (fun id x h=>BX id x (hhp id x h)) ?_
  ·intro j oj pR hj;rw [<- DI j oj pR hj];constructor
   ·intro h;rcases h with rfl|h
    ·rw [zl] at hj; simp at hj
    ·exact h
   ·exact .inr
  ·intro b x hb hu hx;by_cases hbi:b=i
   ·subst hbi;rw [p.nob b (by rw [zl]; simp)] at hx;simp at hx
   ·exact BX _ x (nZ b x (hb.resolve_left hbi) hu hx)
def left (l:Nat->Bool):Nat->Nat
 |0=>0
 |n+1=>left l n+(if l n then 0 else 1)
theorem R4 {l l':Nat->Bool} (h: ∀j,l j=true->l' j=true): ∀n,left l' n<=left l n
 |0=>az _
 |n+1=>by
  have:=R4 h n;simp only [left]
  grind
theorem RZ {l l':Nat->Bool} (h: ∀j,l j=true->l' j=true) {i:Nat} (U:l i=false) (Z:l' i=true): ∀n,i<n->left l' n<left l n
 |0,hi=>by omega
 |n+1,hi=>by
  have hle:=R4 h n;simp only [left];by_cases Ao:i=n
  ·grind
  ·have:=RZ h U Z n J
   grind
theorem BP {l:Nat->Bool}: ∀n,left l n=0->∀i,i<n->l i=true
 |0,_,i,hi=>by omega
 |n+1,h,i,hi=>by
  simp only [left] at h;by_cases Ao:i=n
  ·grind
  ·exact BP n J i J
theorem Gt.Uv (q:Gt P ρ ops qd H0) {listed:Array Bool} (iR:listed.size=ops.size) (h:Region.ready .any ops listed= []): ∀i,i<ops.size->listed[i]?=some true:=by
 intro i
 induction i using Nat.strongRecOn with
 |_ i ih=>
  intro hi
  cases Y:listed[i]? with
  |none=>rw [aoW] at Y; omega
  |some b=>
   cases b with
   |true=>rfl
   |false=>
    exfalso;have ho:ops[i]?=some ops[i]:=by simp [hi]
    have:i∈Region.ready .any ops listed:=by rw [mem_ready];refine⟨by simp [Y],ops[i],ho,fun e he hb=>?_⟩;have gv:=q.back i _ ho e he hb;simp [ih e.on gv J]
    grind
theorem Gt.any {E0:En} {a0:Act} {w0:World} (W: ∀o∈ops.toList,∀d,o.dst=some d->d<a0.tmps.size) {Q:Exit->Act->World->Prop} (hq: ∀a w,p.Inv E0 a0 w0 (fun i=>i<ops.size) a w->Q .normal a w) :
 ∀(fuel:Nat) (listed:Array Bool) (a:Act) (w:World),listed.size=ops.size->left (fun i=>listed.getD i true) ops.size<=fuel->p.Inv E0 a0 w0 (fun i=>listed[i]?=some true) a w->wpAny P .any ops Q fuel listed a w:=by
 have Zd: ∀(listed:Array Bool) (a:Act) (w:World),listed.size=ops.size->p.Inv E0 a0 w0 (fun i=>listed[i]?=some true) a w->Region.ready .any ops listed= []->Q .normal a w:=by
  intro listed a w iR inv k8;have BX:=p.Uv iR k8;refine hq a w ?_
  have:(fun i=>listed[i]?=some true)=(fun i=>i<ops.size):=by
   grind
  grind
 intro fuel
 induction fuel with
 |zero=>
  intro listed a w iR Sq inv;have BX:=BP (l:=fun i=>listed.getD i true) ops.size J
  have k8:Region.ready .any ops listed= []:=by
   rw [aoe];intro i hi;rw [mem_ready] at hi
   grind
  exact⟨k8,Zd listed a w iR inv k8⟩
 |succ fuel ih=>
  intro listed a w iR Sq inv;refine⟨Zd listed a w iR inv,fun i hi=>?_⟩;rw [mem_ready] at hi;obtain⟨U,o,Z,h3⟩:=hi;have Ao:=(anf.1 Z).1
  have rT:listed[i]?=some false:=by simp_all
  refine p.step W inv Z (by rw [rT]; simp) (fun e he hb=>?_) fun a' w' amE=>?_
  ·have:=h3 e he hb
   cases hc:listed[e.on]? with
   |none=>simp [hc] at this
   |some b=>simp [hc] at this; rw [this]
  ·refine ih _ a' w' (by simpa using iR) ?_ ?_
   ·have:=RZ (l:=fun j=>listed.getD j true) (l':=fun j=>(listed.setIfInBounds i true).getD j true) (i:=i) (fun j hj=>?_) U ?_ ops.size Ao
    ·omega
    ·by_cases hij:i=j
     all_goals simp_all
    simp_all
   grind
theorem Gt.start {E0:En} {s0:St} {a0:Act} {w0:World} (hs:s0.bG=qd) (hh:s0.h=H0) (hρ:E0.ρ=ρ) (fit:Fit E0 s0 a0 w0) (listed:Array Bool) (Y: ∀(i:Nat),listed[i]?≠some true):p.Inv E0 a0 w0 (fun i=>listed[i]?=some true) a0 w0:=by
 subst hs hh;obtain⟨U,Z,h3⟩:=p.first;have rel:=fit.rel;have r1:bR E0 ⟨s0.h.m,(p.hp 0).next,none⟩ w0:=rel.part (fun id x h=>h) (by show s0.h.next<=(p.hp 0).next; omega) ae;refine⟨rfl,rfl,fun i j _ h=>absurd h (Y j),E0,⟨s0.h.m,(p.hp 0).next,none⟩,0,ans _,fun j o _ _=> ⟨fun h=>absurd h (Y j),fun h=>by omega⟩,hρ,?_,r1,rfl,rfl,Z,fun id h=> .inl h,?_,fun id x h=>h3 id x h,fun b x h=>absurd h (Y b),?_,fun j oj t h=>absurd h (Y j)⟩
 ·have:=(fq.refl E0 s0.h w0).akp;exact⟨this.ρ,this.dm,this.θ,this.κ,this.ro,this.sR,this.os,this.tape,this.output,this.size,this.cx,this.own,this.W⟩
 ·intro i o _ _ u4;exact rel.fresh _ J u4
 ·intro t x ht _;exact fit.sr t x ht
theorem Gt.finish {E0:En} {s0 s':St} {a0 a:Act} {w0 w:World} (hh:s0.h=H0) (inv:p.Inv E0 a0 w0 (fun i=>i<ops.size) a w) (hpc:bY ρ s'.pc)
 (alc: ∀t x,s'.bG.get t=some x->(∃(j:Nat) (oj:Oper),ops[j]?=some oj/\oj.dst=some t/\p.val j=x)\/(qd.get t=some x/\∀(j:Nat) (oj:Oper),ops[j]?=some oj->oj.dst≠some t))
 (amB: ∀id x,s'.h.get id=some x->(p.hp p.nE).get id=some x\/∃b,b<ops.size/\p.un p.nE b=true/\id=p.base+b/\p.nH b=some x)
 (acT:(p.hp p.nE).next=s'.h.next) (yQ:s'.h.res=none) (BX: ∀(m:Nat),m<p.nE->∃(j:Nat) (o:Oper),ops[j]?=some o/\p.kd j= .e/\p.st j=m):nK E0 s0 a0 w0 s' a w:=by
 subst hh;obtain⟨U,Z,DK,E,Hc,k,L_,DI,hρ,LA,rel,hnx,Pg,k7,u4,hun,hhp,nZ,vZ,hs1⟩:=inv
 have hk:k=p.nE:=by
  rcases bg k p.nE with h|h
  all_goals grind
 subst hk
 have oI: ∀id x,s'.h.get id=some x->Hc.get id=some x:=by
  intro id x h
  grind
 have hf:=p.first.1;refine⟨U,Z,E,?_,rel.part oI J (by rw [yQ]; simp),?_,by rw [hρ]; exact hpc⟩
 ·refine TE.XJ ⟨LA.ρ,LA.dm,LA.θ,LA.κ,LA.ro,LA.sR,LA.os,LA.tape,LA.output,LA.size,LA.cx,fun id o h=>LA.own id o (oI id o h),LA.W⟩ J yQ fun id h=>?_;rcases u4 id h with g|g
  ·grind
  ·right;refine⟨g,?_⟩;rcases bg id s'.h.next with g'|g'
   ·exact g'
   ·exact absurd h (rel.fresh id J)
 ·intro t x ht
  grind
end
end
end Go.As
end
section
namespace Go.As
noncomputable section
mutual
def eR:AV->AV->Bool
 | .bool a,.bool b=>ph a b
 | .int k a,.int l b=>decide (k=l)&&fv a b
 | .str a,.str b=>decide (a=b)
 | .ptr i o,.ptr j p=>decide (i=j)&&decide (o=p)
 | .vt,.vt=>true
 | .nX a,.nX b=>iY a b
 | .slice i o l c,.slice j p m d=>decide (i=j)&&decide (o=p)&&decide (l=m)&&decide (c=d)
 | .gN,.gN=>true
 | .ro a n f,.ro b m g=>iY a b&&decide (n=m)&&decide (f=g)
 | .map i,.map j=>decide (i=j)
 | .tO,.tO=>true
 | .func f a b,.func g c d=>decide (f=g)&&iY a c&&iY b d
 | .xK,.xK=>true
 | .iface t v,.iface u x=>decide (t=u)&&eR v x
 | .yH,.yH=>true
 | .agg a,.agg b=>iY a b
 | .tuple a,.tuple b=>iY a b
 | .L0 i,.L0 j=>decide (i=j)
 | .ya i a,.ya j b=>decide (i=j)&&decide (a=b)
 | .emp,.emp=>true
 | .eD a t,.eD b u=>fv a b&&Nat.beq t u
 | .kE a,.kE b=>fv a b
 | .qc i n t,.qc j m u=>Nat.beq i j&&fv n m&&Nat.beq t u
 | .AR i a x o,.AR j b y p=>Nat.beq i j&&Nat.beq a b&&fv x y&&Nat.beq o p
 | .vm i l n t,.vm j k m u=>Nat.beq i j&&fv l k&&fv n m&&Nat.beq t u
 | .any,.any=>true
 | .yl a t,.yl b u=>fv a b&&Nat.beq t u
 |_,_=>false
def iY:List AV->List AV->Bool
 |[],[]=>true
 |x::xs,y::ys=>eR x y&&iY xs ys
 |_,_=>false
end
mutual
theorem ku: ∀(x y:AV),eR x y=true->x=y
 | .bool a,y,h=>by cases y<;>simp [eR] at h<;>rw [sN _ _ h]
 | .int k a,y,h=>by cases y<;>simp [eR] at h<;>rw [h.1,cR _ _ h.2]
 | .str a,y,h=>by cases y<;>simp [eR] at h<;>simp [h]
 | .ptr i o,y,h=>by cases y<;>simp [eR] at h<;>simp [h]
 | .vt,y,h=>by cases y<;>simp [eR] at h<;>rfl
 | .nX a,y,h=>by cases y<;>simp [eR] at h; rw [gj _ _ h]
 | .slice i o l c,y,h=>by cases y<;>simp [eR] at h<;>simp [h]
 | .gN,y,h=>by cases y<;>simp [eR] at h<;>rfl
 | .ro a n f,y,h=>by cases y<;>simp [eR] at h; rw [gj _ _ h.1.1,h.1.2,h.2]
 | .map i,y,h=>by cases y<;>simp [eR] at h<;>simp [h]
 | .tO,y,h=>by cases y<;>simp [eR] at h<;>rfl
 | .func f a b,y,h=>by cases y<;>simp [eR] at h; rw [h.1.1,gj _ _ h.1.2,gj _ _ h.2]
 | .xK,y,h=>by cases y<;>simp [eR] at h<;>rfl
 | .iface t v,y,h=>by cases y<;>simp [eR] at h; rw [h.1,ku _ _ h.2]
 | .yH,y,h=>by cases y<;>simp [eR] at h<;>rfl
 | .agg a,y,h=>by cases y<;>simp [eR] at h; rw [gj _ _ h]
 | .tuple a,y,h=>by cases y<;>simp [eR] at h; rw [gj _ _ h]
 | .L0 i,y,h=>by cases y<;>simp [eR] at h<;>simp [h]
 | .ya i a,y,h=>by cases y<;>simp [eR] at h<;>simp [h]
 | .emp,y,h=>by cases y<;>simp [eR] at h<;>rfl
 | .eD a t,y,h=>by cases y<;>simp [eR] at h<;>rw [h.2,cR _ _ h.1]
 | .kE a,y,h=>by cases y<;>simp [eR] at h<;>rw [cR _ _ h]
 | .qc i n t,y,h=>by cases y<;>simp [eR] at h<;>rw [h.1.1,cR _ _ h.1.2,h.2]
 | .AR i a x o,y,h=>by cases y<;>simp [eR] at h<;>rw [h.1.1.1,h.1.1.2,cR _ _ h.1.2,h.2]
 | .vm i l n t,y,h=>by cases y<;>simp [eR] at h<;>rw [h.1.1.1,cR _ _ h.1.1.2,cR _ _ h.1.2,h.2]
 | .any,y,h=>by cases y<;>simp [eR] at h<;>rfl
 | .yl a t,y,h=>by cases y<;>simp [eR] at h<;>rw [h.2,cR _ _ h.1]
theorem gj: ∀(xs ys:List AV),iY xs ys=true->xs=ys
 |[],ys,h=>by cases ys<;>simp [iY] at h; rfl
 |x::xs,ys,h=>by
  cases ys with
  |nil=>simp [iY] at h
  |cons y ys=>simp [iY] at h; rw [ku _ _ h.1,gj _ _ h.2]
end
def EL (o:Op):List Nat:=o.operands.toList.filterMap fun
 | .tmp t=>some t
 |_=>none
def reads (all:List Oper) (o:Oper):List Nat:=match o.guard with
 |none=>EL o.op
 |some (j,_)=>match fy all j with
  |some oj=>match oj.dst with
   |some d=>d::EL o.op
   |none=>EL o.op
  |none=>EL o.op
def kindOf (tt:TT):Op->Kind
 | .load _ _=> .r
 | .lookup _ _ _ _=> .r
 | .call c=>match c.callee with
   | .builtin b=>match b with
     | .len=> .r
     | .min=> .pa
     | .max=> .pa
     |_=> .e
   |_=> .e
 | .store _ _ _=> .e
 | .insert _ _ _ _=> .e
 | .mapUpdate _ _ _ _=> .e
 | .next _ _=> .e
 | .range _ _=> .e
 | .convert t u _=>match tt t with
   |some i=>match i.kind with
    | .slice _=>match tt u with
      |some j=>match j.kind with
       | .string=> .r
       |_=> .e
      |none=> .e
    |_=> .pa
   |none=> .e
 | .panic _=> .e
 |_=> .pa
def oS (ms:List Nat):List Edge->Nat
 |[]=>0
 |e::es=>if Region.binds .any e then ((1 <<<e.on)|||ms.getD e.on 0)|||oS ms es else oS ms es
def rp:List Oper->List Nat->List Nat
 |[],ms=>ms
 |o::os,ms=>rp os (ms++ [oS ms o.after.toList])
structure Item where
 i:Nat
 o:Oper
 m:Nat
 k:Kind
 st:Nat
 rd:List Nat
def items (tt:TT) (all:List Oper) (ms:List Nat):List Oper->Nat->Nat->List Item
 |[],_,_=>[]
 |o::os,i,n=> ⟨i,o,ms.getD i 0,kindOf tt o.op,n,reads all o⟩ ::items tt all ms os (i+1) (match kindOf tt o.op with | .e=>n+1|_=>n)
def Kind.isE:Kind->Bool
 | .e=>true
 |_=>false
def Kind.isR:Kind->Bool
 | .r=>true
 |_=>false
def yF (ms:List Nat) (is:List Item) (x:Item):Bool:=
 x.o.after.toList.all (fun e=>!Region.binds .any e||decide (e.on<x.i))&&
 decide (x.m=oS ms x.o.after.toList)&&
 x.rd.all (fun t=>is.all fun y=>decide (y.o.dst≠some t)||x.m.testBit y.i||(!x.k.isR&&y.m.testBit x.i))&&
 is.all (fun y=>decide (y.i=x.i)||(match y.o.dst with |some d=>decide (x.o.dst≠some d)|none=>true))&&
 (!x.k.isE||is.all fun y=>!y.k.isE||!decide (y.i<x.i)||x.m.testBit y.i)
def Bt (is:List Item) (n:Nat) (x:Item):List Nat:=
 (List.range (n+1)).filter fun k=>is.all fun y=>!y.k.isE||((!x.m.testBit y.i||decide (y.st<k))&&(!y.m.testBit x.i||decide (k<=y.st)))
structure Stat where
 is:List Item
 nE:Nat
 rs:List (Item×List Nat)
def kG:List Item->Nat
 |[]=>0
 |x::xs=>match x.k with | .e=>kG xs+1|_=>kG xs
def stat (tt:TT) (all:List Oper):Option Stat:=
 let ms:=rp all [];let is:=items tt all ms all 0 0
 if is.all (yF ms is) then
  some ⟨is,kG is,(is.filter (·.k.isR)).map fun x=>(x,Bt is (kG is) x)⟩
 else none
def only (bG:Tr AV):List Nat->Tr AV
 |[]=> .nil
 |t::ts=>match bG.get t with
  |some v=>(only bG ts).put t (some v)
  |none=>only bG ts
structure QY where
 bG:Tr AV
 mP:List (Hp×Nat)
 iH:List (Nat×dO)
 CF:List (Option dO)
 vs:List AV
def fV (base bm mm:Nat):List (Nat×dO)->Hp->Hp
 |[],h=>h
 |(a,x)::r,h=>if bm.testBit a&&!mm.testBit a then (fV base bm mm r h).put (base+a) x else fV base bm mm r h
def SS (tt:TT) (call:eu) (all:List Oper) (o:Oper) (s:St):T (AV×St):=
 w8 all s o fun s b=>if b then Kk tt call s o.op else .ret (AV.undef,s)
def vJ (bG:Tr AV) (d:Option Nat) (v:AV):Tr AV:=match d with
 |some t=>bG.put t (some v)
 |none=>bG
def r? (tt:TT) (call:eu) (all:List Oper) (base N:Nat) (pc:List (SB×Bool)) (x:Item) (d:QY):T QY:=
 match d.mP with
 |[]=> .fail
 |(h,mm)::rest=>
  match x.k with
  | .pa=>(SS tt call all x.o ⟨only d.bG x.rd,⟨.nil,N,some (base+x.i)⟩,pc⟩).bind fun (v,s')=>
    if s'.h.next=N then
     .ret ⟨vJ d.bG x.o.dst v,d.mP,match s'.h.get (base+x.i) with |some b=>(x.i,b)::d.iH|none=>d.iH,s'.h.get (base+x.i)::d.CF,v::d.vs⟩
    else .fail
  | .e=>(SS tt call all x.o ⟨only d.bG x.rd,fV base x.m mm d.iH h,pc⟩).bind fun (v,s')=>
    if s'.h.next<=N/\s'.h.res=none then
     .ret ⟨vJ d.bG x.o.dst v,(s'.h,mm|||x.m)::(h,mm)::rest,d.iH,none::d.CF,v::d.vs⟩
    else .fail
  | .r=>(SS tt call all x.o ⟨only d.bG x.rd,fV base x.m mm d.iH h,pc⟩).bind fun (v,_)=>
    .ret ⟨vJ d.bG x.o.dst v,d.mP,d.iH,none::d.CF,v::d.vs⟩
def T.A6 {α β:Type} (pc:List (SB×Bool)) (f:List (SB×Bool)->α->T β):T α->T β
 | .fail=> .fail
 | .ret a=>f pc a
 | .split c x y=>match kM pc c with
   |some true=>T.A6 pc f x
   |some false=>T.A6 pc f y
   |none=> .split c (T.A6 ((c,true)::pc) f x) (T.A6 ((c,false)::pc) f y)
def Vq (tt:TT) (call:eu) (all:List Oper) (base N:Nat):List Item->List (SB×Bool)->QY->T (List (SB×Bool)×QY)
 |[],pc,d=> .ret (pc,d)
 |x::xs,pc,d=>(r? tt call all base N pc x d).A6 pc (Vq tt call all base N xs)
def Dx (tt:TT) (call:eu) (all:List Oper) (base:Nat) (pc:List (SB×Bool)) (x:Item) (v:AV) (S:Tr AV) (iH:List (Nat×dO)) (mP:List (Hp×Nat)):List Nat->T Unit
 |[]=> .ret ()
 |k::ks=>match fy mP k with
  |some (h,mm)=>(SS tt call all x.o ⟨S,fV base x.m mm iH h,pc⟩).bind fun (u,_)=>
   if eR u v then Dx tt call all base pc x v S iH mP ks else .fail
  |none=> .fail
def Jl (tt:TT) (call:eu) (all:List Oper) (base:Nat) (d:QY) (mP:List (Hp×Nat)) (vs:List AV):List (Item×List Nat)->List (SB×Bool)->T (List (SB×Bool))
 |[],pc=> .ret pc
 |(x,ks)::r,pc=>match fy vs x.i with
  |some v=>(Dx tt call all base pc x v (only d.bG x.rd) d.iH mP ks).A6 pc fun pc _=>Jl tt call all base d mP vs r pc
  |none=> .fail
def I1 (base:Nat) (iH:List (Nat×dO)) (mP:List (Hp×Nat)):Bool:=
 iH.all fun (a,_)=>mP.all fun (h,mm)=>mm.testBit a||(h.get (base+a)).isNone
def FY (tt:TT) (call:eu) (all:List Oper) (q:Stat) (s:St):T St:=
 match s.h.res with
 |some _=> .fail
 |none=>
 let base:=s.h.next;let n:=all.length;let N:=base+n+1099511627776
 (Vq tt call all base N q.is s.pc ⟨s.bG,[(⟨s.h.m,base+n,none⟩,0)],[],[],[]⟩).bind fun (pc,d)=>
  match d.mP with
  |[]=> .fail
  |(h,mm)::_=>
   (Jl tt call all base d d.mP.reverse d.vs.reverse q.rs pc).bind fun pc=>
    if I1 base d.iH d.mP then .ret ⟨d.bG,fV base ((1 <<<n)-1) mm d.iH h,pc⟩ else .fail
def draw (tt:TT) (call:eu) (all:List Oper) (s:St):T St:=
 match stat tt all with
 |none=> .fail
 |some q=>FY tt call all q s
end
end Go.As
end
section
namespace Go.As
section
variable {P:Program}
theorem KB [bK] {tt:TT} (cP:eJ P tt) {call:eu} (hc:iT P call) {ops:Array Oper} {o:Oper} {s s':St} {v:AV} {ρ:Nat->Int} (hp:bY ρ s.pc) (h:(SS tt call ops.toList o s).leaf ρ=some (v,s')) :
 Gx P ρ ops o s.bG s.h v s'.h:=by
 intro E a w hρ r sr;subst hρ;unfold SS at h;obtain⟨ef,fU,U⟩:=EN ⟨r,sr,hp⟩ h;cases hw:Region.wanted o (yielded ops a.tmps)<;>rw [hw] at U
 ·grind [bF]
 ·simp only [if_true] at U;obtain⟨_,_,q3⟩:=SP cP hc (s:={ s with pc:=ef }) (o:=o) r sr fU U;exact .inr ⟨rfl,q3⟩
theorem iZ {α:Type} {ρ:Nat->Int} {s:St} {c:SB} {f:St->Bool->T α} {r:α} (h:(kB s c f).leaf ρ=some r): ∃ef b,(f { s with pc:=ef } b).leaf ρ=some r:=by
 unfold kB at h;split at h
 ·rename_i b _; exact⟨s.pc,b,h⟩
 grind [T.leaf]
theorem Jv {α:Type} {ρ:Nat->Int} {s:St} {all:List Oper} {o:Oper} {f:St->Bool->T α} {r:α} (h:(w8 all s o f).leaf ρ=some r): ∃ef b,(f { s with pc:=ef } b).leaf ρ=some r:=by
 unfold w8 at h;split at h
 ·exact⟨s.pc,true,h⟩
 ·split at h
  ·split at h
   ·split at h
    ·obtain⟨ef,b,U⟩:=iZ h; exact⟨ef,_,U⟩
    ·exact⟨s.pc,_,h⟩
    grind [T.leaf]
   grind [T.leaf]
  grind [T.leaf]
theorem EO {ρ:Nat->Int} {s:St} {x:Operand} {f:AV->T (AV×St)} {r:AV×St} (h:(Bd s x f).leaf ρ=some r): ∃v,(f v).leaf ρ=some r:=by
 grind [Bd,T.leaf]
theorem w4 {ρ:Nat->Int} {s s':St} {x:Option AV} {v:AV} (h:(qY s x).leaf ρ=some (v,s')):s'=s:=by
 unfold qY at h
 grind [bF,T.leaf]
theorem aft {tt:TT} {op:Op} (h:kindOf tt op= .r):(∃t x,op= .load t x)\/(∃t x i ok,op= .lookup t x i ok)\/(∃c:Call,op= .call c/\c.callee= .builtin .len)\/∃t u x i j e,op= .convert t u x/\tt t=some i/\i.kind= .slice e/\tt u=some j/\j.kind= .string:=by
 unfold kindOf at h;split at h<;>try (simp at h; done)
 all_goals grind
theorem HH {α:Type} {ρ:Nat->Int} {s:St} {i n:V} {f:St->T α} {r:α} (h:(zS s i n f).leaf ρ=some r): ∃ef,(f { s with pc:=ef }).leaf ρ=some r:=by
 unfold zS at h;obtain⟨ga,b1,U⟩:=iZ h;split at U
 ·grind [T.leaf]
 ·obtain⟨ky,b2,Z⟩:=iZ U
  grind [T.leaf]
theorem uL {α:Type} {ρ:Nat->Int} {kk:TK} {k:AV} {r:α} {f:St->T α}: ∀{es:List (AV×AV×Nat)} {s:St},(uM kk k es s f).leaf ρ=some r->∃ef,(f { s with pc:=ef }).leaf ρ=some r
 |[],s,h=> ⟨s.pc,h⟩
 |(k',v,b)::es,s,h=>by
  simp only [uM] at h;split at h
  ·split at h
   ·exact⟨s.pc,h⟩
   ·exact uL h
  ·split at h
   ·obtain⟨ga,b1,U⟩:=iZ h;split at U
    ·grind
    ·obtain⟨ky,Z⟩:=uL U
     grind
   ·exact⟨s.pc,h⟩
theorem GJ {α:Type} {ρ:Nat->Int} {tt:TT} {t:Nat} {m k:AV} {r:α} {f:St->T α} {s:St} (h:(oB tt t m k s f).leaf ρ=some r): ∃ef,(f { s with pc:=ef }).leaf ρ=some r:=by
 unfold oB at h;split at h
 ·split at h
  ·split at h
   ·split at h
    ·exact uL h
    ·exact⟨s.pc,h⟩
   ·exact⟨s.pc,h⟩
  ·exact⟨s.pc,h⟩
 ·exact⟨s.pc,h⟩
theorem abc {s s':St} {cs:List AV} {e:V} {v:AV} {ρ:Nat->Int} (h:(It s cs e).leaf ρ=some (v,s')):s'.h=s.h:=by
 grind [It,T.leaf,HH,bF]
theorem Vi {tt:TT} {s s':St} {ty t:Nat} {k:AV} {ok:Bool} {e:V} {v:AV} {ρ:Nat->Int} (h:(AK tt ty k ok e t s).leaf ρ=some (v,s')):s'.h=s.h:=by
 unfold AK at h;split at h
 ·grind [T.leaf]
 ·split at h
  ·grind [T.leaf]
  ·obtain⟨ef,b,U⟩:=iZ h
   grind [bF]
theorem Co {α:Type} {ρ:Nat->Int} {i:V} {r:α}: ∀{ov:List (V×List AV)} {s:St} {k:St->T α},(vB i ov s k).leaf ρ=some r->∃ef,(k { s with pc:=ef }).leaf ρ=some r
 |[],s,k,h=> ⟨s.pc,h⟩
 |(j,c)::l,s,k,h=>by
  simp only [vB] at h;split at h
  ·exact⟨s.pc,h⟩
  ·obtain⟨ga,b1,U⟩:=iZ h;split at U
   ·grind
   ·obtain⟨ky,Z⟩:=Co U
    grind
theorem Vj {tt:TT} {s s':St} {ty id es off:Nat} {i:V} {v:AV} {ρ:Nat->Int} (h:(AL tt s ty id es i off).leaf ρ=some (v,s')):s'.h=s.h:=by
 unfold AL at h;split at h
 ·split at h
  ·grind [T.leaf,abc]
  ·split at h
   all_goals grind [HH,Co,w4,T.leaf]
  grind [T.leaf]
 grind [T.leaf]
theorem AD {α:Type} {ρ:Nat->Int} {x:V} {r:α}: ∀{ov:List (V×AV)} {s:St} {k:Option AV->St->T α},(uB x ov s k).leaf ρ=some r->∃o ef,(k o { s with pc:=ef }).leaf ρ=some r
 |[],s,k,h=> ⟨none,s.pc,h⟩
 |(j,c)::l,s,k,h=>by
  simp only [uB] at h;split at h
  ·exact⟨_,s.pc,h⟩
  ·obtain⟨ga,b1,U⟩:=iZ h;split at U
   ·exact⟨_,ga,U⟩
   ·obtain⟨o,ky,Z⟩:=AD U;exact⟨o,ky,Z⟩
theorem Vh {tt:TT} {ty:Nat} {k:AV} {ok:Bool} {e:V} {ov:List (V×AV)} {s s':St} {v:AV} {ρ:Nat->Int} (h:(AJ tt ty k ok e ov s).leaf ρ=some (v,s')):s'.h=s.h:=by
 unfold AJ at h;split at h
 ·simp [T.leaf] at h
 ·split at h
  ·simp [T.leaf] at h
  ·obtain⟨o,ga,U⟩:=AD h;split at U
   ·have:=bF U;simp only [au] at this;rw [<- this.2]
   ·obtain⟨ky,b2,Z⟩:=iZ U;split at Z
    ·have:=bF Z;simp only [au] at this;rw [<- this.2]
    ·simp [T.leaf] at Z
theorem agl {tt:TT} {call:eu} {op:Op} {s s':St} {v:AV} {ρ:Nat->Int} (hk:kindOf tt op= .r) (h:(Kk tt call s op).leaf ρ=some (v,s')):s'.h=s.h:=by
 rcases aft hk with ⟨t,x,rfl⟩|⟨t,x,i,ok,rfl⟩|⟨c,rfl,hc⟩|⟨t,u,x,i,j,e,rfl,hi,he,hj,hs⟩
 ·grind [Kk,EO,Vj,w4]
 ·grind [Kk,EO,Vi,Vh,GJ,w4,T.leaf]
 ·simp only [Kk,Kv] at h;split at h
  ·grind [T.leaf]
  ·rw [hc] at h;simp only [xw] at h
   grind [w4,T.leaf]
 ·simp only [Kk] at h;obtain⟨p,U⟩:=EO h;split at U
  ·grind [DS,T.leaf]
  obtain⟨H,e1,rfl⟩:=qi U;unfold pV at e1;rw [hi,hj] at e1;simp only [hs,he] at e1;split at e1
  ·grind
  ·split at e1
   ·split at e1
    ·grind
    ·split at e1
     ·rw [aZ] at e1
      grind
     grind
    grind
   grind
theorem ajN {tt:TT} {call:eu} {all:List Oper} {o:Oper} {s s':St} {v:AV} {ρ:Nat->Int} (hk:kindOf tt o.op= .r) (h:(SS tt call all o s).leaf ρ=some (v,s')):s'.h=s.h:=by
 unfold SS at h;obtain⟨ef,b,U⟩:=Jv h;cases b
 ·grind [bF]
 ·simp only [if_true] at U;exact agl (s:={ s with pc:=ef }) hk U
theorem oW {base bm mm:Nat}: ∀{l:List (Nat×dO)} {h:Hp} {id:Nat} {x:dO},(fV base bm mm l h).get id=some x->h.get id=some x\/∃a,(a,x)∈l/\bm.testBit a=true/\mm.testBit a=false/\id=base+a
 |[],h,id,x,hh=> .inl hh
 |(a,y)::r,h,id,x,hh=>by
  simp only [fV] at hh;split at hh
  ·rename_i hb;rw [Hp.bU] at hh;split at hh
   ·rename_i e
    grind
   ·rcases oW hh with U|⟨b,U,Z⟩
    all_goals grind
  ·rcases oW hh with U|⟨b,U,Z⟩
   all_goals grind
theorem j6 {base bm mm:Nat}: ∀(l:List (Nat×dO)) (h:Hp),(fV base bm mm l h).next=h.next/\(fV base bm mm l h).res=h.res
 |[],h=> ⟨rfl,rfl⟩
 |(a,y)::r,h=>by
  have:=j6 (base:=base) (bm:=bm) (mm:=mm) r h;simp only [fV];split
  ·exact this
  grind
theorem zR {bG:Tr AV}: ∀{ts:List Nat} {t:Nat} {x:AV},(only bG ts).get t=some x->t∈ts/\bG.get t=some x
 |[],t,x,h=>by simp [only,Tr.get] at h
 |u::us,t,x,h=>by
  simp only [only] at h;split at h
  ·rename_i v hv;rw [Tr.bU] at h;split at h
   ·rename_i e
    grind
   ·have:=zR h
    grind
  ·have:=zR h
   grind
theorem wX {bG:Tr AV} {d:Option Nat} {v:AV} {t:Nat}:(vJ bG d v).get t=if d=some t then some v else bG.get t:=by
 cases d with
 |none=>simp [vJ]
 |some u=>
  grind [vJ,Tr.bU]
theorem pL {ms:List Nat} {i:Nat}: ∀{es:List Edge},(oS ms es).testBit i=true->∃e∈es,Region.binds .any e=true/\(e.on=i\/(ms.getD e.on 0).testBit i=true)
 |[],h=>by simp [oS] at h
 |e::es,h=>by
  simp only [oS] at h;split at h
  ·rename_i hb;simp only [Nat.testBit_or,anA] at h;rcases h with (h|h)|h
   ·rw [Nat.shiftLeft_eq,anF,Nat.testBit_two_pow] at h
    grind
   ·grind
   ·obtain⟨e',U,Z⟩:=pL h
    grind
  ·obtain⟨e',U,Z⟩:=pL h
   grind
def j4 (tt:TT):List Oper->Nat
 |[]=>0
 |o::os=>(match kindOf tt o.op with | .e=>1|_=>0)+j4 tt os
theorem kz {tt:TT} {all:List Oper} {ms:List Nat}: ∀(os:List Oper) (i n j:Nat),(items tt all ms os i n)[j]?=(os[j]?).map fun o=> ⟨i+j,o,ms.getD (i+j) 0,kindOf tt o.op,n+j4 tt (os.take j),reads all o⟩
 |[],i,n,j=>by simp [items]
 |o::os,i,n,j=>by
  simp only [items]
  cases j with
  |zero=>simp [j4]
  |succ j=>
   rw [aN,kz os]
   grind [j4]
theorem tT {tt:TT} {all:List Oper} {ms:List Nat}: ∀(os:List Oper) (i n:Nat),(items tt all ms os i n).length=os.length
 |[],i,n=>rfl
 |o::os,i,n=>by simp [items,tT os]
theorem nC {tt:TT} {all:List Oper} {ms:List Nat}: ∀(os:List Oper) (i n:Nat),kG (items tt all ms os i n)=j4 tt os
 |[],i,n=>rfl
 |o::os,i,n=>by
  simp only [items,kG,j4,nC os]
  grind
end
section
variable {P:Program}
def Gq [bK] (P:Program) (ρ:Nat->Int) (ops:Array Oper) (base N:Nat) (x:Item) (d:QY) (v:AV) (ob:Option dO) (d1:QY):Prop:=
 ∃h mm rest,d.mP=(h,mm)::rest/\match x.k with
  | .pa=>d1.mP=d.mP/\∃HA,Gx P ρ ops x.o (only d.bG x.rd) ⟨.nil,N,some (base+x.i)⟩ v HA/\HA.next=N/\ob=HA.get (base+x.i)
  | .e=>ob=none/\∃hn,d1.mP=(hn,mm|||x.m)::d.mP/\hn.next<=N/\hn.res=none/\Gx P ρ ops x.o (only d.bG x.rd) (fV base x.m mm d.iH h) v hn
  | .r=>ob=none/\d1.mP=d.mP
theorem r! [bK] {tt:TT} (cP:eJ P tt) {call:eu} (hc:iT P call) {ops:Array Oper} {base N:Nat} {pc:List (SB×Bool)} {ρ:Nat->Int} (hp:bY ρ pc) {x:Item} {d d1:QY} (h:(r? tt call ops.toList base N pc x d).leaf ρ=some d1) :
 ∃v ob,d1.bG=vJ d.bG x.o.dst v/\d1.vs=v::d.vs/\d1.CF=ob::d.CF/\d1.iH=(match ob with |some b=>(x.i,b)::d.iH|none=>d.iH)/\Gq P ρ ops base N x d v ob d1:=by
 unfold r? at h;split at h
 ·grind [T.leaf]
 ·rename_i h0 mm rest hs;split at h
  ·rename_i hk;obtain⟨⟨v,s'⟩,U,Z⟩:=T.fL h;have ha:=KB cP hc (s:=⟨only d.bG x.rd,⟨.nil,N,some (base+x.i)⟩,pc⟩) hp U;simp only at Z;split at Z
   ·rename_i hn;have:=bF Z;subst this;refine⟨v,s'.h.get (base+x.i),rfl,rfl,rfl,?_,h0,mm,rest,hs,?_⟩
    all_goals grind
   grind [T.leaf]
  ·rename_i hk;obtain⟨⟨v,s'⟩,U,Z⟩:=T.fL h;have ha:=KB cP hc (s:=⟨only d.bG x.rd,fV base x.m mm d.iH h0,pc⟩) hp U;simp only at Z;split at Z
   ·rename_i hn;have:=bF Z;subst this;refine⟨v,none,rfl,rfl,rfl,rfl,h0,mm,rest,hs,?_⟩
    grind
   ·simp [T.leaf] at Z
  ·rename_i hk;obtain⟨⟨v,s'⟩,U,Z⟩:=T.fL h;have:=bF Z;subst this;refine⟨v,none,rfl,rfl,rfl,rfl,h0,mm,rest,hs,?_⟩
   grind
theorem Gq.mP [bK] {ρ:Nat->Int} {ops:Array Oper} {base N:Nat} {x:Item} {d d1:QY} {v:AV} {ob:Option dO} (h:Gq P ρ ops base N x d v ob d1): ∃pre,d1.mP=pre++d.mP/\pre.length=kG [x]:=by
 obtain⟨h0,mm,rest,hs,U⟩:=h;cases hk:x.k<;>rw [hk] at U
 ·simp_all [kG]
 ·obtain⟨_,hn,Z,_⟩:=U;exact⟨[(hn,mm|||x.m)],by rw [Z]; rfl,by simp [kG,hk]⟩
 simp_all [kG]
theorem Gq.nxt [bK] {ρ:Nat->Int} {ops:Array Oper} {base N:Nat} {x:Item} {d d1:QY} {v:AV} {ob:Option dO} (h:Gq P ρ ops base N x d v ob d1) (hh: ∀q∈d.mP,q.1.next<=N/\q.1.res=none): ∀q∈d1.mP,q.1.next<=N/\q.1.res=none:=by
 obtain⟨h0,mm,rest,hs,U⟩:=h
 grind
structure akg [bK] (P:Program) (ρ:Nat->Int) (ops:Array Oper) (base N:Nat) (xs:List Item) (d d':QY):Prop where
 vs: ∃pre,d'.vs=pre++d.vs/\pre.length=xs.length
 CF: ∃pre,d'.CF=pre++d.CF/\pre.length=xs.length
 mP: ∃pre,d'.mP=pre++d.mP/\pre.length=kG xs
 nH: ∀a b,(a,b)∈d'.iH->(a,b)∈d.iH\/∃p x,xs[p]?=some x/\x.i=a/\d'.CF.reverse[d.CF.length+p]?=some (some b)
 ami: ∀p x b,xs[p]?=some x->d'.CF.reverse[d.CF.length+p]?=some (some b)->(x.i,b)∈d'.iH
 amS: ∀q,q∈d.iH->q∈d'.iH
 slot: ∀t x,d'.bG.get t=some x->(∃p y,xs[p]?=some y/\y.o.dst=some t/\d'.vs.reverse[d.vs.length+p]?=some x)\/(d.bG.get t=some x/\∀y∈xs,y.o.dst≠some t)
 same: ∀t,(∀y∈xs,y.o.dst≠some t)->d'.bG.get t=d.bG.get t
 nxt:(∀q∈d.mP,q.1.next<=N/\q.1.res=none)->∀q∈d'.mP,q.1.next<=N/\q.1.res=none
 at_: ∀p x,xs[p]?=some x->∃dp Vp v ob pre,Gq P ρ ops base N x dp v ob Vp/\d'.vs.reverse[d.vs.length+p]?=some v/\d'.CF.reverse[d.CF.length+p]?=some ob/\d'.mP=pre++Vp.mP/\dp.mP.length=d.mP.length+kG (xs.take p)/\
  (∀q,q∈dp.iH->q∈d'.iH)/\(∀t,(∀y∈xs.drop p,y.o.dst≠some t)->d'.bG.get t=dp.bG.get t)/\
  (∀t z,dp.bG.get t=some z->(∃p' y,p'<p/\xs[p']?=some y/\y.o.dst=some t/\d'.vs.reverse[d.vs.length+p']?=some z)\/(d.bG.get t=some z/\∀y∈xs.take p,y.o.dst≠some t))
theorem X3 {α:Type} {l pre l0:List α} {v:α} (h:l=pre++v::l0):l.reverse[l0.length]?=some v:=by
 grind
theorem C3 (x:Item) (xs:List Item):kG (x::xs)=kG [x]+kG xs:=by
 grind [kG]
theorem T.mH {α β:Type} {ρ:Nat->Int} {f:List (SB×Bool)->α->T β} {r:β}: ∀{x:T α} {pc:List (SB×Bool)},bY ρ pc->(x.A6 pc f).leaf ρ=some r->∃a ef,x.leaf ρ=some a/\bY ρ ef/\(f ef a).leaf ρ=some r
 | .fail,pc,_,h=>by simp [T.A6,T.leaf] at h
 | .ret a,pc,hp,h=> ⟨a,pc,rfl,hp,h⟩
 | .split c x y,pc,hp,h=>by
   simp only [T.A6] at h
   cases W:kM pc c with
   |some b=>
    rw [W] at h;have hb:=gY hp W;simp only [T.leaf,hb]
    cases b with
    |true=>exact T.mH hp h
    |false=>exact T.mH hp h
   |none=>
    rw [W] at h;simp only [T.leaf] at h ⊢
    cases hb:c.den ρ with
    |true=>
     rw [hb] at h
     exact T.mH (x:=x) (pc:=(c,true)::pc) (fun c' b' hm=>by
      rcases aH.1 hm with he|hm
      ·simp only [au] at he; rw [he.1,he.2]; exact hb
      ·exact hp c' b' hm) h
    |false=>
     rw [hb] at h
     exact T.mH (x:=y) (pc:=(c,false)::pc) (fun c' b' hm=>by
      rcases aH.1 hm with he|hm
      ·simp only [au] at he; rw [he.1,he.2]; exact hb
      ·exact hp c' b' hm) h
theorem S0 {tt:TT} {call:eu} {all:List Oper} {base N:Nat} {ρ:Nat->Int}: ∀(xs:List Item) {pc ef:List (SB×Bool)} {d d':QY},bY ρ pc->(Vq tt call all base N xs pc d).leaf ρ=some (ef,d')->bY ρ ef
 |[],pc,ef,d,d',hp,h=>by
  have:=bF h
  grind
 |x::xs,pc,ef,d,d',hp,h=>by simp only [Vq] at h;obtain⟨d1,ga,_,fS,Z⟩:=T.mH hp h;exact S0 xs fS Z
theorem S3 [bK] {tt:TT} (cP:eJ P tt) {call:eu} (hc:iT P call) {ops:Array Oper} {base N:Nat} {ρ:Nat->Int}: ∀(xs:List Item) {pc ef:List (SB×Bool)} {d d':QY},bY ρ pc->(Vq tt call ops.toList base N xs pc d).leaf ρ=some (ef,d')->akg P ρ ops base N xs d d'
 |[],pc,ef,d,d',hp,h=>by have:=bF h;simp only [au] at this;obtain⟨_,rfl⟩:=this;exact⟨⟨[],rfl,rfl⟩,⟨[],rfl,rfl⟩,⟨[],rfl,rfl⟩,fun a b h=> .inl h,fun p x b hh=>by simp at hh,fun q h=>h,fun t x h=> .inr ⟨h,ae⟩,fun t _=>rfl,fun h=>h,fun p x hh=>by simp at hh⟩
 |x::xs,pc,ef,d,d',hp,h=>by
  simp only [Vq] at h;obtain⟨d1,ga,U,fS,Z⟩:=T.mH hp h;obtain⟨v,ob,e1,e2,e3,e4,hF⟩:=r! cP hc hp U;obtain⟨⟨pv,v1,v2⟩,⟨po,o1,o2⟩,⟨ps,s1,s2⟩,b1,b2,b3,sl,sm,nx,hY⟩:=S3 cP hc xs fS Z;obtain⟨qs,t1,t2⟩:=hF.mP;have hv0:d'.vs.reverse[d.vs.length]?=some v:=X3 (by rw [v1,e2]);have ho0:d'.CF.reverse[d.CF.length]?=some ob:=X3 (by rw [o1,e3]);have hvl:d1.vs.length=d.vs.length+1:=by rw [e2]; rfl
  have hol:d1.CF.length=d.CF.length+1:=by rw [e3]; rfl
  have sv: ∀q,q∈d.iH->q∈d1.iH:=by
   intro q hq
   grind
  have zk: ∀(p n:Nat),n+1+p=n+(p+1):=by intro p n; omega
  refine⟨⟨pv++ [v],by rw [v1,e2]; simp,by simp [v2]⟩,⟨po++ [ob],by rw [o1,e3]; simp,by simp [o2]⟩,⟨ps++qs,by rw [s1,t1]; simp,by rw [a8,C3,s2,t2]; omega⟩,?_,?_,fun q hq=>b3 q (sv q hq),?_,?_,fun hh=>nx (hF.nxt hh),?_⟩
  ·intro a b V2;rcases b1 a b V2 with hh|⟨p,y,g1,g2,g3⟩
   ·rw [e4] at hh
    cases ob with
    |none=>exact .inl hh
    |some c=>
     simp only [aH,au] at hh;rcases hh with ⟨rfl,rfl⟩|hh
     ·exact .inr ⟨0,x,rfl,rfl,ho0⟩
     ·exact .inl hh
   ·exact .inr ⟨p+1,y,by simpa using g1,g2,by rw [<- zk,<- hol]; exact g3⟩
  ·intro p y b hy hb
   cases p with
   |zero=> simp at hy;subst hy;rw [bx,ho0] at hb;simp at hb;subst hb;exact b3 _ (by rw [e4]; simp)
   |succ p=> refine b2 p y b (by simpa using hy) ?_;rw [hol,zk];exact hb
  ·intro t y hy;rcases sl t y hy with ⟨p,z,g1,g2,g3⟩|⟨g1,g2⟩
   ·exact .inl ⟨p+1,z,by simpa using g1,g2,by rw [<- zk,<- hvl]; exact g3⟩
   ·rw [e1,wX] at g1;split at g1
    ·rename_i W;simp at g1;subst g1;exact .inl ⟨0,x,rfl,W,hv0⟩
    ·rename_i W;refine .inr ⟨g1,fun z hz=>?_⟩;rcases aH.1 hz with rfl|hz
     ·exact W
     ·exact g2 z hz
  ·intro t ht;rw [sm t fun y hy=>ht y (by simp [hy]),e1,wX,ak (ht x ae)]
  ·intro p y hy
   cases p with
   |zero=> simp at hy;subst hy;refine⟨d,d1,v,ob,ps,hF,hv0,ho0,s1,by simp [kG],fun q hq=>b3 q (sv q hq),fun t ht=>?_,fun t z hz=> .inr ⟨hz,ae⟩⟩;rw [sm t fun y hy=>ht y (by simp [hy]),e1,wX,ak (ht x ae)]
   |succ p=>
    obtain⟨dp,Vp,v',ob',pre,g1,g2,g3,g4,g5,g6,g7,g8⟩:=hY p y (by simpa using hy);refine⟨dp,Vp,v',ob',pre,g1,by rw [<- zk,<- hvl]; exact g2,by rw [<- zk,<- hol]; exact g3,g4,?_,g6,fun t ht=>g7 t (by simpa using ht),fun t z hz=>?_⟩
    ·rw [g5,anr,C3,t1,a8,t2];omega
    ·rcases g8 t z hz with ⟨p',y',q1,q2,q3,q4⟩|⟨q1,q2⟩
     ·exact .inl ⟨p'+1,y',J,by simpa using q2,q3,by rw [<- zk,<- hvl]; exact q4⟩
     ·rw [e1,wX] at q1;split at q1
      ·rename_i W;simp at q1;subst q1;exact .inl ⟨0,x,J,rfl,W,hv0⟩
      ·rename_i W;refine .inr ⟨q1,fun u hu=>?_⟩;rw [anr] at hu;rcases aH.1 hu with rfl|hu
       ·exact W
       ·exact q2 u hu
end
section
variable {P:Program}
theorem xA {tt:TT}: ∀{l:List Oper} {i:Nat} {o:Oper},l[i]?=some o->j4 tt (l.take (i+1))=j4 tt (l.take i)+(match kindOf tt o.op with | .e=>1|_=>0)
 |[],i,o,h=>by simp at h
 |x::xs,0,o,h=>by
  simp at h;subst h;simp only [aL,anr,List.take_zero,j4]
  grind
 |x::xs,i+1,o,h=>by simp only [anr,j4];rw [xA (l:=xs) (by simpa using h)];omega
theorem Nt {tt:TT} {l:List Oper} {i:Nat} (h:l[i]?=none):j4 tt (l.take (i+1))=j4 tt (l.take i):=by have:=anV.1 h;rw [anK J,anK J]
theorem IK {tt:TT} {l:List Oper} {i:Nat}: ∀{j:Nat},i<=j->j4 tt (l.take i)<=j4 tt (l.take j)
 |0,h=>by
  grind
 |j+1,h=>by
  by_cases e:i=j+1
  ·grind
  ·have:=IK (tt:=tt) (l:=l) (i:=i) (j:=j) J
   cases ho:l[j]? with
   |none=>rw [Nt ho]; exact this
   |some o=>rw [xA ho]; omega
theorem KQ {tt:TT} {l:List Oper} {i j:Nat} {o:Oper} (ho:l[i]?=some o) (hk:kindOf tt o.op= .e) (h:i<j):j4 tt (l.take i)<j4 tt (l.take j):=by
 have U:=xA (tt:=tt) ho;rw [hk] at U;have Z:=IK (tt:=tt) (l:=l) (i:=i+1) (j:=j) h
 grind
theorem xz {tt:TT} {l:List Oper} {m:Nat}: ∀{j:Nat},m<j4 tt (l.take j)->∃i o,i<j/\l[i]?=some o/\kindOf tt o.op= .e/\j4 tt (l.take i)=m
 |0,h=>by simp [j4] at h
 |j+1,h=>by
  cases ho:l[j]? with
  |none=>
   rw [Nt ho] at h;obtain⟨i,o,U,Z⟩:=xz h
   grind
  |some o=>
   rw [xA ho] at h;rcases bg m (j4 tt (l.take j)) with h'|h'
   ·obtain⟨i,o,U,Z⟩:=xz h'
    grind
   grind
def Bf (tt:TT) (all:List Oper) (ms:List Nat) (j:Nat) (o:Oper):Item:=⟨j,o,ms.getD j 0,kindOf tt o.op,j4 tt (all.take j),reads all o⟩
theorem je {tt:TT} {all:List Oper} {ms:List Nat} {j:Nat} {o:Oper} (h:all[j]?=some o):(items tt all ms all 0 0)[j]?=some (Bf tt all ms j o):=by rw [kz,h];simp [Bf]
theorem HY {tt:TT} {all:List Oper} {ms:List Nat} {x:Item} (h:x∈items tt all ms all 0 0): ∃j o,all[j]?=some o/\x=Bf tt all ms j o:=by
 obtain⟨j,hj⟩:=aof h
 cases ho:all[j]? with
 |none=>rw [kz,ho] at hj; simp at hj
 |some o=>
  rw [je ho] at hj
  grind
structure aed (tt:TT) (all:List Oper) (ms:List Nat):Prop where
 back: ∀(j:Nat) (o:Oper),all[j]?=some o->∀e∈o.after,Region.binds .any e=true->e.on<j
 mask: ∀(j:Nat) (o:Oper),all[j]?=some o->ms.getD j 0=oS ms o.after.toList
 rd: ∀(j:Nat) (o:Oper),all[j]?=some o->∀t∈reads all o,∀(i:Nat) (oi:Oper),all[i]?=some oi->oi.dst=some t->(ms.getD j 0).testBit i=true\/(kindOf tt o.op≠.r/\(ms.getD i 0).testBit j=true)
 dst: ∀(i j:Nat) (oi oj:Oper) (d:Nat),all[i]?=some oi->all[j]?=some oj->oi.dst=some d->oj.dst=some d->i=j
 tot: ∀(i j:Nat) (oi oj:Oper),all[i]?=some oi->all[j]?=some oj->kindOf tt oi.op= .e->kindOf tt oj.op= .e->i<j->(ms.getD j 0).testBit i=true
theorem aac {tt:TT} {all:List Oper} {q:Stat} (h:stat tt all=some q): ∃ms,q.is=items tt all ms all 0 0/\q.nE=j4 tt all/\q.rs=((q.is.filter (·.k.isR)).map fun x=>(x,Bt q.is q.nE x))/\aed tt all ms:=by
 unfold stat at h;simp only at h;split at h
 ·rename_i pf;simp at h;subst h;refine⟨rp all [],rfl,nC _ _ _,rfl,?_⟩;have key: ∀(j:Nat) (o:Oper),all[j]?=some o->yF (rp all []) (items tt all (rp all []) all 0 0) (Bf tt all (rp all []) j o)=true:=fun j o ho=>bh.1 pf _ (amW (je ho));have mem: ∀(j:Nat) (o:Oper),all[j]?=some o->Bf tt all (rp all []) j o∈items tt all (rp all []) all 0 0:=fun j o ho=>amW (je ho);refine⟨?_,?_,?_,?_,?_⟩
  ·intro j o ho e he hb;have:=key j o ho;simp only [yF,aw,bh] at this;have:=this.1.1.1.1 e (by simpa [Bf] using he);simpa [hb,Bf] using this
  ·intro j o ho;have:=key j o ho;simp only [yF,aw] at this;have:=this.1.1.1.2;simpa [Bf] using this
  ·intro j o ho t ht i oi hoi W;have:=key j o ho;simp only [yF,aw,bh] at this;have:=this.1.1.2 t ht _ (mem i oi hoi);simp only [Bf,W,ne_eq,not_true_eq_false,decide_false,anZ,anA,aw,anj] at this;rcases this with h|⟨U,Z⟩
   ·grind
   ·refine .inr ⟨fun hk=>?_,Z⟩;rw [hk] at U;simp [Kind.isR] at U
  ·intro i j oi oj d hi hj hdi hdj;have:=key i oi hi;simp only [yF,aw,bh] at this;have:=this.1.2 _ (mem j oj hj);simp [Bf,hdi,hdj] at this
   grind
  ·intro i j oi oj hi hj L! hkj gv;have:=key j oj hj;simp only [yF,aw,bh] at this;have:=this.2;simp only [Bf,hkj,Kind.isE,aog,anZ,bh] at this;have:=this _ (mem i oi hi);simpa [Bf,L!,Kind.isE,gv] using this
 grind
theorem Ey [bK] {tt:TT} (cP:eJ P tt) {call:eu} (hc:iT P call) {ops:Array Oper} {base:Nat} {pc:List (SB×Bool)} {ρ:Nat->Int} (hp:bY ρ pc) {x:Item} (hk:kindOf tt x.o.op= .r) {v:AV} {S:Tr AV} {iH:List (Nat×dO)} {mP:List (Hp×Nat)}: ∀(ks:List Nat),(Dx tt call ops.toList base pc x v S iH mP ks).leaf ρ=some ()->
 ∀k∈ks,∃h mm,mP[k]?=some (h,mm)/\Gx P ρ ops x.o S (fV base x.m mm iH h) v (fV base x.m mm iH h)
 |[],_=>by simp
 |k::ks,h=>by
  simp only [Dx] at h;split at h
  ·rename_i h0 mm hn;obtain⟨⟨u,s'⟩,U,Z⟩:=T.fL h;simp only at Z;split at Z
   ·rename_i hs;have ha:=KB cP hc (s:=⟨S,fV base x.m mm iH h0,pc⟩) hp U;have hr:=ajN hk U;rw [hr,ku _ _ hs] at ha;intro k' GC;rcases aH.1 GC with rfl|GC
    ·exact⟨h0,mm,by rw [<- du]; exact hn,ha⟩
    ·exact Ey cP hc hp hk ks Z k' GC
   ·simp [T.leaf] at Z
  ·simp [T.leaf] at h
theorem Ht [bK] {tt:TT} (cP:eJ P tt) {call:eu} (hc:iT P call) {ops:Array Oper} {base:Nat} {ρ:Nat->Int} {d:QY} {mP:List (Hp×Nat)} {vs:List AV}: ∀(rs:List (Item×List Nat)) {pc ef:List (SB×Bool)},bY ρ pc->(∀r∈rs,kindOf tt r.1.o.op= .r)->(Jl tt call ops.toList base d mP vs rs pc).leaf ρ=some ef->
 bY ρ ef/\∀r∈rs,∃v,vs[r.1.i]?=some v/\∀k∈r.2,∃h mm,mP[k]?=some (h,mm)/\Gx P ρ ops r.1.o (only d.bG r.1.rd) (fV base r.1.m mm d.iH h) v (fV base r.1.m mm d.iH h)
 |[],pc,ef,hp,_,h=>by
  have:=bF h
  grind
 |(x,ks)::rs,pc,ef,hp,hk,h=>by
  simp only [Jl] at h;split at h
  ·rename_i v hv;obtain⟨⟨⟩,ga,U,fS,Z⟩:=T.mH hp h;obtain⟨kf,ih⟩:=Ht cP hc rs fS (fun r hr=>hk r (by simp [hr])) Z;refine⟨kf,fun r hr=>?_⟩;rcases aH.1 hr with rfl|hr
   ·exact⟨v,by rw [<- du]; exact hv,Ey cP hc hp (hk _ ae) ks U⟩
   grind
  ·simp [T.leaf] at h
end
section
variable {P:Program}
theorem aaq {α:Type} {l pre:List α} {a b:α} {l0:List α} (h:l=pre++a::b::l0):l.reverse[l0.length]?=some b/\l.reverse[l0.length+1]?=some a:=by
 grind
theorem Ui {n b:Nat} (h:((1 <<<n)-1).testBit b=true):b<n:=by
 rw [Nat.shiftLeft_eq,anF,Nat.testBit_two_pow_sub_one] at h
 grind
theorem aau [bK] {tt:TT} {ops:Array Oper} {ms:List Nat} {ρ:Nat->Int} {qd:Tr AV} {H0:Hp} {base N:Nat} {d:QY} (sf:aed tt ops.toList ms) (hb:base=H0.next) (hN:base+ops.size<=N)
 (rf:akg P ρ ops base N (items tt ops.toList ms ops.toList 0 0) ⟨qd,[(⟨H0.m,base+ops.size,none⟩,0)],[],[],[]⟩ d)
 (Pg: ∀r∈((items tt ops.toList ms ops.toList 0 0).filter (·.k.isR)).map fun x=>(x,Bt (items tt ops.toList ms ops.toList 0 0) (j4 tt ops.toList) x),∃v,d.vs.reverse[r.1.i]?=some v/\∀k∈r.2,∃h mm,d.mP.reverse[k]?=some (h,mm)/\Gx P ρ ops r.1.o (only d.bG r.1.rd) (fV base r.1.m mm d.iH h) v (fV base r.1.m mm d.iH h))
 (hun:I1 base d.iH d.mP=true) :
 ∃p:Gt P ρ ops qd H0,p.base=base/\p.nE=j4 tt ops.toList/\(∀i,p.val i=(d.vs.reverse[i]?).getD .vt)/\(∀k h mm,d.mP.reverse[k]?=some (h,mm)->p.hp k=h/\∀a,p.un k a=!mm.testBit a)/\(∀i,p.nH i=(d.CF.reverse[i]?).getD none)/\
  (∀(m:Nat),m<p.nE->∃(j:Nat) (o:Oper),ops[j]?=some o/\p.kd j= .e/\p.st j=m):=by
 have iR: ∀(j:Nat),ops.toList[j]?=ops[j]?:=fun j=>amZ;have gv: ∀{j:Nat} {o:Oper},ops[j]?=some o->j<ops.size:=fun h=>(anf.1 h).1;have hci:kG (items tt ops.toList ms ops.toList 0 0)=j4 tt ops.toList:=nC _ _ _;have H9:j4 tt ops.toList=j4 tt (ops.toList.take ops.size):=by rw [anK ae]
 obtain⟨ps,s1,s2⟩:=rf.mP;rw [hci] at s2;have amI:d.mP.length=j4 tt ops.toList+1:=by rw [s1,a8,s2]; rfl
 have alb:d.mP.reverse[0]?=some (⟨H0.m,base+ops.size,none⟩,0):=by rw [s1]; simp
 have ai2: ∀k,k<=j4 tt ops.toList->∃h mm,d.mP.reverse[k]?=some (h,mm):=by
  intro k hk;have:k<d.mP.reverse.length:=by rw [aoE]; omega
  exact⟨d.mP.reverse[k].1,d.mP.reverse[k].2,aW this⟩
 have hnx:=rf.nxt (by
  intro q hq;simp only [aH,am6,or_false] at hq;subst hq
  exact⟨hN,rfl⟩)
 have afH: ∀(k:Nat) (h:Hp) (mm:Nat),d.mP.reverse[k]?=some (h,mm)->h.next<=N/\h.res=none:=by intro k h mm hh;exact hnx (h,mm) (by have:=amW hh; simpa using this)
 let hpf:Nat->Hp:=fun k=>((d.mP.reverse[k]?).map (·.1)).getD ⟨.nil,0,none⟩
 let unf:Nat->Nat->Bool:=fun k a=>match d.mP.reverse[k]? with |some q=>!q.2.testBit a|none=>false
 let bff:Nat->Nat->Bool:=fun i j=>match ops[j]? with |some _=>(ms.getD j 0).testBit i|none=>false
 let kdf:Nat->Kind:=fun i=>match ops[i]? with |some o=>kindOf tt o.op|none=> .pa
 let KS:Nat->Option dO:=fun i=>(d.CF.reverse[i]?).getD none
 have hpe: ∀k h mm,d.mP.reverse[k]?=some (h,mm)->hpf k=h/\∀a,unf k a=!mm.testBit a:=by intro k h mm hh;refine⟨by simp only [hpf,hh]; rfl,fun a=>by simp only [unf,hh]⟩
 have x?: ∀{i j:Nat} {o:Oper},ops[j]?=some o->bff i j=(ms.getD j 0).testBit i:=by intro i j o ho;simp only [bff,ho]
 have YL: ∀{j:Nat} {o:Oper},ops[j]?=some o->kdf j=kindOf tt o.op:=by intro j o ho;simp only [kdf,ho]
 have kdE: ∀{j:Nat},kdf j= .e->∃o,ops[j]?=some o/\kindOf tt o.op= .e:=by
  intro j hj
  cases ho:ops[j]? with
  |none=>simp only [kdf,ho] at hj; simp at hj
  |some o=>exact⟨o,rfl,by rw [<- YL ho]; exact hj⟩
 have Zg: ∀(k:Nat),∀(o':Oper),ops[k]?=some o'->∀b,(ms.getD k 0).testBit b=true->b<k:=by
  intro k
  induction k using Nat.strongRecOn with
  |_ k ih=>
   intro o' Ai b JV;rw [sf.mask k o' (by rw [iR]; exact Ai)] at JV;obtain⟨e,e1,e2,e3⟩:=pL JV;have kR:e∈o'.after:=by simpa using e1
   have afI:=sf.back k o' (by rw [iR]; exact Ai) e kR e2;rcases e3 with rfl|e3
   ·exact afI
   ·have:=gv Ai;have:=ih e.on afI (ops[e.on]'J) ae b e3;omega
 have alI: ∀(i:Nat),∃S:Tr AV,∀(o:Oper),ops[i]?=some o->∃dp Vp v ob pre,dp.bG=S/\Gq P ρ ops base N (Bf tt ops.toList ms i o) dp v ob Vp/\d.vs.reverse[i]?=some v/\d.CF.reverse[i]?=some ob/\d.mP=pre++Vp.mP/\dp.mP.length=1+j4 tt (ops.toList.take i)/\
  (∀q,q∈dp.iH->q∈d.iH)/\(∀t x,S.get t=some x->(∃p oj,p<i/\ops[p]?=some oj/\oj.dst=some t/\d.vs.reverse[p]?=some x)\/(qd.get t=some x/\∀(p:Nat) (oj:Oper),p<i->ops[p]?=some oj->oj.dst≠some t)):=by
  intro i
  cases hoi:ops[i]? with
  |none=>exact⟨.nil,fun o h=>by simp at h⟩
  |some o0=>
   have hx:(items tt ops.toList ms ops.toList 0 0)[i]?=some (Bf tt ops.toList ms i o0):=je (by rw [iR]; exact hoi);obtain⟨dp,Vp,v,ob,pre,g1,g2,g3,g4,g5,g6,g7,g8⟩:=rf.at_ i _ hx;refine⟨dp.bG,fun o ho=>?_⟩;simp only [aq] at ho;subst ho;refine⟨dp,Vp,v,ob,pre,rfl,g1,by simpa using g2,by simpa using g3,g4,?_,g6,?_⟩
   ·rw [g5];congr 1
    have:(items tt ops.toList ms ops.toList 0 0).take i=items tt ops.toList ms (ops.toList.take i) 0 0:=by
     apply anz;intro j;rw [anw,kz,kz,anw];split
     ·rename_i hj;rw [List.take_take,aoF J]
     ·rfl
    rw [this,nC]
   ·intro t x ht;rcases g8 t x ht with ⟨p,y,q1,q2,q3,q4⟩|⟨q1,q2⟩
    ·cases pR:ops.toList[p]? with
     |none=>rw [kz,pR] at q2; simp at q2
     |some oj=> rw [je pR] at q2;simp at q2;subst q2;exact .inl ⟨p,oj,q1,by rw [<- iR]; exact pR,q3,by simpa using q4⟩
    ·refine .inr ⟨q1,fun p oj hp pR=>?_⟩
     have hm:Bf tt ops.toList ms p oj∈(items tt ops.toList ms ops.toList 0 0).take i:=by refine amW (i:=p) ?_;rw [anw,an hp];exact je (by rw [iR]; exact pR)
     exact q2 _ hm
 obtain⟨Sd,hY⟩:=Classical.skolem.1 alI
 let Sf:Nat->Tr AV:=fun i=>match ops[i]? with
  |some o=>(match kindOf tt o.op with
   | .r=>only d.bG (reads ops.toList o)
   |_=>only (Sd i) (reads ops.toList o))
  |none=> .nil
 have SfR: ∀{i:Nat} {o:Oper},ops[i]?=some o->kindOf tt o.op= .r->Sf i=only d.bG (reads ops.toList o):=by intro i o ho hk;simp only [Sf,ho,hk]
 have SfN: ∀{i:Nat} {o:Oper},ops[i]?=some o->kindOf tt o.op≠.r->Sf i=only (Sd i) (reads ops.toList o):=by
  intro i o ho hk;have:Sf i=(match kindOf tt o.op with | .r=>only d.bG (reads ops.toList o)|_=>only (Sd i) (reads ops.toList o)):=by simp only [Sf,ho]
  rw [this]
  cases hh:kindOf tt o.op with
  |r=>exact absurd hh hk
  |pa=>rfl
  |e=>rfl
 have aaY: ∀a b,(a,b)∈d.iH->KS a=some b:=by
  intro a b V2;rcases rf.nH a b V2 with h|⟨p,x,g1,g2,g3⟩
  ·simp at h
  ·cases ho:ops.toList[p]? with
   |none=>rw [kz,ho] at g1; simp at g1
   |some o=> rw [je ho] at g1;simp at g1;subst g1;have:p=a:=g2;subst this;simp only [aC,aL] at g3;simp only [KS,g3,ay]
 have ajp: ∀a b,KS a=some b->(a,b)∈d.iH:=by
  intro a b V2
  have GA:d.CF.reverse[a]?=some (some b):=by
   simp only [KS] at V2
   cases hh:d.CF.reverse[a]? with
   |none=>rw [hh] at V2; simp at V2
   |some x=>rw [hh] at V2; simp at V2; rw [V2]
  obtain⟨po,o1,o2⟩:=rf.CF
  have V1:a<ops.size:=by have U:=(bj.1 GA).1;rw [aoE,o1,am8,o2,tT] at U;simpa using U
  have hx:(items tt ops.toList ms ops.toList 0 0)[a]?=some (Bf tt ops.toList ms a ops[a]):=je (by rw [iR]; simp [V1]);exact rf.ami a _ b hx (by simpa using GA)
 refine⟨{
  base:=base,bf:=bff,kd:=kdf,S:=Sf,val:=fun i=>(d.vs.reverse[i]?).getD .vt,st:=fun i=>j4 tt (ops.toList.take i),nE:=j4 tt ops.toList,hp:=hpf,un:=unf,nH:=KS,
  gen:=?_,back:=?_,dst:=?_,bG:=?_,stl:=?_,inj:=?_,aii:=?_,pa:=?_,ev:=?_,rd:=?_,unm:=?_,nob:=?_,first:=?_ },rfl,rfl,fun i=>rfl,hpe,fun i=>rfl,?_⟩
 ·intro i j h
  cases ho:ops[j]? with
  |none=>simp only [bff,ho] at h; simp at h
  |some o=>
   rw [x? ho,sf.mask j o (by rw [iR]; exact ho)] at h;obtain⟨e,e1,e2,e3⟩:=pL h;have kR:e∈o.after:=by simpa using e1
   refine⟨o,e,rfl,kR,e2,e3.imp id fun h3=>?_⟩;have Y:=sf.back j o (by rw [iR]; exact ho) e kR e2;have hj:=gv ho;rw [x? (o:=ops[e.on]'J) ae];exact h3
 ·intro j o ho e he JV;exact sf.back j o (by rw [iR]; exact ho) e he JV
 ·intro i j oi oj dd hi hj U Z;exact sf.dst i j oi oj dd (by rw [iR]; exact hi) (by rw [iR]; exact hj) U Z
 ·intro i o ho t x ht
  cases hk:kindOf tt o.op with
  |r=>
   rw [SfR ho hk] at ht;obtain⟨U,Z⟩:=zR ht;rcases rf.slot t x Z with ⟨p,y,g1,g2,g3⟩|⟨g1,g2⟩
   ·cases pR:ops.toList[p]? with
    |none=>rw [kz,pR] at g1; simp at g1
    |some oj=>
     rw [je pR] at g1;simp at g1;subst g1;have hp:ops[p]?=some oj:=by rw [<- iR]; exact pR
     refine .inl ⟨p,oj,?_,hp,g2,?_⟩
     ·rw [x? ho];rcases sf.rd i o (by rw [iR]; exact ho) t U p oj pR g2 with h|⟨h,_⟩
      ·exact h
      ·exact absurd hk h
     ·simp only [aC,aL] at g3;simp only [g3,ay]
   ·refine .inr ⟨g1,fun j oj pR W=>?_⟩;exact absurd W (g2 _ (amW (je (by rw [iR]; exact pR))))
  |_=>
   rw [SfN ho (by rw [hk]; simp)] at ht;obtain⟨U,Z⟩:=zR ht;obtain⟨dp,Vp,v,ob,pre,_,_,_,_,_,_,_,g8⟩:=hY i o ho;rcases g8 t x Z with ⟨p,oj,q1,q2,q3,q4⟩|⟨q1,q2⟩
   ·refine .inl ⟨p,oj,?_,q2,q3,by rw [q4]; rfl⟩;rw [x? ho];rcases sf.rd i o (by rw [iR]; exact ho) t U p oj (by rw [iR]; exact q2) q3 with h|⟨_,h⟩
    ·exact h
    ·have:=Zg p oj q2 i h;omega
   ·refine .inr ⟨q1,fun j oj pR W=>?_⟩;rw [x? pR];rcases sf.rd i o (by rw [iR]; exact ho) t U j oj (by rw [iR]; exact pR) W with h|⟨_,h⟩
    ·exact absurd W (q2 j oj (Zg i o ho j h) pR)
    ·exact h
 ·intro j o ho hk;rw [YL ho] at hk;rw [H9];exact KQ (by rw [iR]; exact ho) hk (gv ho)
 ·intro i j hi hj he;obtain⟨oi,hoi,L!⟩:=kdE hi;obtain⟨oj,pR,hkj⟩:=kdE hj;rcases aoB i j with h|h|h
  ·have:=KQ (tt:=tt) (l:=ops.toList) (by rw [iR]; exact hoi) L! h;omega
  ·exact h
  ·have:=KQ (tt:=tt) (l:=ops.toList) (by rw [iR]; exact pR) hkj h;omega
 ·intro j o ho hk m hm;obtain⟨i,oi,U,Z,h3,h4⟩:=xz hm;rw [YL ho] at hk;have h2':ops[i]?=some oi:=by rw [<- iR]; exact Z
  refine⟨i,by rw [YL h2']; exact h3,h4,?_⟩;rw [x? ho];exact sf.tot i j oi o Z (by rw [iR]; exact ho) h3 hk U
 ·intro i o ho hk;rw [YL ho] at hk;obtain⟨dp,Vp,v,ob,pre,hdp,hF,g2,g3,g4,g5,g6,g7⟩:=hY i o ho;obtain⟨h0,mm,rest,hs,hF⟩:=hF;simp only [Bf,hk] at hF;obtain⟨_,HA,f1,f2,f3⟩:=hF;rw [hdp] at f1;refine⟨HA,N,?_,f2,?_,?_⟩
  ·rw [SfN ho (by rw [hk]; simp)];simp only [g2,ay];exact f1
  ·simp only [KS,g3,ay];exact f3
  ·intro k Bg;obtain⟨Z,mm2,hh⟩:=ai2 k Bg;rw [(hpe _ _ _ hh).1];exact (afH _ _ _ hh).1
 ·intro j o ho hk;rw [YL ho] at hk;obtain⟨dp,Vp,v,ob,pre,hdp,hF,g2,g3,g4,g5,g6,g7⟩:=hY j o ho;obtain⟨h0,mm,rest,hs,hF⟩:=hF;simp only [Bf,hk] at hF;obtain⟨_,hn,f1,f2,f3,f4⟩:=hF;rw [hdp] at f4;rw [f1,hs] at g4;have VX:rest.length=j4 tt (ops.toList.take j):=by rw [hs] at g5; simp at g5; omega
  obtain⟨r1,r2⟩:=aaq g4;rw [VX] at r1 r2;obtain⟨p1,p2⟩:=hpe _ _ _ r1;obtain⟨p3,p4⟩:=hpe _ _ _ r2;refine⟨fV base (ms.getD j 0) mm dp.iH h0,?_,?_,?_,?_,?_⟩
  ·rw [SfN ho (by rw [hk]; simp)];simp only [g2,ay,p3];exact f4
  ·rw [(j6 _ _).1,p1]
  ·rw [(j6 _ _).2];exact (afH _ _ _ r1).2
  ·intro id x hx;rcases oW hx with h|⟨a,a1,a2,a3,a4⟩
   ·left; rw [p1]; exact h
   ·right;exact⟨a,by rw [x? ho]; exact a2,by rw [p2,a3]; rfl,a4,aaY a x (g6 _ a1)⟩
  ·intro a ha;rw [p4] at ha;simp only [Nat.testBit_or,Bool.not_or,aw,anj] at ha;refine⟨by rw [p2,ha.1]; rfl,?_⟩;rw [x? ho];exact ha.2
 ·intro i o ho hk k L_ U Z;rw [YL ho] at hk;have BU:Bf tt ops.toList ms i o∈items tt ops.toList ms ops.toList 0 0:=amW (je (by rw [iR]; exact ho))
  obtain⟨v,g1,g2⟩:=Pg (Bf tt ops.toList ms i o,Bt (items tt ops.toList ms ops.toList 0 0) (j4 tt ops.toList) (Bf tt ops.toList ms i o)) (by
   rw [bd]
   exact⟨_,anm.2 ⟨BU,by simp [Bf,hk,Kind.isR]⟩,rfl⟩)
  have My:k∈Bt (items tt ops.toList ms ops.toList 0 0) (j4 tt ops.toList) (Bf tt ops.toList ms i o):=by
   unfold Bt;rw [anm,anc];refine⟨J,bh.2 fun y hy=>?_⟩;obtain⟨j,oj,pR,rfl⟩:=HY hy;have aaW:ops[j]?=some oj:=by rw [<- iR]; exact pR
   cases hkj:kindOf tt oj.op with
   |pa=>simp [Bf,hkj,Kind.isE]
   |r=>simp [Bf,hkj,Kind.isE]
   |e=>
    simp only [Bf,hkj,Kind.isE,aog,anZ,aw,anA,anj,decide_eq_true_eq];constructor
    ·cases afP:(ms.getD i 0).testBit j with
     |false=>exact .inl rfl
     |true=>exact .inr (U j (by rw [YL aaW]; exact hkj) (by rw [x? ho]; exact afP))
    ·cases afP:(ms.getD j 0).testBit i with
     |false=>exact .inl rfl
     |true=>exact .inr (Z j oj aaW (by rw [YL aaW]; exact hkj) (by rw [x? aaW]; exact afP))
  obtain⟨h0,mm,g3,g4⟩:=g2 k My;obtain⟨p1,p2⟩:=hpe _ _ _ g3;refine⟨fV base (ms.getD i 0) mm d.iH h0,?_,?_,?_,?_⟩
  ·have SG:d.vs.reverse[i]?=some v:=g1;rw [SfR ho hk];simp only [SG,ay];exact g4
  ·rw [(j6 _ _).1,p1]
  ·rw [(j6 _ _).2];exact (afH _ _ _ g3).2
  ·intro id x hx;rcases oW hx with h|⟨a,a1,a2,a3,a4⟩
   ·left; rw [p1]; exact h
   ·right;exact⟨a,by rw [x? ho]; exact a2,by rw [p2,a3]; rfl,a4,aaY a x a1⟩
 ·intro k a x hk hx hu;obtain⟨h0,mm,hh⟩:=ai2 k hk;obtain⟨p1,p2⟩:=hpe _ _ _ hh;rw [p1];rw [p2] at hu;unfold I1 at hun;have:=bh.1 hun _ (ajp a x hx)
  have:=bh.1 this (h0,mm) (by
   have:=amW hh
   simpa using this)
  simp only [anA,Option.isNone_iff_eq_none] at this;simp only [anj] at hu;rcases this with h|h
  ·rw [hu] at h; simp at h
  ·exact h
 ·intro i hk
  cases ho:ops[i]? with
  |none=>
   obtain⟨po,o1,o2⟩:=rf.CF
   have Sp:d.CF.reverse[i]?=none:=by rw [anV,aoE,o1,am8,o2,tT];have:=aoW.1 ho;simpa using this
   simp only [KS,Sp,aT]
  |some o=>
   obtain⟨dp,Vp,v,ob,pre,hdp,hF,g2,g3,g4,g5,g6,g7⟩:=hY i o ho;obtain⟨h0,mm,rest,hs,hF⟩:=hF;rw [YL ho] at hk
   cases xN:kindOf tt o.op with
   |pa=>exact absurd xN hk
   |e=> simp only [Bf,xN] at hF;simp only [KS,g3,ay,hF.1]
   |r=> simp only [Bf,xN] at hF;simp only [KS,g3,ay,hF.1]
 ·have:=(hpe 0 _ _ alb).1;refine⟨hb,by rw [this]; exact az _,fun id x h=>?_⟩;rw [this] at h;exact h
 ·intro m hm;have hm':m<j4 tt (ops.toList.take ops.size):=by rw [<- H9]; exact hm
  obtain⟨i,oi,U,Z,h3,h4⟩:=xz hm';have h2':ops[i]?=some oi:=by rw [<- iR]; exact Z
  exact⟨i,oi,h2',by show kdf i=_; rw [YL h2']; exact h3,h4⟩
end
section
variable {P:Program}
theorem FX [bK] {tt:TT} (cP:eJ P tt) {call:eu} (hc:iT P call) {ops:Array Oper} {E:En} {s s':St} {a:Act} {w:World} {Q:Exit->Act->World->Prop}
 (W: ∀o∈ops.toList,∀d,o.dst=some d->d<a.tmps.size) (fit:Fit E s a w) (h:(draw tt call ops.toList s).leaf E.ρ=some s') (hq: ∀a' w',nK E s a w s' a' w'->Q .normal a' w') :
 wpAny P .any ops Q ops.size (Array.replicate ops.size false) a { w with drawn:=w.drawn+1 }:=by
 unfold draw FY at h;split at h
 ·simp [T.leaf] at h
 ·rename_i q hq0;split at h
  ·simp [T.leaf] at h
  ·rename_i yQ;simp only at h;obtain⟨⟨ga,d⟩,U,Z⟩:=T.fL h;simp only at Z;obtain⟨ms,e1,e2,e3,sf⟩:=aac hq0;rw [e1,] at U;have rf:=S3 cP hc _ fit.pc U;have fS:=S0 _ fit.pc U;split at Z
   ·simp [T.leaf] at Z
   ·rename_i h0 mm rest ala;obtain⟨ky,h3,h4⟩:=T.fL Z;split at h4
    ·rename_i hun;have:=bF h4;subst this
     have ai4:=Ht cP hc q.rs fS (by
      intro r hr;rw [e3,bd] at hr;obtain⟨x,hx,rfl⟩:=hr;rw [anm,e1] at hx;obtain⟨j,o,ho,rfl⟩:=HY hx.1;have h5:(kindOf tt o.op).isR=true:=hx.2;show kindOf tt o.op= .r;revert h5
      cases kindOf tt o.op<;>simp [Kind.isR]) h3
     have kf:=ai4.1;have Pg:=ai4.2;rw [e3,e1,e2] at Pg;obtain⟨p,p1,p2,p3,p4,p5,p6⟩:=aau sf (base:=s.h.next) (H0:=s.h) rfl (Nat.le_add_right _ _) rf Pg hun;have iR: ∀(j:Nat),ops.toList[j]?=ops[j]?:=fun j=>amZ;let w1:World:={ w with drawn:=w.drawn+1 };have alP:Fit E s a w1:=⟨⟨fit.rel.fresh,fit.rel.res,fit.rel.live,fit.rel.inj,fit.rel.su,fit.rel.kj,fit.rel.hid⟩,fit.sr,fit.pc⟩
     have ajf: ∀(i:Nat),(Array.replicate ops.size false)[i]?≠some true:=by
      intro i hh
      grind
     refine p.any (E0:=E) (a0:=a) (w0:=w1) W ?_ ops.size _ a w1 ae ?_ (p.start rfl rfl rfl alP _ ajf)
     ·intro a' w' inv;obtain⟨ps,s1,s2⟩:=rf.mP;rw [nC] at s2
      have hlen:rest.length=j4 tt ops.toList:=by
       have:d.mP.length=j4 tt ops.toList+1:=by rw [s1,a8,s2]; rfl
       grind
      have acW:d.mP.reverse[j4 tt ops.toList]?=some (h0,mm):=by
       grind
      obtain⟨q1,q2⟩:=p4 _ _ _ acW
      have hnx:=rf.nxt (by
       intro q hq;simp only [aH,am6,or_false] at hq;subst hq
       exact⟨Nat.le_add_right _ _,rfl⟩) (h0,mm) (by rw [ala]; simp)
      have ht:=p.finish (s0:=s) (s':=⟨d.bG,fV s.h.next ((1 <<<ops.toList.length)-1) mm d.iH h0,ky⟩) (w0:=w1) rfl inv kf ?_ ?_ ?_ ?_ p6
      ·refine hq a' w' ⟨ht.defers,ht.size,?_⟩;obtain⟨E',st,f'⟩:=ht.step;exact⟨E',⟨st.ρ,st.dm,st.θ,st.κ,st.ro,st.sR,st.RN,st.rsm,st.M?,st.os,st.tape,st.output,st.size,st.cx,st.own,st.W⟩,f'⟩
      ·intro t x ht;rcases rf.slot t x ht with ⟨j,y,g1,g2,g3⟩|⟨g1,g2⟩
       ·cases pR:ops.toList[j]? with
        |none=>rw [kz,pR] at g1; simp at g1
        |some oj=>
         rw [je pR] at g1;simp at g1;subst g1;refine .inl ⟨j,oj,by rw [<- iR]; exact pR,g2,?_⟩
         grind
       ·refine .inr ⟨g1,fun j oj pR=>?_⟩;exact g2 _ (amW (je (by rw [iR]; exact pR)))
      ·intro id x hx;rw [p2,q1,p1];rcases oW hx with h|⟨b,b1,b2,b3,b4⟩
       ·grind
       ·right
        have gv:b<ops.size:=by
         have:=Ui b2
         grind
        refine⟨b,gv,by rw [q2,b3]; rfl,b4,?_⟩;rcases rf.nH b x b1 with h|⟨j,y,g1,g2,g3⟩
        ·grind
        ·cases pR:ops.toList[j]? with
         |none=>rw [kz,pR] at g1; simp at g1
         |some oj=>
          rw [je pR] at g1;simp at g1;subst g1;have:j=b:=g2
          grind
      ·rw [p2,q1];exact (j6 _ _).1.symm
      ·show (fV s.h.next ((1 <<<ops.toList.length)-1) mm d.iH h0).res=none;rw [(j6 _ _).2]
       grind
     ·have: ∀(l:Nat->Bool) (n:Nat),left l n<=n:=by
       intro l n
       induction n with
       |zero=>exact az _
       |succ n ih=>simp only [left]; split<;>omega
      grind
    ·simp [T.leaf] at h4
theorem abq [bK] {tt:TT} (cP:eJ P tt) (hm:P.follows .mixedOrders=true) {call:eu} (hc:iT P call):abO P (draw tt call):=by intro id ops E s s' a w Q W fit h hq;exact wp_region_any hm (FX cP hc W fit h hq)
end
end Go.As
end
section
namespace Go.As
noncomputable section
open Go.RowKit
section
variable {P:Program}
def En.zero (ρ:Nat->Int) (ro:Nat->Prop):En:={ ρ:=ρ,θ:=fun _=>(0,0),κ:=fun _=>0,dm:=fun _=>False,ro:=ro }
def Hp.zero:Hp:=⟨.nil,0,none⟩
theorem Lm [bK] (ρ:Nat->Int) (ro:Nat->Prop) (w:World) (h: ∀b,ro b->b<w.heap.size) (hg:bK.ok ρ ro w.heap):bR (En.zero ρ ro) Hp.zero w:=
 ⟨fun _ _ h=>h,by simp [Hp.zero],fun id o h=>by simp [Hp.zero,Hp.get,Tr.get] at h,fun id _ o _ h=>by simp [Hp.zero,Hp.get,Tr.get] at h,h,hg,fun _ _ h=>by simp [En.zero] at h⟩
theorem fq.below {E E':En} {H':Hp} {w w':World} (s:fq E Hp.zero w E' H' w'):Below w.heap.size w w':=
 ⟨s.os,s.tape,s.output,s.size,fun k hk=>s.cx k hk fun id o h=>by simp [Hp.zero,Hp.get,Tr.get] at h⟩
theorem A0 [bK] {g:FuncId} {f:List AV->St->T (AV×St)} (hf:kQ P g f) {fn:Func} (vz:P.funcs[g]?=some fn) (mn:(fn.name == "runtime.NumGoroutine")=false) {c:Code} (rU:fn.body=some c)
 {ρ:Nat->Int} {ro:Nat->Prop} {w:World} (l7: ∀b,ro b->b<w.heap.size) (hg:bK.ok ρ ro w.heap) {args:List AV} {vals:List Value} (hv:cC (En.zero ρ ro) w.heap args vals) {v:AV} {s':St}
 (h:(f args ⟨.nil,Hp.zero,[]⟩).leaf ρ=some (v,s')):Calls P g vals.toArray w fun e w'=> ∃u E',e= .returned u/\VR E' w'.heap v u/\E'.ρ=ρ/\Below w.heap.size w w':=by
 obtain⟨_,_,h3⟩:=hf args ⟨.nil,Hp.zero,[]⟩ (En.zero ρ ro) w vals v s' (Lm ρ ro w l7 hg) hv (by simp [bY]) h
 have kP:(callFunc g vals.toArray).run P w= .ok (.enter g vals.toArray) w:=by unfold callFunc;simp [vz,rU,by simpa using mn]
 unfold mz oY at h3;rw [kP] at h3;exact Calls.mono h3 fun e w' ⟨u,he,E',st,_,hv⟩=> ⟨u,E',he,hv,st.ρ,st.below⟩
end
end
end Go.As
end
section
namespace Go.As
noncomputable section
open Go.RowKit
mutual
def iF:AV->Bool
 | .bool (.lit _)=>true
 | .int _ (.lit _)=>true
 | .str _=>true
 | .vt=>true
 | .gN=>true
 | .tO=>true
 | .xK=>true
 | .yH=>true
 | .iface _ v=>iF v
 | .agg cs=>oT cs
 | .tuple cs=>oT cs
 | .func _ fs cs=>oT fs&&oT cs
 |_=>false
def oT:List AV->Bool
 |[]=>true
 |x::xs=>iF x&&oT xs
end
section
variable {P:Program}
mutual
theorem xB {E E':En} {h h':Array Obj}: ∀(x:AV) (u:Value),iF x=true->VR E h x u->VR E' h' x u
 | .bool b,u,hc,hv=>by cases b<;>simp [iF] at hc; simpa [VR,SB.den] using hv
 | .int k e,u,hc,hv=>by cases e<;>simp [iF] at hc; simpa [VR,V.den] using hv
 | .str s,u,_,hv=>by simp only [VR] at *; exact hv
 | .vt,u,_,hv=>by simp only [VR] at *; exact hv
 | .gN,u,_,hv=>by simp only [VR] at *; exact hv
 | .tO,u,_,hv=>by simp only [VR] at *; exact hv
 | .xK,u,_,hv=>by simp only [VR] at *; exact hv
 | .yH,u,_,hv=>by simp only [VR] at *; exact hv
 | .iface t x,u,hc,hv=>by simp only [VR,iF] at *;obtain⟨y,U,Z⟩:=hv;exact⟨y,U,xB x y hc Z⟩
 | .agg cs,u,hc,hv=>by simp only [VR,iF] at *;obtain⟨us,U,Z⟩:=hv;exact⟨us,U,n9 cs us hc Z⟩
 | .tuple cs,u,hc,hv=>by simp only [VR,iF] at *;obtain⟨us,U,Z⟩:=hv;exact⟨us,U,n9 cs us hc Z⟩
 | .func fn fs cs,u,hc,hv=>by simp only [VR,iF,aw] at *;obtain⟨us,ws,U,Z,h3⟩:=hv;exact⟨us,ws,U,n9 fs us hc.1 Z,n9 cs ws hc.2 h3⟩
 | .ptr _ _,_,hc,_=>by simp [iF] at hc
 | .nX _,_,hc,_=>by simp [iF] at hc
 | .slice _ _ _ _,_,hc,_=>by simp [iF] at hc
 | .ro _ _ _,_,hc,_=>by simp [iF] at hc
 | .map _,_,hc,_=>by simp [iF] at hc
 | .L0 _,_,hc,_=>by simp [iF] at hc
 | .ya _ _,_,hc,_=>by simp [iF] at hc
theorem n9 {E E':En} {h h':Array Obj}: ∀(xs:List AV) (us:List Value),oT xs=true->cC E h xs us->cC E' h' xs us
 |[],us,_,hv=>by simp only [cC] at *; exact hv
 |x::xs,us,hc,hv=>by simp only [cC,oT,aw] at *;obtain⟨u,vs,U,Z,h3⟩:=hv;exact⟨u,vs,U,xB x u hc.1 Z,n9 xs vs hc.2 h3⟩
end
theorem xE [bK] {E:En} {H:Hp} {w w':World} (r:bR E H w) (b:Below w.heap.size w w'):fq E H w E H w'/\bR E H w':=by have hk:fY E w.heap E w'.heap:=⟨rfl,fun _ h=>h,fun _ _=>rfl,fun _ _=>rfl,fun _ h=>h,fun x hx=>b.block x (r.su x hx)⟩;refine⟨⟨rfl,fun _ h=>h,fun _ _=>rfl,fun _ _=>rfl,fun _ h=>h,fun _ h=> .inl h,az _,.inr rfl,fun _ h=> .inl h,b.os,b.tape,b.output,b.size,fun x hx _=>b.block x hx,fun id o h _=> ⟨id,o,h,rfl⟩,rfl⟩,r.fresh,r.res,fun id o h=>?_,r.inj,fun x hx=>anh (r.su x hx) b.size,bK.cx r.kj hk.ro hk.Cy,r.U0 rfl b.size (fun _ h=> .inl h) fun id o h _=> ⟨id,o,h,rfl⟩⟩;obtain⟨U,Z,h3⟩:=r.live id o h;exact⟨U,Z.cx hk U (b.block _ (gC r h)) (r.VZ rfl (fun x hx _=>b.block x hx) _),h3⟩
def GN (args:List AV) (v:AV):List AV->St->T (AV×St):=fun amV s=>if iY amV args then .ret (v,s) else .fail
def Ic (args:List AV) (v:AV) (f:List AV->St->T (AV×St)):Bool:=
 oT args&&iF v&&(match f args ⟨.nil,Hp.zero,[]⟩ with | .ret (u,_)=>eR u v|_=>false)
theorem DE [bK] {g:FuncId} {f:List AV->St->T (AV×St)} (hf:kQ P g f) {fn:Func} (vz:P.funcs[g]?=some fn) (mn:(fn.name == "runtime.NumGoroutine")=false) {c:Code} (hb:fn.body=some c)
 {args:List AV} {v:AV} (h:Ic args v f=true):kQ P g (GN args v):=by
 intro amV s E w vals u s' r hv hp Y;unfold GN at Y;split at Y
 ·rename_i hs;have:=bF Y;simp only [au] at this;obtain⟨rfl,rfl⟩:=this;rw [gj _ _ hs] at hv;unfold Ic at h;simp only [aw] at h;obtain⟨⟨U,Z⟩,h3⟩:=h;split at h3
  ·rename_i u' s1 kP;have hu:=ku _ _ h3;subst hu;have hc:=A0 hf vz mn hb (ρ:=E.ρ) (ro:=E.ro) (w:=w) r.su r.kj (n9 args vals U hv) (v:=u') (s':=s1) (by rw [kP]; rfl);refine⟨rfl,hp,?_⟩
   have kP:(callFunc g vals.toArray).run P w= .ok (.enter g vals.toArray) w:=by unfold callFunc;simp [vz,hb,by simpa using mn]
   unfold mz oY;rw [kP];exact Calls.mono hc fun e w' ⟨x,E',he,hx,_,nZ⟩=> ⟨x,he,E,(xE r nZ).1,(xE r nZ).2,xB u' x Z hx⟩
  grind
 ·simp [T.leaf] at Y
def orElse (f g:List AV->St->T (AV×St)):List AV->St->T (AV×St):=fun amV s=>match f amV s with | .fail=>g amV s|x=>x
theorem w7 [bK] {id:FuncId} {f g:List AV->St->T (AV×St)} (hf:kQ P id f) (hg:kQ P id g):kQ P id (orElse f g):=by
 intro amV s E w vals u s' r hv hp Y;unfold orElse at Y;split at Y
 ·exact hg amV s E w vals u s' r hv hp Y
 ·exact hf amV s E w vals u s' r hv hp Y
end
end
end Go.As
end

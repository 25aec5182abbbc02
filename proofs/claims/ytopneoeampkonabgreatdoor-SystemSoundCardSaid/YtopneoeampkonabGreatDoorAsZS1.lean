import Derived.Lib.Bytealg
import Derived.Lib.IndexMore
import Derived.Test.YtopneoeampkonabGreatDoorAsZS0
set_option linter.unusedSectionVars false
set_option linter.unusedVariables false
set_option linter.unusedSimpArgs false
section
namespace Go.As
theorem jQ.rd {ro:Nat->Prop} {h:Array Obj} {c:CK} {d:D} {u:Value} (r:jQ ro h c d u) (wf:qK c d):Rd ro h c d u:=by
 cases c with
 |int k=> simp only [jQ,qK] at r wf;rw [wf,r];exact .int k d.n
 |bool=>
  simp only [jQ,qK] at r wf;subst r;rcases wf with rfl|rfl
  ·exact .bool false
  ·exact .bool true
 |str=>exact r
 |sl t=>exact r
theorem ej.get {ro:Nat->Prop} {h:Array Obj} {d:D}: ∀{cs:List CK} {j:Nat} {us:List Value},ej ro h cs j d us->∀{k:Nat} {c:CK},cs[k]?=some c->∃u,us[k]?=some u/\jQ ro h c (d.hd (j+k)) u
 |[],_,_,_,k,c,hk=>by simp at hk
 |c0::cs,j,us,hh,k,c,hk=>by
  simp only [ej] at hh;obtain⟨u,vs,rfl,U,Z⟩:=hh
  cases k with
  |zero=>
   grind
  |succ k=>
   obtain⟨x,h3,h4⟩:=Z.get (by simpa using hk)
   grind
theorem ej.length {ro:Nat->Prop} {h:Array Obj} {d:D}: ∀{cs:List CK} {j:Nat} {us:List Value},ej ro h cs j d us->us.length=cs.length
 |[],_,us,hh=>by simp only [ej] at hh; subst hh; rfl
 |c::cs,j,us,hh=>by simp only [ej] at hh;obtain⟨u,vs,rfl,_,Z⟩:=hh;simp [Z.length]
theorem ej.shift {ro:Nat->Prop} {h:Array Obj} {a b:D}: ∀{cs:List CK} {j:Nat} {us:List Value},ej ro h cs (j+1) (.p a b) us↔ej ro h cs j b us
 |[],_,us=>by simp only [ej]
 |c::cs,j,us=>by
  simp only [ej,zZ];constructor
  ·rintro⟨u,vs,rfl,U,Z⟩;exact⟨u,vs,rfl,U,ej.shift.1 Z⟩
  ·rintro⟨u,vs,rfl,U,Z⟩;exact⟨u,vs,rfl,U,ej.shift.2 Z⟩
section
variable {P:Program} {E:En} {w:World}
theorem nW {ρ:Nat->Int} {c:CK} {v:Y} {a:V} (h:nB c v=some a):qK c (dec (a.den ρ)):=by
 unfold nB at h;split at h
 ·split at h
  ·split at h
   ·simp only [an] at h;subst h;simp only [qK,mf,bC,D.n]
   grind
  grind
 ·split at h
  ·split at h
   ·rename_i b;simp only [an] at h;subst h;simp only [qK,V.den,bC]
    grind
   ·split at h
    ·split at h
     ·split at h
      ·simp only [an] at h;subst h;simp only [qK,V.den,fT.den,bC]
       grind
      grind
     grind
    grind
   grind
  grind
 ·trivial
 ·trivial
theorem lL {h:Array Obj} {c:CK} {v:Y} {u:Value} {a:V} (hv:VR E h v u) (hc:nB c v=some a):jQ E.ro h c (dec (a.den E.ρ)) u:=by
 unfold nB at hc;split at hc
 ·split at hc
  ·split at hc
   ·rename_i hk;subst hk;simp only [an] at hc;subst hc;simp only [VR] at hv;simp only [jQ,mf,bC,D.n];exact hv
   grind
  grind
 ·split at hc
  ·split at hc
   ·rename_i b;simp only [an] at hc;subst hc;simp only [VR,SB.den] at hv;subst hv;simp only [jQ,V.den,bC];cases b<;>rfl
   ·split at hc
    ·split at hc
     ·split at hc
      ·rename_i x n hn;subst hn;simp only [an] at hc;subst hc;simp only [VR,SB.den,V.den] at hv;subst hv;simp only [jQ,V.den,fT.den,mf,bC,D.n];congr 2
       grind
      grind
     grind
    grind
   grind
  grind
 ·obtain⟨s,rfl,hs⟩:=zc hv hc;simp only [jQ,hs];exact .str s
 ·split at hc
  ·split at hc
   ·rename_i ht;subst ht;simp only [an] at hc;subst hc;exact hv
   grind
  ·simp only [an] at hc;subst hc;simp only [VR] at hv;subst hv;simp only [jQ,V.den,bC];exact .nil _
  ·split at hc
   ·rename_i ht;subst ht;simp only [an] at hc;subst hc;simp only [VR] at hv;exact hv.2
   grind
  ·split at hc
   ·simp only [an] at hc;subst hc;simp only [VR] at hv;obtain⟨_,a,cap,rfl,_⟩:=hv;simp only [jQ,V.den,bC];exact .wO _ _ _
   grind
  grind
theorem AD {ρ:Nat->Int}: ∀{cs:List CK} {vs:List Y} {x:V},jM cs vs=some x->KI cs (dec (x.den ρ))
 |[],[],x,h=>by
  simp only [jM,an] at h;subst h;refine⟨?_,?_,?_⟩
  ·simp only [V.den,bC]; rfl
  ·simp only [V.den,bC]; rfl
  grind
 |[],_::_,x,h=>by simp [jM] at h
 |_::_,[],x,h=>by simp [jM] at h
 |c::cs,v::vs,x,h=>by
  simp only [jM] at h;split at h
  ·grind
  ·rename_i a ha;split at h
   ·grind
   ·rename_i b hb;simp only [an] at h;subst h;obtain⟨U,Z,h3⟩:=AD (ρ:=ρ) hb;refine⟨?_,?_,?_⟩
    ·simp only [eL,V.den,fT.den,bC,D.l,dL]
     grind
    ·simp only [eL,V.den,fT.den,bC,D.l,aQ,Z]
    ·intro j c' y hj hy;simp only [eL,V.den,fT.den,bC,D.l] at hy
     cases j with
     |zero=> simp only [aL,an] at hj hy;subst hj hy;exact nW ha
     |succ j=>exact h3 j c' y (by simpa using hj) (by simpa using hy)
theorem AE {h:Array Obj}: ∀{cs:List CK} {vs:List Y} {us:List Value} {x:V},cJ E h vs us->jM cs vs=some x->ej E.ro h cs 0 (dec (x.den E.ρ)) us
 |[],[],us,x,hv,hc=>by simp only [cJ] at hv; subst hv; simp [ej]
 |[],_::_,_,x,_,hc=>by simp [jM] at hc
 |_::_,[],_,x,_,hc=>by simp [jM] at hc
 |c::cs,v::vs,us,x,hv,hc=>by
  simp only [jM] at hc;rw [bX] at hv;obtain⟨u,gX,rfl,U,Z⟩:=hv;split at hc
  ·grind
  ·rename_i a ha;split at hc
   ·grind
   ·rename_i b hb;simp only [an] at hc;subst hc;simp only [ej,eL,V.den,fT.den,bC];refine⟨u,gX,rfl,by rw [zX]; exact lL U ha,?_⟩;rw [ej.shift];exact AE Z hb
theorem uG {ρ:Nat->Int} {r:Row} {cs:List Y} {x:V} (h:rE r cs=some x):qJ r (dec (x.den ρ)):=by
 unfold rE at h;split at h
 ·split at h
  ·exact nW h
  grind
 ·exact AD h
theorem uH {h:Array Obj} {r:Row} {cs:List Y} {us:List Value} {x:V} (hv:cJ E h cs us) (hc:rE r cs=some x):xA E.ro h r (dec (x.den E.ρ)) us:=by
 unfold rE at hc;split at hc
 ·split at hc
  ·rw [bX] at hv;obtain⟨u,gX,rfl,U,Z⟩:=hv;rw [iN] at Z;subst Z;exact⟨u,rfl,lL U hc⟩
  grind
 ·exact AE hv hc
theorem rD {ρ:Nat->Int} {r:Row}: ∀(m:Nat) {e e1:V} {news:List Y},lz r e m news=some e1->
 ∃ds:List D,ds.length=m/\(dec (e1.den ρ)).l=(dec (e.den ρ)).l++ds/\(dec (e.den ρ)=dL (dec (e.den ρ)).l->dec (e1.den ρ)=dL (dec (e1.den ρ)).l)/\(∀d∈ds,qJ r d)/\
  ∀(E':En) (h:Array Obj) (us:List Value) (j:Nat),E'.ρ=ρ->cJ E' h news us->cJ E' h (bH ρ r [] ds j) us
 |0,e,e1,[],h=>by simp only [lz,an] at h;subst h;exact⟨[],rfl,ad,id,ad,fun E' h us j _ hv=>by simpa [bH] using hv⟩
 |0,e,e1,_::_,h=>by simp [lz] at h
 |m+1,e,e1,news,h=>by
  simp only [lz] at h;split at h
  ·grind
  ·rename_i x hx;obtain⟨ds,U,Z,h3,h4,h5⟩:=rD (ρ:=ρ) m h;have hs:dec ((V.op .snoc e x).den ρ)=dL ((dec (e.den ρ)).l++ [dec (x.den ρ)]):=by simp only [V.den,fT.den,bC]
   refine⟨dec (x.den ρ)::ds,by simp [U],?_,fun _=>h3 (by rw [hs,bD]),?_,?_⟩
   ·rw [Z,hs,bD]; simp
   ·intro d hd;rcases aF.1 hd with rfl|hd
    ·exact uG hx
    grind
   ·intro E' h us j hρ hv;rw [<- amE r.es news] at hv;obtain⟨a,b,rfl,a1,a2⟩:=hv.split;simp only [bH,ep];refine cJ.append ?_ (h5 E' h b (j+1) hρ a2);rw [gD];simp only [V.den,bC];have:=uH a1 hx
    grind
theorem QB {h:Array Obj} {id:Nat} {e:V} {t:Nat} {ty:TypeId} {ro:Nat->Prop} (lZ: ∀b,E.ro b->ro b) (hb:ro (E.θ id).1) (ho:OR E h id (.vec e t ty [])) {k cap:Nat} {a:Addr} (hk:k=(dec (e.den E.ρ)).l.length) (iX:k<=cap)
 (hc:0<k->a=⟨(E.θ id).1,(E.θ id).2,none⟩):Rd ro h (.sl t) (dec (e.den E.ρ)) (.slice (some a) k cap):=by
 obtain⟨⟨tq,xr⟩,Dr⟩:=OR.pf.1 ho;obtain⟨us,U,Z,h3⟩:=xX Dr;obtain⟨w1,w2,w3⟩:=xr;rcases am0 k with h0|mh
 ·subst h0;exact absurd (amv hk.symm) w3
 ·have ha:a=⟨(E.θ id).1,(E.θ id).2,none⟩:=hc mh;subst ha;subst hk
  have iD: ∀(i:Nat) (x:D),(dec (e.den E.ρ)).l[i]?=some x->∃rs,xA ro h (rowOf t) x rs/\∀j u,rs[j]?=some u->us[i*(rowOf t).es+j]?=some u:=by
   intro i x hx;obtain⟨c1,c2⟩:=jY (ρ:=E.ρ) tq (j:=0) hx;unfold cW at U;rw [c1] at U;obtain⟨p,q,rfl,p1,p2⟩:=U.split;obtain⟨q1,q2,rfl,r1,r2⟩:=p2.split;have hp:=p1.length;rw [c2] at hp;refine⟨q1,?_,?_⟩
   ·have r1':cJ E h (ic (rowOf t) (.eD x)) q1:=r1;rw [gD] at r1';simp only [V.den,bC] at r1'
    have mono: ∀c d u,jQ E.ro h c d u->jQ ro h c d u:=by
     intro c d u hh
     cases c with
     |int k=>exact hh
     |bool=>exact hh
     |str=>exact Rd.cD lZ (fun _ _=>rfl) hh
     |sl t=>exact Rd.cD lZ (fun _ _=>rfl) hh
    have aid: ∀(cs:List CK) (j:Nat) (d:D) (us:List Value),ej E.ro h cs j d us->ej ro h cs j d us:=by
     intro cs
     induction cs with
     |nil=>intro j d us hh; exact hh
     |cons c cs ih=> intro j d us hh;obtain⟨u,vs,rfl,g1,g2⟩:=hh;exact⟨u,vs,rfl,mono _ _ _ g1,ih _ _ _ g2⟩
    cases hr:rowOf t with
    |one c=> rw [hr] at r1';obtain⟨u,rfl,g1⟩:=r1';exact⟨u,rfl,mono _ _ _ g1⟩
    |many cs=> rw [hr] at r1';exact aid _ _ _ _ r1'
   ·intro j u hj;rw [anV J,hp];rw [show i*(rowOf t).es+j-i*(rowOf t).es=j by omega];have:=(bk.1 hj).1;rw [aoi this];exact hj
  rw [w1];simp only [bD] at iD ⊢;generalize hL:(dec (e.den E.ρ)).l=L at *
  cases hr:rowOf t with
  |one c=>
   refine .one t c _ _ cap L (fun i=>(us[i]?).getD undef) hr iX hb ?_ ?_
   ·intro i d hd;obtain⟨rs,g1,g2⟩:=iD i d hd;rw [hr] at g1;obtain⟨u,rfl,g3⟩:=g1;have:=g2 0 u rfl;rw [hr] at this;simp only [Row.es,anB,bw] at this;rw [this];exact Z i u this
   ·intro i d hd;obtain⟨rs,g1,g2⟩:=iD i d hd;rw [hr] at g1;obtain⟨u,rfl,g3⟩:=g1;have:=g2 0 u rfl;rw [hr] at this;simp only [Row.es,anB,bw] at this;rw [this];have hw:=w2 d (amm hd);rw [hr] at hw;exact g3.rd hw
  |many cs=>
   have hwr: ∀d∈L,KI cs d:=by intro d hd;have:=w2 d hd;rw [hr] at this;exact this
   have hLm:L=(L.map D.l).map dL:=by rw [amU];have:L.map (dL ∘ D.l)=L.map (fun d=>d):=anc fun d hd=>(hwr d hd).1.symm;rw [this,List.map_id']
   have hlen:(L.map D.l).length=L.length:=ad
   have aiO:(L.map D.l).length<=cap:=by rw [hlen]; exact iX
   have goal:Rd ro h (.sl t) (dL ((L.map D.l).map dL)) (.slice (some ⟨(E.θ id).1,(E.θ id).2,none⟩) (L.map D.l).length cap):=by
    refine .many t cs _ _ cap (L.map D.l) (fun i j=>(us[i*cs.length+j]?).getD undef) hr aiO hb ?_ ?_ ?_
    ·intro r hrm;rw [bd] at hrm;obtain⟨d,hd,rfl⟩:=hrm;exact (hwr d hd).2.1
    ·intro i r j d hi hj;rw [bp,aZ] at hi;obtain⟨x,hx,rfl⟩:=hi;obtain⟨rs,g1,g2⟩:=iD i x hx;rw [hr] at g1;have hjl:j<cs.length:=by rw [<- (hwr x (amm hx)).2.1]; exact (bk.1 hj).1
     obtain⟨u,g3,g4⟩:=ej.get g1 (aT hjl);have:=g2 j u g3;rw [hr] at this;simp only [Row.es] at this;rw [this,amq];exact Z _ u this
    ·intro i r j d c hi hj hcj;rw [bp,aZ] at hi;obtain⟨x,hx,rfl⟩:=hi;obtain⟨rs,g1,g2⟩:=iD i x hx;rw [hr] at g1;obtain⟨u,g3,g4⟩:=ej.get g1 hcj;have:=g2 j u g3;rw [hr] at this;simp only [Row.es] at this;rw [this];rw [aK] at g4;have hd:x.hd j=d:=by simp [D.hd,hj]
     rw [hd] at g4;exact g4.rd ((hwr x (amm hx)).2.2 j c d hcj hj)
   rw [<- hLm,hlen] at goal;exact goal
theorem Wb {h:Array Obj} {id:Nat} {e:V} {t:Nat} {ty:TypeId} {ro:Nat->Prop} (lZ: ∀b,E.ro b->ro b) (hb:ro (E.θ id).1) (ho:OR E h id (.vec e t ty [])) {k cap:Nat} {a:Addr} (hk:k=(dec (e.den E.ρ)).l.length) (iX:k<=cap)
 (hc:eZ E id 0 k a cap (.rest (rowOf t).es)):Rd ro h (.sl t) (dec (e.den E.ρ)) (.slice (some a) k cap):=by
 refine QB lZ hb ho hk iX fun mh=>?_;simp only [eZ] at hc
 grind
structure Sub (H' H:Hp):Prop where
 get: ∀j o,H'.get j=some o->H.get j=some o
 next:H'.next=H.next
 res:H'.res=H.res
theorem Sub.refl (H:Hp):Sub H H:=⟨fun _ _ h=>h,rfl,rfl⟩
theorem Sub.trans {A B C:Hp} (a:Sub B A) (b:Sub C B):Sub C A:=⟨fun j o h=>a.get j o (b.get j o h),b.next.trans a.next,b.res.trans a.res⟩
theorem Sub.drop (H:Hp) (id:Nat):Sub (H.drop id) H:=by
 refine⟨fun j o hj=>?_,rfl,rfl⟩
 grind [Hp.lr]
theorem Kq [bJ] {H:Hp} (r:bS E H w) {id:Nat} {o:dX} (W:H.get id=some o) :
 fU E w.heap { E with ro:=fun b=>E.ro b\/b=(E.θ id).1 } w.heap/\fj E H w { E with ro:=fun b=>E.ro b\/b=(E.θ id).1 } (H.drop id) w/\bS { E with ro:=fun b=>E.ro b\/b=(E.θ id).1 } (H.drop id) w:=by
 have hk:fU E w.heap { E with ro:=fun b=>E.ro b\/b=(E.θ id).1 } w.heap:=⟨rfl,fun _ h=>h,fun _ _=>rfl,fun _ _=>rfl,fun _ h=> .inl h,fun _ _=>rfl⟩
 have hg: ∀j o,(H.drop id).get j=some o->H.get j=some o/\j≠id:=by
  intro j o hj
  grind [Hp.lr]
 refine⟨hk,⟨rfl,fun _ h=>h,fun _ _=>rfl,fun _ _=>rfl,fun _ h=> .inl h,?_,ay _,.inr rfl,fun _ h=> .inl h,rfl,rfl,rfl,ay _,fun _ _ _=>rfl,fun j o hj _=> ⟨j,o,(hg j o hj).1,rfl⟩,rfl⟩,
  ⟨r.fresh,r.res,?_,?_,?_,bJ.cD r.ku (fun _ h=> .inl h) (fun _ _=>rfl),fun b x hb=> ⟨(r.hid b x hb).1,fun h=>h.elim (r.hid b x hb).2.1 fun e=>(r.hid b x hb).2.2 id o W e.symm,fun j o hj=>(r.hid b x hb).2.2 j o (hg j o hj).1⟩⟩⟩
 ·intro b hb
  grind
 ·intro j o hj;obtain⟨U,Z⟩:=hg j o hj;obtain⟨g1,g2,g3⟩:=r.live j o U;refine⟨g1,g2.cD hk g1 rfl (fun _ _ _ h=> ⟨h,rfl⟩),?_⟩;rintro (hb|hb)
  ·grind
  ·exact Z (r.inj j id o _ U W hb)
 ·intro i j x y hi hj he;exact r.inj i j x y (hg i x hi).1 (hg j y hj).1 he
 ·intro b hb;rcases hb with hb|rfl
  ·exact r.sq b hb
  ·exact gx r W
theorem afD [bJ] {H H':Hp} (r:bS E H w) {v v':Y} (h:Vx v H=(v',H')) :
 ∃E',E'.ρ=E.ρ/\fj E H w E' H' w/\bS E' H' w/\(∀u,VR E w.heap v u->VR E' w.heap v' u)/\Sub H' H:=by
 have same:(v,H)=(v',H')->∃E',E'.ρ=E.ρ/\fj E H w E' H' w/\bS E' H' w/\(∀u,VR E w.heap v u->VR E' w.heap v' u)/\Sub H' H:=by
  intro he;simp only [aq] at he
  grind [fj.refl,Sub.refl]
 unfold Vx at h;split at h
 ·rename_i id n t;split at h
  ·rename_i o W;split at h
   ·rename_i e t' ty ov;split at h
    ·split at h
     ·rename_i ht;split at h
      ·rename_i hn;simp only [aq] at h;obtain⟨rfl,rfl⟩:=h;have ht:=az ht;have hn:=cX _ _ hn;subst ht hn;have zS:=r.live id _ W;obtain⟨hk,s1,r1⟩:=Kq r W;refine⟨{ E with ro:=fun b=>E.ro b\/b=(E.θ id).1 },rfl,s1,r1,fun u hv=>?_,Sub.drop _ _⟩;simp only [VR] at hv ⊢
       grind [cL,Wb]
      grind
     grind
    grind
   grind
  grind
 ·simp only [aq] at h;obtain⟨rfl,rfl⟩:=h;exact⟨E,rfl,fj.refl _ _ _,r,fun u hu=>by simp only [VR] at hu ⊢; exact hu.2,Sub.refl _⟩
 grind
end
section
variable {P:Program} {E:En} {w:World}
theorem Rd.part {ro:Nat->Prop} {h:Array Obj} {t:Nat} {d:D} {b o n cap l k:Nat} (r:Rd ro h (.sl t) d (.slice (some ⟨b,o,none⟩) n cap)) (W:l<=k) (hk:k<=n) (hn:n<=cap) :
 Rd ro h (.sl t) (bR d ((d.l.take k).drop l)) (.slice (some (if cap=l then⟨b,o,none⟩ else⟨b,o+l*(rowOf t).es,none⟩)) (k-l) (cap-l)):=by
 by_cases h0:k-l=0
 ·have:(d.l.take k).drop l= []:=by
   apply aoj
   grind
  have hd:d≠.i 1:=by
   intro q
   grind [Hs]
  rw [this,h0];simp only [bR];rw [ah hd];exact .wO _ _ _
 ·rw [ah J]
  have gB:(d.l.take k).drop l≠[]:=by
   intro q;have:=congrArg List.length q;obtain⟨x,qE,hv,_⟩:=r.slice
   grind
  rw [wa gB];generalize hc:CK.sl t=c at r;generalize hv:Value.slice (some ⟨b,o,none⟩) n cap=v at r
  cases r with
  |int k n=>simp at hc
  |bool b=>simp at hc
  |str s=>simp at hc
  |nil t=>simp at hv
  |wO t a cap=>
   grind
  |one t' c b' o' qE ds f hr eP hb U Z=>
   simp only [CK.sl.injEq] at hc;subst hc;simp only [Value.slice.injEq,an,Addr.mk.injEq] at hv;obtain⟨⟨rfl,rfl,_⟩,rfl,rfl⟩:=hv;rw [bD];have hlen:((ds.take k).drop l).length=k-l:=by rw [br,bh]; omega
   have vJ: ∀i d,((ds.take k).drop l)[i]?=some d->ds[l+i]?=some d:=by
    intro i d hd
    grind
   rw [<- hlen];refine .one t c b (o+l*(rowOf t).es) (cap-l) ((ds.take k).drop l) (fun i=>f (l+i)) hr (by rw [hlen]; omega) hb ?_ ?_
   ·intro i d hd;have:=U (l+i) d (vJ i d hd);rw [hr,show o+l*(Row.one c).es+i=o+(l+i) by simp only [Row.es]; omega]
    grind
   grind
  |many t' cs b' o' qE rows f hr eP hb hll U Z=>
   simp only [CK.sl.injEq] at hc;subst hc;simp only [Value.slice.injEq,an,Addr.mk.injEq] at hv;obtain⟨⟨rfl,rfl,_⟩,rfl,rfl⟩:=hv;rw [bD];have hlen:((rows.take k).drop l).length=k-l:=by rw [br,bh]; omega
   have vJ: ∀i d,((rows.take k).drop l)[i]?=some d->rows[l+i]?=some d:=by
    intro i d hd
    grind
   rw [<- hlen,<- anx,<- anz];refine .many t cs b (o+l*(rowOf t).es) (cap-l) ((rows.take k).drop l) (fun i=>f (l+i)) hr (by rw [hlen]; omega) hb (fun r hrm=>hll r (amo (amn hrm))) ?_ ?_
   ·intro i r j d hi hj;have:=U (l+i) r j d (vJ i r hi) hj;rw [hr,show o+l*(Row.many cs).es+i*cs.length+j=o+(l+i)*cs.length+j by simp only [Row.es,amx]; omega]
    grind
   grind
theorem Rd.ah7 {ro:Nat->Prop} {h:Array Obj} {t:Nat} {d:D} {x:Option Addr} {n cap l k:Nat} (r:Rd ro h (.sl t) d (.slice x n cap)) (W:l<=k) (hk:k<=n) (hn:n<=cap) :
 Rd ro h (.sl t) (bR d ((d.l.take k).drop l)) (.slice (match x with |some a=>some (if cap=l then a else a.add (l*(rowOf t).es))|none=>none) (k-l) (cap-l)):=by
 have hx:(∃b o,x=some ⟨b,o,none⟩)\/(d= .i 1/\x=none/\n=0/\cap=0)\/(d= .i 2/\n=0/\∃a,x=some a):=by
  generalize hc:CK.sl t=c at r;generalize hv:Value.slice x n cap=v at r
  cases r with
  |int k n=>simp at hc
  |bool b=>simp at hc
  |str s=>simp at hc
  |nil t=>simp only [Value.slice.injEq] at hv; exact .inr (.inl ⟨rfl,hv.1,hv.2.1,hv.2.2⟩)
  |wO t a cap=>simp only [Value.slice.injEq] at hv; exact .inr (.inr ⟨rfl,hv.2.1,a,hv.1⟩)
  |one t' c b' o' qE ds f hr eP hb U Z=>simp only [Value.slice.injEq] at hv; exact .inl ⟨_,_,hv.1⟩
  |many t' cs b' o' qE rows f hr eP hb hll U Z=>simp only [Value.slice.injEq] at hv; exact .inl ⟨_,_,hv.1⟩
 rcases hx with ⟨b,o,rfl⟩|⟨rfl,rfl,rfl,rfl⟩|⟨rfl,rfl,a,rfl⟩
 ·have:=r.part W hk hn;simp only [fw]
  grind
 ·obtain rfl:k=0:=J
  obtain rfl:l=0:=J
  exact .nil _
 ·obtain rfl:k=0:=J
  obtain rfl:l=0:=J
  exact .wO _ _ _
theorem h! (l:List D):dL l≠.i 1:=by cases l<;>simp [dL]
theorem Rd.afN {ro:Nat->Prop} {h:Array Obj} {t:Nat} {d:D} {x:Option Addr} {n cap:Nat} (r:Rd ro h (.sl t) d (.slice x n cap)):Rd ro h (.sl t) (bR d []) (.slice x 0 0):=by
 generalize hc:CK.sl t=c at r;generalize hv:Value.slice x n cap=v at r
 cases r with
 |int k n=>simp at hc
 |bool b=>simp at hc
 |str s=>simp at hc
 |nil t=> simp only [Value.slice.injEq] at hv;obtain⟨rfl,_,_⟩:=hv;exact .nil _
 |wO t a cap=> simp only [Value.slice.injEq] at hv;obtain⟨rfl,_,_⟩:=hv;exact .wO _ _ _
 |one t' c b' o' qE ds f hr eP hb U Z=> simp only [Value.slice.injEq] at hv;obtain⟨rfl,_,_⟩:=hv;rw [pN (h! _)];exact .wO _ _ _
 |many t' cs b' o' qE rows f hr eP hb hll U Z=> simp only [Value.slice.injEq] at hv;obtain⟨rfl,_,_⟩:=hv;rw [pN (h! _)];exact .wO _ _ _
theorem Ps [bJ] {tt:TT} (cV:eJ P tt) {s s':St} (hp:ca E.ρ s.pc) {ty t:Nat} {e:V} {lo hi mx:Option Y} {yP hi' mx':Option Value} {v:Y} {u:Value} (hx:VR E w.heap (.eD e t) u)
 (oU:gF E w.heap lo yP) (yU:gF E w.heap hi hi') (yA:gF E w.heap mx mx') (h:(Kb tt s ty t e lo hi mx).leaf E.ρ=some (v,s')) :
 s'.bG=s.bG/\s'.h=s.h/\ca E.ρ s'.pc/\∃r,(Instr.sliceAt ty u yP hi' mx').run P w= .ok r w/\VR E w.heap v r:=by
 unfold Kb at h;split at h
 ·rename_i m;split at h
  ·rename_i hm;split at h
   ·simp [T.leaf] at h
   ·rename_i z hz;split at h
    ·split at h
     ·rename_i hv;split at h
      ·rename_i hh;have:=bE h;simp only [aq] at this;obtain⟨rfl,rfl⟩:=this;refine⟨rfl,rfl,hp,?_⟩;obtain⟨el,ie,hu,lG,rfl⟩:=nV cV hz;have iW:=eF (cV el ie lG);simp only [VR] at hx;obtain⟨x,cap,rfl,iX⟩:=hx.slice
       have zb: ∀(a:Y),C6 a=true->∀d y,oh (some a) d y=some 0:=by
        intro a ha d y;unfold C6 at ha;unfold oh;split at ha
        ·rename_i n hn;have:=wV ha;subst this;simp only [hn];rw [ak (amR y)]
        ·simp at ha
       obtain⟨e1,e2⟩:=gm (P:=P) (w:=w) (isSlice:=true) (len:=(dec (e.den E.ρ)).l.length) (cap:=cap) (m0:=cap) (d:=0) (m:=0) (h0:=0) (h:=0) (l:=0) oU yU yA (fun _=>rfl) (.inr ⟨m,rfl,zb m hm _ _,ay _⟩) (zb hv hh _ _) ⟨fun q=>by simp at q,fun _=>rfl⟩ (by simp [oh]);refine⟨.slice x 0 0,?_,?_⟩
       rotate_left
       ·simp only [VR];refine⟨⟨x,rfl⟩,?_⟩;simp only [V.den,fT.den,bC];exact hx.afN
       cases x with
       |none=>simp [Instr.sliceAt,run_underlying hu,Instr.slice,e1,iW]
       |some a=>simp [Instr.sliceAt,run_underlying hu,Instr.slice,e1,iW]
      ·simp [T.leaf] at h
     ·simp [T.leaf] at h
    ·simp [T.leaf] at h
  ·simp [T.leaf] at h
 ·simp only [gF] at yA;subst yA;split at h
  ·simp [T.leaf] at h
  ·rename_i z hz;split at h
   ·rename_i l8;obtain⟨el,ie,hu,lG,rfl⟩:=nV cV hz;have iW:=eF (cV el ie lG);simp only [VR] at hx;obtain⟨x,cap,rfl,iX⟩:=hx.slice
    have fin: ∀(l k:Nat) (e':V) (Vo JF:Option Y),gF E w.heap Vo yP->gF E w.heap JF hi'->oh JF (dec (e.den E.ρ)).l.length (dec (e.den E.ρ)).l.length=some k->oh Vo 0 k=some l->dec (e'.den E.ρ)=bR (dec (e.den E.ρ)) (((dec (e.den E.ρ)).l.take k).drop l)->
     ∃r,(Instr.sliceAt ty (.slice x (dec (e.den E.ρ)).l.length cap) yP hi' none).run P w= .ok r w/\VR E w.heap (.eD e' t) r:=by
     intro l k e' Vo JF U Z h3 h4 h5;obtain⟨e1,e2⟩:=gm (P:=P) (w:=w) (isSlice:=true) (len:=(dec (e.den E.ρ)).l.length) (cap:=cap) (m0:=cap) (d:=0) (m:=cap) U Z (mx:=none) (mx':=none) (by simp [gF]) ad (.inl ⟨rfl,rfl,ay _⟩) h3 ⟨fun _=>iX,ad⟩ h4;have hk:=ma h3;have Uu:=hx.ah7 e2 hk iX;refine⟨_,?_,by simp only [VR,h5]; exact Uu⟩
     cases x with
     |none=>simp [Instr.sliceAt,run_underlying hu,Instr.slice,e1,iW]
     |some a=>simp [Instr.sliceAt,run_underlying hu,Instr.slice,e1,iW,l8]<;>split<;>rfl
    have lit: ∀(k:IntKind) (n:Nat) (q:V) (o:Option Value),q.den E.ρ=(n:Int)->gF E w.heap (some (.int k q)) o->gF E w.heap (some (.int k (.lit (Int.ofNat n)))) o:=by intro k n q o hq ho;obtain⟨y,rfl,hy⟩:=ho;refine⟨y,rfl,?_⟩;simp only [VR,V.den] at hy ⊢;rw [hy,hq];rfl
    have bl: ∀(k:IntKind) (n d y:Nat),n<=y->oh (some (.int k (.lit (Int.ofNat n)))) d y=some n:=by intro k n d y hn;simp [oh,k8,hn]
    split at h
    ·
     simp only [gF] at yU;subst yU;split at h
     ·rename_i kl ql;obtain⟨fW,fL,U⟩:=cR hp h;split at U
      ·simp [T.leaf] at U
      ·rename_i t1;obtain⟨kz,kg,Z⟩:=cR (s:={ s with pc:=fW }) fL U;split at Z
       ·simp [T.leaf] at Z
       ·rename_i t2;have:=bE Z;simp only [aq] at this;obtain⟨rfl,rfl⟩:=this;rw [eg,decide_eq_false_iff_not] at t1 t2;rw [cL] at t2;simp only [V.den,amZ] at t1 t2;obtain⟨l,W⟩ : ∃l:Nat,ql.den E.ρ=(l:Int):=⟨(ql.den E.ρ).toNat,J⟩;refine⟨rfl,rfl,kg,fin l (dec (e.den E.ρ)).l.length _ _ none (lit kl l ql yP W oU) (by simp [gF]) (by simp [oh]) (bl _ _ _ _ J) ?_⟩;simp only [V.den,fT.den,bC,W,aX,amF]
     ·simp [T.leaf] at h
    ·rename_i kh qh;obtain⟨fW,fL,U⟩:=cR hp h;split at U
     ·simp [T.leaf] at U
     ·rename_i t1;rw [eg,decide_eq_false_iff_not,cL] at t1;split at U
      ·simp only [gF] at oU;subst oU;obtain⟨kz,kg,Z⟩:=cR (s:={ s with pc:=fW }) fL U;split at Z
       ·simp [T.leaf] at Z
       ·rename_i t2;have:=bE Z;simp only [aq] at this;obtain⟨rfl,rfl⟩:=this;rw [eg,decide_eq_false_iff_not] at t2;simp only [V.den,amZ] at t2;obtain⟨k,hk⟩ : ∃k:Nat,qh.den E.ρ=(k:Int):=⟨(qh.den E.ρ).toNat,J⟩;refine⟨rfl,rfl,kg,fin 0 k _ none _ (by simp [gF]) (lit kh k qh hi' hk yU) (bl _ _ _ _ J) (by simp [oh]) ?_⟩;simp only [V.den,fT.den,bC,hk,aX,amP]
      ·rename_i kl ql;obtain⟨kz,kg,Z⟩:=cR (s:={ s with pc:=fW }) fL U;split at Z
       ·simp [T.leaf] at Z
       ·rename_i t2;obtain⟨Vn,JC,h3⟩:=cR (s:={ s with pc:=kz }) kg Z;split at h3
        ·simp [T.leaf] at h3
        ·rename_i t3;have:=bE h3;simp only [aq] at this;obtain⟨rfl,rfl⟩:=this;rw [eg,decide_eq_false_iff_not] at t2 t3;simp only [V.den,amZ] at t2 t3;obtain⟨l,W⟩ : ∃l:Nat,ql.den E.ρ=(l:Int):=⟨(ql.den E.ρ).toNat,J⟩;obtain⟨k,hk⟩ : ∃k:Nat,qh.den E.ρ=(k:Int):=⟨(qh.den E.ρ).toNat,J⟩;refine⟨rfl,rfl,JC,fin l k _ _ _ (lit kl l ql yP W oU) (lit kh k qh hi' hk yU) (bl _ _ _ _ J) (bl _ _ _ _ J) ?_⟩;simp only [V.den,fT.den,bC,W,hk,aX,bN];exact yJ fun q=>by rw [q]; simp [D.l]
      ·simp [T.leaf] at U
    ·simp [T.leaf] at h
   ·simp [T.leaf] at h
end
theorem EF {e:V} (h:isZ e=true):e= .lit 0:=by
 unfold isZ at h
 grind [wV]
theorem pP (ρ:Nat->Int) (a b:V):(tg a b).den ρ=a.den ρ+b.den ρ:=by
 unfold tg;split
 ·rename_i h;rw [EF h];simp only [V.den,Int.zero_add]
 ·rfl
theorem TL (ρ:Nat->Int) (a b:V):(DV a b).den ρ=a.den ρ-b.den ρ:=by
 unfold DV;split
 ·rename_i h;rw [EF h];simp only [V.den,Int.sub_zero]
 ·rfl
theorem yj {ρ:Nat->Int} {e lo n:V} {l k:Nat} (W:lo.den ρ=(l:Int)) (hn:n.den ρ=(k:Int)) :
 dec ((Ek e lo n).den ρ)=bR (dec (e.den ρ)) (((dec (e.den ρ)).l.take (l+k)).drop l):=by
 unfold Ek;split
 ·rename_i h;have h:=EF h;subst h;simp only [V.den] at W;have:l=0:=J
  subst this;simp only [V.den,fT.den,bC,hn,aX,aK,amP]
 ·have Z:((l:Int)+(k:Int)).toNat=l+k:=J
  simp only [V.den,fT.den,bC,W,hn,Z,aX,bN]
  grind [yJ,D.l]
theorem wN {α:Type} {ρ:Nat->Int} {e lo n:V} {s:St} {k:St->T α} {x:α} (hp:ca ρ s.pc) (h:(yk e lo n s k).leaf ρ=some x) :
 ∃ew,ca ρ ew/\0<=lo.den ρ/\0<=n.den ρ/\lo.den ρ+n.den ρ<=((dec (e.den ρ)).l.length:Int)/\(k { s with pc:=ew }).leaf ρ=some x:=by
 unfold yk at h;obtain⟨fW,fL,U⟩:=cR hp h;split at U
 ·grind [T.leaf]
 ·rename_i RX;obtain⟨kz,kg,Z⟩:=cR (s:={ s with pc:=fW }) fL U;split at Z
  ·grind [T.leaf]
  ·rename_i rQ;obtain⟨Vn,JC,h3⟩:=cR (s:={ s with pc:=kz }) kg Z;split at h3
   ·grind [T.leaf]
   ·rename_i hb3;rw [eg,decide_eq_false_iff_not] at RX rQ hb3;rw [cL,pP] at hb3;simp only [V.den] at RX rQ
    grind
theorem nN {h:Hp} {id t:Nat} {e:V} {ty:TypeId} (hv:B2 h id t=some (e,ty)):h.get id=some (.vec e t ty []):=by
 unfold B2 at hv;split at hv
 ·rename_i o ho;split at hv
  ·split at hv
   ·split at hv
    all_goals simp_all
   grind
  grind
 grind
theorem Rd.ah0 {ro:Nat->Prop} {h:Array Obj} {t:Nat} {d:D} {a:Addr} {n cap qE:Nat} (r:Rd ro h (.sl t) d (.slice (some a) n cap)) (hc:n<=qE):Rd ro h (.sl t) d (.slice (some a) n qE):=by
 generalize hk:CK.sl t=c at r;generalize hv:Value.slice (some a) n cap=v at r
 cases r with
 |int k n=>simp at hk
 |bool b=>simp at hk
 |str s=>simp at hk
 |nil t=>simp at hv
 |wO t a cap=> simp only [CK.sl.injEq] at hk;simp only [Value.slice.injEq,an] at hv;obtain⟨rfl,rfl,rfl⟩:=hv;subst hk;exact .wO _ _ _
 |one t' c b' o' qE ds f hr eP hb U Z=> simp only [CK.sl.injEq] at hk;simp only [Value.slice.injEq,an] at hv;obtain⟨rfl,rfl,rfl⟩:=hv;subst hk;exact .one _ _ _ _ _ _ _ hr hc hb U Z
 |many t' cs b' o' qE rows f hr eP hb hll U Z=> simp only [CK.sl.injEq] at hk;simp only [Value.slice.injEq,an] at hv;obtain⟨rfl,rfl,rfl⟩:=hv;subst hk;exact .many _ _ _ _ _ _ _ hr hc hb hll U Z
section
variable {P:Program} {E:En} {w:World}
theorem Wc {h:Array Obj} {id:Nat} {e:V} {t:Nat} {ty:TypeId} {ro:Nat->Prop} (lZ: ∀b,E.ro b->ro b) (hb:ro (E.θ id).1) (ho:OR E h id (.vec e t ty [])) {l k cap:Nat} {a:Addr} (hk:l+k<=(dec (e.den E.ρ)).l.length) (iX:k<=cap)
 (hc:eZ E id (l*(rowOf t).es) k a cap (.rest (rowOf t).es)):Rd ro h (.sl t) (bR (dec (e.den E.ρ)) (((dec (e.den E.ρ)).l.take (l+k)).drop l)) (.slice (some a) k cap):=by
 have hw:=(OR.pf.1 ho).1.2
 have gB:dec (e.den E.ρ)≠.i 1:=by intro q;have:=hw.2.2;rw [q] at this;exact this rfl
 rcases am0 k with h0|mh
 ·subst h0
  have:((dec (e.den E.ρ)).l.take (l+0)).drop l= []:=by
   grind
  rw [this,pN gB];exact .wO _ _ _
 ·simp only [eZ] at hc
  obtain⟨rfl,_⟩ : a=⟨(E.θ id).1,(E.θ id).2+l*(rowOf t).es,none⟩/\l*(rowOf t).es+cap*(rowOf t).es=E.κ id:=by
   grind
  have r0:=QB lZ hb ho (k:=(dec (e.den E.ρ)).l.length) (cap:=(dec (e.den E.ρ)).l.length+l+1) (a:=⟨(E.θ id).1,(E.θ id).2,none⟩) rfl J (fun _=>rfl);have r1:=r0.part (l:=l) (k:=l+k) J hk J;rw [ah J,show l+k-l=k by omega] at r1;exact r1.ah0 iX
structure K2 [bJ] (E:En) (w:World) (H:Hp) (E':En) (H':Hp):Prop where
 ρ:E'.ρ=E.ρ
 ei:fj E H w E' H' w
 rel:bS E' H' w
 sub:Sub H' H
theorem K2.refl [bJ] {H:Hp} (r:bS E H w):K2 E w H E H:=⟨rfl,fj.refl _ _ _,r,Sub.refl _⟩
theorem K2.trans [bJ] {E1 E2:En} {H H1 H2:Hp} (a:K2 E w H E1 H1) (b:K2 E1 w H1 E2 H2):K2 E w H E2 H2:=
 ⟨b.ρ.trans a.ρ,a.ei.trans b.ei,b.rel,a.sub.trans b.sub⟩
theorem JR [bJ] {α:Type} {ρ:Nat->Int} {v:Y} {s:St} {k:Y->St->T α} {x:α} (hρ:E.ρ=ρ) (r:bS E s.h w) (hp:ca ρ s.pc) (h:(O9 v s k).leaf ρ=some x) :
 ∃v' h' ew E',ca ρ ew/\K2 E w s.h E' h'/\(∀u,VR E w.heap v u->VR E' w.heap v' u)/\(k v' { s with h:=h',pc:=ew }).leaf ρ=some x:=by
 unfold O9 at h;split at h
 ·rename_i id lo n t;split at h
  ·rename_i e ty hv;have W:=nN hv;obtain⟨ew,fQ,U,Z,h3,h4⟩:=wN hp h;obtain⟨hk,s1,r1⟩:=Kq r W;refine⟨_,_,ew,{ E with ro:=fun b=>E.ro b\/b=(E.θ id).1 },fQ,⟨rfl,s1,r1,Sub.drop _ _⟩,fun u hu=>?_,h4⟩;simp only [VR] at hu ⊢;obtain⟨hid,l,m,a,cap,q1,q2,rfl,q4,q5⟩:=hu;rw [yj q1 q2];rw [hρ] at q1 q2;have hh:=Wc (E:=E) (ro:=fun b=>E.ro b\/b=(E.θ id).1) (fun _ h=> .inl h) (.inr rfl) (r.live id _ W).2.1 (l:=l) (k:=m) (by rw [hρ]; omega) q4 q5;exact hh
  ·exact⟨_,_,s.pc,E,hp,K2.refl r,fun _ h=>h,h⟩
 ·cases hf:Vx v s.h with
  |mk v' h'=> rw [hf] at h;obtain⟨E',q1,q2,q3,q4,q5⟩:=afD r hf;exact⟨v',h',s.pc,E',hp,⟨q1,q2,q3,q5⟩,q4,h⟩
theorem Ml [bJ] {α:Type} {ρ:Nat->Int}: ∀{vs:List Y} {s:St} {E:En} {k:List Y->St->T α} {x:α},E.ρ=ρ->bS E s.h w->ca ρ s.pc->(HU vs s k).leaf ρ=some x->
 ∃NC h' ew E',ca ρ ew/\K2 E w s.h E' h'/\(∀us,cJ E w.heap vs us->cJ E' w.heap NC us)/\(k NC { s with h:=h',pc:=ew }).leaf ρ=some x
 |[],s,E,k,x,hρ,r,hp,h=> ⟨[],s.h,s.pc,E,hp,K2.refl r,fun _ h=>h,h⟩
 |v::vs,s,E,k,x,hρ,r,hp,h=>by simp only [HU] at h;obtain⟨v1,U,fW,E1,fL,f1,q1,g1⟩:=JR hρ r hp h;obtain⟨V9,Z,kz,E2,kg,f2,q2,g2⟩:=Ml (s:={ s with h:=U,pc:=fW }) (f1.ρ.trans hρ) f1.rel fL g1;refine⟨v1::V9,Z,kz,E2,kg,f1.trans f2,fun us hu=>?_,g2⟩;rw [bX] at hu ⊢;obtain⟨u,gX,rfl,a,b⟩:=hu;exact⟨u,gX,rfl,VR.cD (f2.ei.keeps f1.rel) _ _ (q1 u a),q2 gX (cJ.cD (f1.ei.keeps r) _ _ b)⟩
theorem zw {ρ:Nat->Int} {i:Nat} {j:V} {cs:List Y}: ∀{pre:List (V×List Y)},ep ρ i (pre++ [(j,cs)])=match ep ρ i pre with |some c=>some c|none=>if j.den ρ=(i:Int) then some cs else none
 |[]=>rfl
 |(a,b)::pre=>by
  simp only [aW,ep];split
  ·rfl
  ·exact zw
theorem R_ (ρ:Nat->Int) (e j x:V):dec ((V.op .set e (eL (nO j) x)).den ρ)=dL (fI (dec (e.den ρ)).l (j.den ρ) (dec (x.den ρ))):=by simp only [eL,V.den,fT.den,bC,mf,D.n]
theorem Lq (ds:List D) (z:Int) (x:D) (n:Nat):(fI ds z x)[n]?=if z=(n:Int)/\n<ds.length then some x else ds[n]?:=by
 grind [fI]
theorem xV {ρ:Nat->Int} {E1 E2:En} {h:Array Obj} {r:Row} {pre:List (V×List Y)} {j:V} {cs:List Y} {X:D} (mono: ∀a us,cJ E1 h a us->cJ E2 h a us) (hX: ∀us,cJ E1 h cs us->xA E2.ro h r X us) :
 ∀{L L':List D} {i:Nat} {us:List Value},L'.length=L.length->(∀n:Nat,L'[n]?=if j.den ρ=((i+n:Nat):Int)/\n<L.length then some X else L[n]?)->
  cJ E1 h (bH ρ r (pre++ [(j,cs)]) L i) us->cJ E2 h (bH ρ r pre L' i) us
 |[],[],i,us,_,_,hv=>by simp only [bH,cJ] at *; exact hv
 |[],_::_,_,_,W,_,_=>by simp at W
 |_::_,[],_,_,W,_,_=>by simp at W
 |d::L,d'::L',i,us,W,hg,hv=>by
  simp only [bH] at *;obtain⟨a,b,rfl,a1,a2⟩:=hv.split;have h0:=hg 0;simp only [aL,bw,aQ] at h0;refine cJ.append ?_ (xV mono hX (by simpa using W) (fun n=>?_) a2)
  ·rw [zw] at a1
   cases ho:ep ρ i pre with
   |some c=>
    grind
   |none=>
    rw [ho] at a1;simp only at a1 ⊢;by_cases hj:j.den ρ=(i:Int)
    ·rw [ak hj] at a1;rw [ak ⟨hj,J⟩] at h0;simp only [an] at h0;subst h0;rw [gD];simp only [V.den,bC]
     grind
    grind
  ·have:=hg (n+1)
   grind
theorem R! {r:Row} {ds:List D} {z:Int} {x:D} (U: ∀d∈ds,qJ r d) (Z:qJ r x): ∀d∈fI ds z x,qJ r d:=by
 intro d hd;obtain⟨n,hn⟩:=ane.1 hd
 grind [Lq]
theorem R? {ds:List D} {z:Int} {x:D} (h:ds≠[]):fI ds z x≠[]:=by
 intro q
 grind [fY]
theorem LF [bJ] {α:Type} {ρ:Nat->Int} {t:Nat}: ∀{ov:List (V×List Y)} {e:V} {s:St} {E:En} {k:V->St->T α} {x:α} (pre:List (V×List Y)),E.ρ=ρ->bS E s.h w->ca ρ s.pc->tj (rowOf t) (dec (e.den ρ))->
 (Hi t ov e s k).leaf ρ=some x->
 ∃e' h' ew E',ca ρ ew/\K2 E w s.h E' h'/\tj (rowOf t) (dec (e'.den ρ))/\(dec (e'.den ρ)).l.length=(dec (e.den ρ)).l.length/\
  (∀us,cJ E w.heap (bH ρ (rowOf t) (pre++ov) (dec (e.den ρ)).l 0) us->cJ E' w.heap (bH ρ (rowOf t) pre (dec (e'.den ρ)).l 0) us)/\(k e' { s with h:=h',pc:=ew }).leaf ρ=some x
 |[],e,s,E,k,x,pre,hρ,r,hp,hw,h=> ⟨e,s.h,s.pc,E,hp,K2.refl r,hw,rfl,fun us hu=>by rw [amy] at hu; exact hu,h⟩
 |(j,cs)::ov,e,s,E,k,x,pre,hρ,r,hp,hw,h=>by
  simp only [Hi] at h;obtain⟨e1,U,fW,E1,fL,f1,w1,l1,c1,g1⟩:=LF (pre++ [(j,cs)]) hρ r hp hw h;obtain⟨cs2,Z,kz,E2,kg,f2,c2,g2⟩:=Ml (s:={ s with h:=U,pc:=fW }) (f1.ρ.trans hρ) f1.rel fL g1;split at g2
  ·rename_i y hy;have hρ2:E2.ρ=ρ:=f2.ρ.trans (f1.ρ.trans hρ);have hsd:=R_ ρ e1 j y;refine⟨_,Z,kz,E2,kg,f1.trans f2,?_,?_,?_,g2⟩
   ·rw [hsd];exact⟨by rw [bD],by rw [bD]; exact R! w1.2.1 (uG hy),by rw [bD]; exact R? w1.2.2⟩
   ·grind [bD,fY]
   ·intro us hu;rw [hsd,bD];have hu1:=c1 us (by rw [ani]; exact hu);refine xV (j:=j) (cs:=cs) (X:=dec (y.den ρ)) (fun a us ha=>cJ.cD (f2.ei.keeps f1.rel) _ _ ha) (fun us HL=>?_) (fY _ _ _) (fun n=>?_) hu1
    all_goals grind [uH,Lq]
  grind [T.leaf]
theorem Ug {v:Y} {h:Hp} {id t:Nat} {e:V} {ov:List (V×List Y)} (hv:aeD v h=some (id,e,t,ov)): ∃ty,v= .pV id (ed e) t/\h.get id=some (.vec e t ty ov):=by
 unfold aeD at hv;split at hv
 ·split at hv
  ·rename_i o ho;split at hv
   ·split at hv
    ·grind
    ·split at hv
     ·rename_i ht;split at hv
      ·rename_i hn;have ht:=az ht
       grind [cX]
      grind
     grind
   grind
  grind
 grind
theorem JP [bJ] {α:Type} {ρ:Nat->Int} {v:Y} {s:St} {k:Y->St->T α} {x:α} (hρ:E.ρ=ρ) (r:bS E s.h w) (hp:ca ρ s.pc) (h:(O8 v s k).leaf ρ=some x) :
 ∃v' h' ew E',ca ρ ew/\K2 E w s.h E' h'/\(∀u,VR E w.heap v u->VR E' w.heap v' u)/\(k v' { s with h:=h',pc:=ew }).leaf ρ=some x:=by
 unfold O8 at h;split at h
 ·rename_i id e t ov hv;obtain⟨ty,rfl,W⟩:=Ug hv;obtain⟨hid,ho,amc⟩:=r.live id _ W;have zQ:=ho;simp only [OR] at zQ;rw [hρ] at zQ;obtain⟨⟨tq,xr⟩,arr,lo,hi,us,q1,q2,q3,q4,q5,q6,q7⟩:=zQ;obtain⟨e',h',ew,E',fQ,f,w',l',c',g⟩:=LF [] hρ r hp xr h;split at g
  ·rename_i o hg;have hg':=f.sub.get _ _ hg;rw [W] at hg';simp only [an] at hg';subst hg';obtain⟨hk,s1,r1⟩:=Kq f.rel hg;have hρ':E'.ρ=ρ:=f.ρ.trans hρ;refine⟨_,_,ew,{ E' with ro:=fun b=>E'.ro b\/b=(E'.θ id).1 },fQ,⟨f.ρ,f.ei.trans s1,r1,f.sub.trans (Sub.drop _ _)⟩,fun u hu=>?_,g⟩;simp only [VR] at hu ⊢;obtain⟨_,m,a,cap,p1,rfl,p3,p4⟩:=hu;rw [cL,hρ] at p1;have hθ:=f.ei.θ id hid;have hκ:=f.ei.κ id hid
   have hO:OR E' w.heap id (.vec e' t ty []):=by simp only [OR];rw [hρ',hθ,hκ];have hv':=c' us (by rw [aw]; exact q2);refine⟨⟨fun p hp=>by simp at hp,w'⟩,arr,lo,hi,us,q1,hv',q3,?_,q5,q6,q7⟩;have e1:=hv'.length;have e2:=q2.length;omega
   have hh:=Wb (E:=E') (ro:=fun b=>E'.ro b\/b=(E'.θ id).1) (fun _ h=> .inl h) (.inr rfl) hO (k:=m) (cap:=cap) (a:=a) (by rw [hρ',l']; omega) p3 (by
    simp only [eZ] at p4 ⊢;rw [hθ,hκ]
    exact p4)
   exact hh
  grind [T.leaf]
 grind [JR]
theorem qu [bJ] {α:Type} {ρ:Nat->Int}: ∀{vs:List Y} {s:St} {E:En} {k:List Y->St->T α} {x:α},E.ρ=ρ->bS E s.h w->ca ρ s.pc->(xS vs s k).leaf ρ=some x->
 ∃NC h' ew E',ca ρ ew/\K2 E w s.h E' h'/\(∀us,cJ E w.heap vs us->cJ E' w.heap NC us)/\(k NC { s with h:=h',pc:=ew }).leaf ρ=some x
 |[],s,E,k,x,hρ,r,hp,h=> ⟨[],s.h,s.pc,E,hp,K2.refl r,fun _ h=>h,h⟩
 |v::vs,s,E,k,x,hρ,r,hp,h=>by simp only [xS] at h;obtain⟨v1,U,fW,E1,fL,f1,q1,g1⟩:=JP hρ r hp h;obtain⟨V9,Z,kz,E2,kg,f2,q2,g2⟩:=qu (s:={ s with h:=U,pc:=fW }) (f1.ρ.trans hρ) f1.rel fL g1;refine⟨v1::V9,Z,kz,E2,kg,f1.trans f2,fun us hu=>?_,g2⟩;rw [bX] at hu ⊢;obtain⟨u,gX,rfl,a,b⟩:=hu;exact⟨u,gX,rfl,VR.cD (f2.ei.keeps f1.rel) _ _ (q1 u a),q2 gX (cJ.cD (f1.ei.keeps r) _ _ b)⟩
end
section
variable {P:Program} {E:En} {w:World}
theorem me: ∀{cs vs l:List Y} {o:Nat},ef cs o vs=some l->l.length=cs.length
 |cs,[],l,0,h=>by simp only [ef,an] at h; rw [h]
 |[],v::vs,l,0,h=>by simp [ef] at h
 |c::cs,v::vs,l,0,h=>by
  simp only [ef] at h;split at h
  ·rename_i l' W;simp only [an] at h;subst h;simp [me W]
  grind
 |[],vs,l,o+1,h=>by simp [ef] at h
 |c::cs,vs,l,o+1,h=>by
  simp only [ef] at h;split at h
  ·rename_i l' W;simp only [an] at h;subst h;simp [me W]
  grind
theorem ot: ∀{cs vs l:List Y} {o:Nat} (m:List Y),ef cs o vs=some l->ef (cs++m) o vs=some (l++m)
 |cs,[],l,0,m,h=>by simp only [ef,an] at h ⊢; rw [h]
 |[],v::vs,l,0,m,h=>by simp [ef] at h
 |c::cs,v::vs,l,0,m,h=>by
  simp only [ef,aW] at h ⊢;split at h
  ·rename_i l' W;simp only [an] at h;subst h;rw [ot m W];rfl
  grind
 |[],vs,l,o+1,m,h=>by simp [ef] at h
 |c::cs,vs,l,o+1,m,h=>by
  simp only [ef,aW] at h ⊢;split at h
  ·rename_i l' W;simp only [an] at h;subst h;rw [ot m W];rfl
  grind
theorem tB: ∀{cs vs l:List Y} {o:Nat} (p:List Y),ef cs o vs=some l->ef (p++cs) (p.length+o) vs=some (p++l)
 |cs,vs,l,o,[],h=>by simpa using h
 |cs,vs,l,o,x::p,h=>by have:=tB p h;rw [aW,aQ,show p.length+1+o=(p.length+o)+1 by omega];simp only [ef,this,aW]
theorem sF: ∀{cs vs l:List Y} {o:Nat},ef cs o vs=some l->∀j:Nat,l[j]?=if o<=j/\j<o+vs.length then vs[j-o]? else cs[j]?
 |cs,[],l,0,h,j=>by
  simp only [ef,an] at h
  grind
 |[],v::vs,l,0,h,j=>by simp [ef] at h
 |c::cs,v::vs,l,0,h,j=>by
  simp only [ef] at h;split at h
  ·rename_i l' W;simp only [an] at h;subst h
   cases j with
   |zero=>simp
   |succ j=>
    have:=sF W j
    grind
  grind
 |[],vs,l,o+1,h,j=>by simp [ef] at h
 |c::cs,vs,l,o+1,h,j=>by
  simp only [ef] at h;split at h
  ·rename_i l' W;simp only [an] at h;subst h
   cases j with
   |zero=>rw [ah J]; rfl
   |succ j=>
    have:=sF W j
    grind
  grind
theorem AF (x:V): ∀(cs:List CK) (j k:Nat),(jN cs j x)[k]?=(cs[k]?).map fun c=>r9 c (jw (j+k) x)
 |[],j,k=>by simp [jN]
 |c::cs,j,0=>by simp [jN]
 |c::cs,j,k+1=>by
  simp only [jN,aM,AF x cs (j+1) k]
  grind
theorem B9 {ρ:Nat->Int} {ks:List CK}: ∀{vs:List Y} {off:Nat} {x x':V},setCells ks off vs x=some x'->off+vs.length<=(dec (x.den ρ)).l.length->
 (dec (x'.den ρ)).l.length=(dec (x.den ρ)).l.length/\(dec (x.den ρ)=dL (dec (x.den ρ)).l->dec (x'.den ρ)=dL (dec (x'.den ρ)).l)/\
 ∀j,(j<off\/off+vs.length<=j)/\(dec (x'.den ρ)).l[j]?=(dec (x.den ρ)).l[j]?\/∃c v a,off<=j/\vs[j-off]?=some v/\ks[j]?=some c/\nB c v=some a/\(dec (x'.den ρ)).l[j]?=some (dec (a.den ρ))
 |[],off,x,x',h,_=>by
  simp only [setCells,an] at h
  grind
 |v::vs,off,x,x',h,hle=>by
  simp only [setCells] at h;split at h
  ·rename_i c hc;split at h
   ·rename_i a ha;simp only [aQ] at hle
    have hs:dec ((V.op .set x (eL (.eD (.i (Int.ofNat off))) a)).den ρ)=dL ((dec (x.den ρ)).l.set off (dec (a.den ρ))):=by simp only [eL,V.den,fT.den,bC,D.n];rfl
    obtain⟨U,Z,h3⟩:=B9 (ρ:=ρ) h (by rw [hs,bD,anC]; omega);rw [hs,bD,anC] at U;rw [hs] at Z h3;simp only [bD] at Z h3;rw [dC] at hc
    grind
   grind
  grind
theorem ej.mk {ro:Nat->Prop} {h:Array Obj} {d:D}: ∀{cs:List CK} {j:Nat} {us:List Value},us.length=cs.length->(∀k c u,cs[k]?=some c->us[k]?=some u->jQ ro h c (d.hd (j+k)) u)->ej ro h cs j d us
 |[],j,us,W,_=>by
  simp only [ej]
  grind
 |c::cs,j,[],W,_=>by simp at W
 |c::cs,j,u::us,W,hh=>by
  simp only [ej];refine⟨u,us,rfl,by simpa using hh 0 c u rfl rfl,ej.mk (by simpa using W) fun k c' u' U Z=>?_⟩;have:=hh (k+1) c' u' (by simpa using U) (by simpa using Z)
  grind
theorem PG {r:Row} {e e' i:V} {off k:Nat} {vs:List Y} {x:D} (hc:Ky r e i off vs=some e') (hi:i.den E.ρ=(k:Int)) (hx:(dec (e.den E.ρ)).l[k]?=some x) (xr:qJ r x) (hle:off+vs.length<=r.es) :
 ∃x',dec (e'.den E.ρ)=dL ((dec (e.den E.ρ)).l.set k x')/\qJ r x'/\∀(h:Array Obj) (gX:List Value),gX.length=r.es->(∀j v u,off<=j->vs[j-off]?=some v->gX[j]?=some u->VR E h v u)->
  (∀j a u,(j<off\/off+vs.length<=j)->(ic r (.op .at e i))[j]?=some a->gX[j]?=some u->VR E h a u)->xA E.ro h r x' gX:=by
 unfold Ky at hc;split at hc
 ·rename_i c;split at hc
  ·split at hc
   ·rename_i v;split at hc
    ·rename_i a ha;simp only [an] at hc;subst hc;refine⟨dec (a.den E.ρ),?_,nW ha,?_⟩
     ·simp only [eL,V.den,fT.den,bC,mf,D.n,hi,sH]
     ·intro h gX U Z _
      cases gX with
      |nil=>simp [Row.es] at U
      |cons y ys=>
       have:ys= []:=by
        grind [Row.es]
       subst this;exact⟨y,rfl,lL (Z 0 v y (ay _) rfl rfl) ha⟩
    grind
   grind
  grind
 ·rename_i ks;split at hc
  ·rename_i x' Vq;simp only [an] at hc;subst hc;have hD:=BY E.ρ e i hi hx;obtain⟨w1,w2,w3⟩:=xr;obtain⟨g1,g2,g3⟩:=B9 (ρ:=E.ρ) Vq (by rw [hD,w2]; exact hle);rw [hD] at g1 g2 g3;refine⟨dec (x'.den E.ρ),?_,⟨g2 w1,by rw [g1,w2],?_⟩,?_⟩
   ·simp only [eL,V.den,fT.den,bC,mf,D.n,hi,sH]
   ·intro j c y hj hy;rcases g3 j with ⟨_,q2⟩|⟨c',v',a',_,_,q3,q4,q5⟩
    ·grind
    ·rw [q5] at hy;rw [hj] at q3;simp only [an] at hy q3;subst hy q3;exact nW q4
   ·intro h gX U Z h3;show ej E.ro h ks 0 (dec (x'.den E.ρ)) gX;refine ej.mk U fun j c u hj hu=>?_;rw [aK];rcases g3 j with ⟨q1,q2⟩|⟨c',v',a',q1,q2,q3,q4,q5⟩
    ·have p2:=h3 j (r9 c (jw j (.op .at e i))) u q1 (by simp only [ic,AF,hj,amu,aK]) hu;rw [nY,pY,hD] at p2;have:(dec (x'.den E.ρ)).hd j=x.hd j:=by simp only [D.hd,q2]
     grind
    ·rw [hj] at q3;simp only [an] at q3;subst q3;have:(dec (x'.den E.ρ)).hd j=dec (a'.den E.ρ):=by simp only [D.hd,q5,ax]
     rw [this];exact lL (Z j v' u q1 q2 hu) q4
  grind
theorem ly {ρ:Nat->Int} {r:Row} {ov jE:List (V×List Y)}: ∀(ds:List D) (i:Nat),(∀j,i<=j->j<i+ds.length->ep ρ j ov=ep ρ j jE)->bH ρ r ov ds i=bH ρ r jE ds i
 |[],_,_=>rfl
 |d::ds,i,h=>by simp only [bH];rw [h i (ay _) ad,ly ds (i+1) fun j U Z=>h j J (by simp only [aQ]; omega)]
theorem Ef {ρ:Nat->Int} {pc:List (SB×Bool)} (hp:ca ρ pc) {i:V} {k:Nat} (hi:i.den ρ=(k:Int)) {mw:List Y} {r:Row} (Mg:mw.length=r.es): ∀{ov jE:List (V×List Y)},Hb pc i mw ov=some jE->tG r ov->
 tG r jE/\ep ρ k jE=some mw/\∀j:Nat,j≠k->ep ρ j jE=ep ρ j ov
 |[],jE,h,_=>by simp [Hb] at h
 |(j,c)::l,jE,h,ho=>by
  simp only [Hb] at h;split at h
  ·rename_i he;have he:=cX _ _ he;subst he;simp only [an] at h;subst h;refine⟨?_,by simp [ep,hi],?_⟩
   ·intro p fQ;rcases aF.1 fQ with rfl|fQ
    ·grind
    ·exact ho p (by simp [fQ])
   ·intro m hm;simp only [ep,hi]
    grind
  ·split at h
   ·rename_i b hd;split at h
    ·have hd:=gW hp hd;rw [gY,beq_iff_eq,hi] at hd;simp only [an] at h;subst h;refine⟨?_,by simp [ep,hd],?_⟩
     ·intro p fQ;rcases aF.1 fQ with rfl|fQ
      ·grind
      ·exact ho p (by simp [fQ])
     ·intro m hm;simp only [ep,<- hd]
      grind
    split at h
    ·rename_i l' W;simp only [an] at h;subst h;have hd:=gW hp hd;rw [gY,beq_eq_false_iff_ne,hi] at hd;obtain⟨g1,g2,g3⟩:=Ef hp hi Mg W fun p fQ=>ho p (by simp [fQ]);refine⟨?_,?_,?_⟩
     ·intro p fQ;rcases aF.1 fQ with rfl|fQ
      ·exact ho _ ad
      ·exact g1 p fQ
     ·simp only [ep]
      grind
     ·intro m hm;simp only [ep]
      grind
    grind
   grind
theorem Iz {ρ:Nat->Int} {pc:List (SB×Bool)} (hp:ca ρ pc) {i:V} {k:Nat} (hi:i.den ρ=(k:Int)): ∀{ov:List (V×List Y)},wq pc i ov=true->ep ρ k ov=none
 |[],_=>rfl
 |(j,c)::l,h=>by
  simp only [wq] at h;split at h
  ·rename_i hd;have hd:=gW hp hd;rw [gY,beq_eq_false_iff_ne,hi] at hd;simp only [ep];rw [ah (fun q=>hd q.symm)];exact Iz hp hi h
  grind
theorem OR.congr {h:Array Obj} {id:Nat} {a b:List Y} {ty:TypeId} (ho:OR E h id (.cells a ty)) (W:b.length=a.length) (hv: ∀us,cJ E h a us->cJ E h b us):OR E h id (.cells b ty):=by
 simp only [OR] at ho ⊢
 grind
set_option maxHeartbeats 800000 in
theorem Mw [bJ] {E1:En} {tt:TT} (cV:eJ P tt) {s s':St} (r1:bS E1 s.h w) (hp:ca E1.ρ s.pc) {ty id es:Nat} {i:V} {off:Nat} {one:Bool} {vs:List Y} {v':Y} {u x:Value} (hx:VR E1 w.heap (.Ax id es i off) u)
 (NI:one=true->cJ E1 w.heap vs x.cells.toList/\∀u∈x.cells.toList,u.oneCell'=true) (h:(Fh tt s ty id es i off one vs).leaf E1.ρ=some (v',s')) :
 s'.bG=s.bG/\ca E1.ρ s'.pc/\v'=Y.undef/\∃w' E',(Instr.storeAt ty u x).run P w= .ok () w'/\fj E1 s.h w E' s'.h w'/\bS E' s'.h w':=by
 unfold Fh at h;split at h
 ·rename_i o W;split at h
  ·rename_i e t A2 ov;split at h
   ·rename_i ti gp;split at h
    ·rename_i jV;obtain⟨l8,hvl,xt⟩:=jV;obtain⟨pc0,Uv,t1,t2,h3⟩:=n8 hp h;obtain⟨ew,fQ,h3⟩:=wz (s:={ s with pc:=pc0 }) Uv h3;split at h3
     ·rename_i cs hc;split at h3
      ·rename_i mw hs;obtain⟨KU,Yx⟩:=NI xt;have hx1:=hx;simp only [VR] at hx1;obtain⟨hid,k,hk,rfl⟩:=hx1;obtain⟨rc,ho,xr⟩:=r1.pf W;rw [cL] at t2;have gu:k<(dec (e.den E1.ρ)).l.length:=J
       have hd:(dec (e.den E1.ρ)).l[k]?=some (dec (e.den E1.ρ)).l[k]:=aT gu;generalize hxk:(dec (e.den E1.ρ)).l[k]=xk at hd;obtain⟨c1,c2⟩:=jY (ρ:=E1.ρ) ho (j:=0) hd;rw [aK] at c1;generalize aam:bH E1.ρ (rowOf t) ov ((dec (e.den E1.ρ)).l.take k) 0=pre at c1 c2;generalize RM:bH E1.ρ (rowOf t) ov ((dec (e.den E1.ρ)).l.drop (k+1)) (k+1)=post at c1
       have iD:(∀h us,cJ E1 h (match ep E1.ρ k ov with |some cs=>cs|none=>ic (rowOf t) (.eD xk)) us↔cJ E1 h cs us)/\cs.length=(rowOf t).es:=by
        rcases ox fQ hk hc with g|⟨g,rfl⟩
        ·rw [g];obtain⟨p,p1,p2,_⟩:=lE g;have:=ho p p1;rw [p2] at this;exact⟨fun _ _=>Iff.rfl,this⟩
        ·rw [g];refine⟨fun h us=>yg ?_,iA _ _⟩;rw [BY E1.ρ e i hk hd];simp only [V.den,bC]
       obtain⟨hrv,Dr⟩:=iD;have JG:mw.length=(rowOf t).es:=by rw [me hs,Dr]
       have hor:OR E1 w.heap id (.cells (pre++(cs++post)) A2):=by
        have:=(rc.live id _ (by rw [Hp.bU,ak rfl])).2.1;unfold cW at this;rw [c1] at this;refine OR.congr this ?_ ?_
        ·simp only [a8,Dr];congr 2;split
         ·rename_i cs0 h0;obtain⟨p,p1,p2,_⟩:=lE h0;have:=ho p p1;rw [p2] at this;exact this.symm
         ·rw [iA]
        ·intro us q2;obtain⟨a,b,rfl,a1,a2⟩:=q2.split;obtain⟨a',b',rfl,b1,b2⟩:=a2.split;exact a1.append (((hrv _ _).1 b1).append b2)
       have r2:=r1.swap (H2:=s.h.put id (.cells (pre++(cs++post)) A2)) W hor (by rw [Hp.bU,ak rfl]) (fun j hj=>by rw [Hp.bU,ah hj]) rfl rfl
       have hs2:ef (pre++(cs++post)) (k*es+off) vs=some (pre++(mw++post)):=by rw [<- l8,<- c2];exact tB pre (ot post hs)
       obtain⟨w',g1,g2,g3⟩:=mz (P:=P) r2 (by rw [Hp.bU,ak rfl]) hs2 KU Yx;have hlen:x.cells.size=ti.size:=by have:=KU.length; simp only [bo] at this; omega
       have mD:(Instr.storeAt ty (.pointer (some ⟨(E1.θ id).1,(E1.θ id).2+(k*es+off),none⟩)) x).run P w= .ok () w':=by simp [Instr.storeAt,Instr.sureAddr,storeVar,eF (cV ty ti gp),hlen,g1]
       have fin: ∀(o':dX),OR E1 w'.heap id o'->∃w' E',(Instr.storeAt ty (.pointer (some ⟨(E1.θ id).1,(E1.θ id).2+(k*es+off),none⟩)) x).run P w= .ok () w'/\fj E1 s.h w E' (s.h.put id o') w'/\bS E' (s.h.put id o') w':=by
        intro o' zQ;have al1:GH (s.h.put id (.cells (pre++(cs++post)) A2)) s.h:=(GH.put W).symm
        have al2:GH ((s.h.put id (.cells (pre++(cs++post)) A2)).put id (.cells (pre++(mw++post)) A2)) (s.h.put id o'):=by
         refine⟨fun j y hj=>?_,fun j y hj=>?_,rfl,rfl⟩
         ·rw [Hp.bU];split
          ·exact⟨o',rfl⟩
          ·rename_i gB;rw [Hp.bU,ah gB,Hp.bU,ah gB] at hj;exact⟨y,hj⟩
         ·rw [Hp.bU] at hj ⊢;split
          ·exact⟨_,rfl⟩
          ·rename_i gB;rw [ah gB] at hj;rw [Hp.bU,ah gB];exact⟨y,hj⟩
        refine⟨w',E1,mD,(g2.left al1).right al2,?_⟩;exact g3.swap (id:=id) (by rw [Hp.bU,ak rfl]) zQ (by rw [Hp.bU,ak rfl]) (fun j hj=>by rw [Hp.bU,ah hj,Hp.bU,ah hj,Hp.bU,ah hj]) rfl rfl
       have Bz:=(g3.live id _ (by rw [Hp.bU,ak rfl])).2.1
       have apart: ∀jE:List (V×List Y),tG (rowOf t) jE->ep E1.ρ k jE=some mw->(∀j:Nat,j≠k->ep E1.ρ j jE=ep E1.ρ j ov)->OR E1 w'.heap id (.vec e t A2 jE):=by
        intro jE q1 q2 q3;refine OR.pf.2 ⟨⟨q1,xr⟩,?_⟩
        have:cW E1.ρ e t jE=pre++(mw++post):=by
         unfold cW;obtain⟨d1,_⟩:=jY (ρ:=E1.ρ) q1 (j:=0) hd;rw [aK,q2] at d1;rw [d1,<- aam,<- RM];congr 1
         ·refine ly _ _ fun j _ hj=>q3 j ?_;rw [bh] at hj;omega
         ·congr 1;exact ly _ _ fun j hj _=>q3 j J
        rw [this];exact Bz
       split at h3
       ·rename_i jE tq;have:=bE h3;simp only [aq] at this;obtain⟨rfl,rfl⟩:=this;refine⟨rfl,fQ,rfl,?_⟩;obtain⟨q1,q2,q3⟩:=Ef fQ hk JG tq ho;exact fin _ (apart jE q1 q2 q3)
       ·split at h3
        ·rename_i aiS;have RP:=Iz fQ hk aiS;split at h3
         ·rename_i e' akC;have:=bE h3;simp only [aq] at this;obtain⟨rfl,rfl⟩:=this;refine⟨rfl,fQ,rfl,fin _ ?_⟩;have hxm:xk∈(dec (e.den E1.ρ)).l:=amm hd
          have hle:off+vs.length<=(rowOf t).es:=by
           rw [<- Dr];rcases am0 vs.length with hz|hz
           ·have air:=amv hz;subst air
            have: ∀(l c:List Y) (o:Nat),ef c o []=some l->o<=c.length:=by
             intro l c
             induction c generalizing l with
             |nil=>intro o ho; cases o with |zero=>exact amR _|succ o=>simp [ef] at ho
             |cons a c ih=>
              intro o ho
              cases o with
              |zero=>exact amR _
              |succ o=>
               simp only [ef] at ho;split at ho
               ·rename_i l' yS;have:=ih l' o yS;simp; omega
               ·simp at ho
            have:=this _ _ _ hs;simpa using this
           ·have:=sF hs (off+vs.length-1);rw [ak J] at this
            have Cs:(vs[off+vs.length-1-off]?).isSome=true:=by rw [aT J]; rfl
            rw [<- this] at Cs;obtain⟨y,hy⟩:=amS.1 Cs;have:=(bk.1 hy).1;rw [me hs] at this;omega
          obtain⟨x',z1,z2,z3⟩:=PG akC hk hd (xr.2.1 xk hxm) hle;refine OR.pf.2 ⟨⟨ho,?_⟩,?_⟩
          ·rw [z1];refine⟨by rw [bD],fun y hy=>?_,by rw [bD]; intro q; have:=congrArg List.length q; simp at this; exact xr.2.2 this⟩;rw [bD] at hy;rcases List.mem_or_eq_of_mem_set hy with hy|rfl
           ·exact xr.2.1 y hy
           ·exact z2
          ·have EU:(dec (e'.den E1.ρ)).l[k]?=some x':=by
            rw [z1,bD,List.getElem?_set_self gu]
           obtain⟨d1,d2⟩:=jY (ρ:=E1.ρ) ho (j:=0) EU;rw [aK,RP] at d1
           have RU:cW E1.ρ e' t ov=pre++(ic (rowOf t) (.eD x')++post):=by
            unfold cW;rw [d1,<- aam,<- RM,z1,bD];congr 1
            ·rw [anW (ay _)]
            ·congr 1;rw [anX J]
           rw [RU];refine OR.congr Bz (by simp only [a8,iA,JG]) fun us q2=>?_;obtain⟨a,b,rfl,a1,a2⟩:=q2.split;obtain⟨a',b',rfl,b1,b2⟩:=a2.split;refine a1.append (cJ.append ?_ b2);rw [gD];simp only [V.den,bC]
           have aiL:cs=ic (rowOf t) (.op .at e i):=by
            rcases ox fQ hk hc with g|⟨g,g'⟩
            ·rw [RP] at g; simp at g
            ·exact g'
           refine z3 _ a' (by rw [b1.length,JG]) ?_ ?_
           ·intro j vj uj hj1 hj2 hj3;have hjl:=(bk.1 hj2).1;have:=sF hs j;rw [ak J,hj2] at this;obtain⟨y,y1,y2⟩:=b1.nth (by rw [dC]; exact this);rw [hj3] at y1;simp only [an] at y1;subst y1;exact y2
           ·intro j aj uj hj1 hj2 hj3;have:=sF hs j;rw [ah J,aiL,hj2] at this;obtain⟨y,y1,y2⟩:=b1.nth (by rw [dC]; exact this);rw [hj3] at y1;simp only [an] at y1;subst y1;exact y2
         ·have:=bE h3;simp only [aq] at this;obtain⟨rfl,rfl⟩:=this;refine⟨rfl,fQ,rfl,fin _ (apart _ ?_ ?_ ?_)⟩
          ·intro p fQ;rcases aF.1 fQ with rfl|fQ
           ·exact JG
           ·exact ho p fQ
          ·simp only [ep];rw [ak hk]
          ·intro j hj;simp only [ep];rw [ah J]
        ·simp [T.leaf] at h3
      ·simp [T.leaf] at h3
     ·simp [T.leaf] at h3
    ·simp [T.leaf] at h
   ·simp [T.leaf] at h
  ·simp [T.leaf] at h
 ·simp [T.leaf] at h
theorem aat {E1:En} {h:Array Obj} {c:CK} {v:Y} {u:Value} (hv:VR E1 h v u):VR E1 h (afG c v) u:=by
 unfold afG;split
 ·split
  ·simp only [VR] at hv ⊢;subst hv;exact⟨⟨none,rfl⟩,by simp only [V.den,bC]; exact .nil _⟩
  ·split
   ·split
    ·split
     ·simp only [VR] at hv ⊢;obtain⟨_,a,cap,rfl,_,hc⟩:=hv;simp only [eZ] at hc;obtain⟨rfl,_⟩:=hc;exact⟨⟨some a,rfl⟩,by simp only [V.den,bC]; exact .wO _ _ _⟩
     grind
    grind
   grind
  grind
 grind
theorem HY {E1:En} {h:Array Obj}: ∀(cs:List CK) {vs:List Y} {us:List Value},cJ E1 h vs us->cJ E1 h (Mp cs vs) us
 |[],vs,us,hv=>hv
 |_::_,[],us,hv=>hv
 |c::cs,v::vs,us,hv=>by rw [bX] at hv;obtain⟨u,gX,rfl,U,Z⟩:=hv;simp only [Mp];rw [bX];exact⟨u,gX,rfl,aat U,HY cs Z⟩
set_option maxHeartbeats 800000 in
theorem Mv [bJ] {E1:En} {tt:TT} (cV:eJ P tt) {s s':St} (r1:bS E1 s.h w) (hp:ca E1.ρ s.pc) {ty id es:Nat} {i j0:V} {off:Nat} {one:Bool} {vs:List Y} {v':Y} {u x:Value} (hx:VR E1 w.heap (.Ax id es i off) u)
 (NI:one=true->cJ E1 w.heap vs x.cells.toList/\∀u∈x.cells.toList,u.oneCell'=true) (h:(Fg tt s ty id es i j0 off one vs).leaf E1.ρ=some (v',s')) :
 s'.bG=s.bG/\ca E1.ρ s'.pc/\v'=Y.undef/\∃w' E',(Instr.storeAt ty u x).run P w= .ok () w'/\fj E1 s.h w E' s'.h w'/\bS E' s'.h w':=by
 unfold Fg at h;split at h
 ·rename_i o W;split at h
  ·rename_i e t A2 ov;split at h
   ·rename_i ti gp;split at h
    ·rename_i jV;obtain⟨l8,hvl,xt⟩:=jV;obtain⟨pc0,Uv,t1,t2,h3⟩:=n8 hp h;obtain⟨ew,fQ,h3⟩:=wz (s:={ s with pc:=pc0 }) Uv h3;split at h3
     ·rename_i hdb;have hij:=gW fQ hdb;split at h3
      ·rename_i cs hc;split at h3
       ·rename_i mw hs;obtain⟨aiq,Yx⟩:=NI xt;have KU:=HY ((On (rowOf t)).drop off) aiq;have hx1:=hx;simp only [VR] at hx1;obtain⟨hid,k,hk,rfl⟩:=hx1;simp only [SB.den,beq_iff_eq] at hij;have Cu:j0.den E1.ρ=(k:Int):=by rw [<- hij]; exact hk
        obtain⟨rc,ho,xr⟩:=r1.pf W;rw [cL] at t2;have gu:k<(dec (e.den E1.ρ)).l.length:=J
        have hd:(dec (e.den E1.ρ)).l[k]?=some (dec (e.den E1.ρ)).l[k]:=aT gu;generalize hxk:(dec (e.den E1.ρ)).l[k]=xk at hd;obtain⟨c1,c2⟩:=jY (ρ:=E1.ρ) ho (j:=0) hd;rw [aK] at c1;generalize aam:bH E1.ρ (rowOf t) ov ((dec (e.den E1.ρ)).l.take k) 0=pre at c1 c2;generalize RM:bH E1.ρ (rowOf t) ov ((dec (e.den E1.ρ)).l.drop (k+1)) (k+1)=post at c1
        have iD:(∀h us,cJ E1 h (match ep E1.ρ k ov with |some cs=>cs|none=>ic (rowOf t) (.eD xk)) us↔cJ E1 h cs us)/\cs.length=(rowOf t).es:=by
         rcases ox fQ Cu hc with g|⟨g,rfl⟩
         ·rw [g];obtain⟨p,p1,p2,_⟩:=lE g;have:=ho p p1;rw [p2] at this;exact⟨fun _ _=>Iff.rfl,this⟩
         ·rw [g];refine⟨fun h us=>yg ?_,iA _ _⟩;rw [BY E1.ρ e j0 Cu hd];simp only [V.den,bC]
        obtain⟨hrv,Dr⟩:=iD;have JG:mw.length=(rowOf t).es:=by rw [me hs,Dr]
        have hor:OR E1 w.heap id (.cells (pre++(cs++post)) A2):=by
         have:=(rc.live id _ (by rw [Hp.bU,ak rfl])).2.1;unfold cW at this;rw [c1] at this;refine OR.congr this ?_ ?_
         ·simp only [a8,Dr];congr 2;split
          ·rename_i cs0 h0;obtain⟨p,p1,p2,_⟩:=lE h0;have:=ho p p1;rw [p2] at this;exact this.symm
          ·rw [iA]
         ·intro us q2;obtain⟨a,b,rfl,a1,a2⟩:=q2.split;obtain⟨a',b',rfl,b1,b2⟩:=a2.split;exact a1.append (((hrv _ _).1 b1).append b2)
        have r2:=r1.swap (H2:=s.h.put id (.cells (pre++(cs++post)) A2)) W hor (by rw [Hp.bU,ak rfl]) (fun j hj=>by rw [Hp.bU,ah hj]) rfl rfl
        have hs2:ef (pre++(cs++post)) (k*es+off) (Mp ((On (rowOf t)).drop off) vs)=some (pre++(mw++post)):=by rw [<- l8,<- c2];exact tB pre (ot post hs)
        obtain⟨w',g1,g2,g3⟩:=mz (P:=P) r2 (by rw [Hp.bU,ak rfl]) hs2 KU Yx;have hlen:x.cells.size=ti.size:=by have:=aiq.length; simp only [bo] at this; omega
        have mD:(Instr.storeAt ty (.pointer (some ⟨(E1.θ id).1,(E1.θ id).2+(k*es+off),none⟩)) x).run P w= .ok () w':=by simp [Instr.storeAt,Instr.sureAddr,storeVar,eF (cV ty ti gp),hlen,g1]
        have fin: ∀(o':dX),OR E1 w'.heap id o'->∃w' E',(Instr.storeAt ty (.pointer (some ⟨(E1.θ id).1,(E1.θ id).2+(k*es+off),none⟩)) x).run P w= .ok () w'/\fj E1 s.h w E' (s.h.put id o') w'/\bS E' (s.h.put id o') w':=by
         intro o' zQ;have al1:GH (s.h.put id (.cells (pre++(cs++post)) A2)) s.h:=(GH.put W).symm
         have al2:GH ((s.h.put id (.cells (pre++(cs++post)) A2)).put id (.cells (pre++(mw++post)) A2)) (s.h.put id o'):=by
          refine⟨fun j y hj=>?_,fun j y hj=>?_,rfl,rfl⟩
          ·rw [Hp.bU];split
           ·exact⟨o',rfl⟩
           ·rename_i gB;rw [Hp.bU,ah gB,Hp.bU,ah gB] at hj;exact⟨y,hj⟩
          ·rw [Hp.bU] at hj ⊢;split
           ·exact⟨_,rfl⟩
           ·rename_i gB;rw [ah gB] at hj;rw [Hp.bU,ah gB];exact⟨y,hj⟩
         refine⟨w',E1,mD,(g2.left al1).right al2,?_⟩;exact g3.swap (id:=id) (by rw [Hp.bU,ak rfl]) zQ (by rw [Hp.bU,ak rfl]) (fun j hj=>by rw [Hp.bU,ah hj,Hp.bU,ah hj,Hp.bU,ah hj]) rfl rfl
        have Bz:=(g3.live id _ (by rw [Hp.bU,ak rfl])).2.1
        have apart: ∀jE:List (V×List Y),tG (rowOf t) jE->ep E1.ρ k jE=some mw->(∀j:Nat,j≠k->ep E1.ρ j jE=ep E1.ρ j ov)->OR E1 w'.heap id (.vec e t A2 jE):=by
         intro jE q1 q2 q3;refine OR.pf.2 ⟨⟨q1,xr⟩,?_⟩
         have:cW E1.ρ e t jE=pre++(mw++post):=by
          unfold cW;obtain⟨d1,_⟩:=jY (ρ:=E1.ρ) q1 (j:=0) hd;rw [aK,q2] at d1;rw [d1,<- aam,<- RM];congr 1
          ·refine ly _ _ fun j _ hj=>q3 j ?_;rw [bh] at hj;omega
          ·congr 1;exact ly _ _ fun j hj _=>q3 j J
         rw [this];exact Bz
        split at h3
        ·rename_i jE tq;have:=bE h3;simp only [aq] at this;obtain⟨rfl,rfl⟩:=this;refine⟨rfl,fQ,rfl,?_⟩;obtain⟨q1,q2,q3⟩:=Ef fQ Cu JG tq ho;exact fin _ (apart jE q1 q2 q3)
        ·split at h3
         ·rename_i aiS;have:=bE h3;simp only [aq] at this;obtain⟨rfl,rfl⟩:=this;refine⟨rfl,fQ,rfl,fin _ (apart _ ?_ ?_ ?_)⟩
          ·intro p fQ;rcases aF.1 fQ with rfl|fQ
           ·exact JG
           ·exact ho p fQ
          ·simp only [ep];rw [ak Cu]
          ·intro j hj;simp only [ep];rw [ah J]
         ·simp [T.leaf] at h3
       ·simp [T.leaf] at h3
      ·simp [T.leaf] at h3
     ·simp [T.leaf] at h3
    ·simp [T.leaf] at h
   ·simp [T.leaf] at h
  ·simp [T.leaf] at h
 ·simp [T.leaf] at h
theorem My [bJ] {tt:TT} (cV:eJ P tt) {s s':St} (r:bS E s.h w) (hp:ca E.ρ s.pc) {ty id es:Nat} {i:V} {off:Nat} {v v':Y} {u x:Value} (hx:VR E w.heap (.Ax id es i off) u) (hv:VR E w.heap v x) (h:(Fi tt s ty id es i off v).leaf E.ρ=some (v',s')) :
 s'.bG=s.bG/\ca E.ρ s'.pc/\v'=Y.undef/\∃w' E',(Instr.storeAt ty u x).run P w= .ok () w'/\fj E s.h w E' s'.h w'/\bS E' s'.h w':=by
 unfold Fi at h;split at h
 ·exact Mv cV r hp hx (fun xt=> ⟨hv.cells xt,(hv.cells xt).sQ xt⟩) h
 ·obtain⟨vs,U,fW,E1,fL,f,q,g⟩:=qu rfl r hp h;have hρ:=f.ρ;rw [<- hρ] at fL g;obtain⟨a1,a2,a3,w',E',a4,a5,a6⟩:=Mw cV (s:={ s with h:=U,pc:=fW }) f.rel fL (VR.cD (f.ei.keeps r) _ _ hx) (fun xt=> ⟨q _ (hv.cells xt),(hv.cells xt).sQ xt⟩) g;exact⟨a1,by rw [<- hρ]; exact a2,a3,w',E',a4,f.ei.trans a5,a6⟩
end
section
variable {P:Program} {E:En} {w:World}
theorem xA.length {ro:Nat->Prop} {h:Array Obj} {r:Row} {d:D} {us:List Value} (hh:xA ro h r d us):us.length=r.es:=by
 cases r with
 |one c=>obtain⟨u,rfl,_⟩:=hh; rfl
 |many cs=>exact ej.length hh
theorem gk.append {h:Array Obj} {b o:Nat} {us vs:List Value} (U:gk h b o us) (Z:gk h b (o+us.length) vs):gk h b o (us++vs):=by
 intro i u hi;rw [anP] at hi;split at hi
 ·exact U i u hi
 ·rename_i gu;have:=Z _ u hi
  grind
theorem D5 {ro:Nat->Prop} (lZ:ro=E.ro) {h:Array Obj} {r:Row} {b o:Nat}: ∀(L:List D) (j:Nat),(∀i x,L[i]?=some x->∃us,xA ro h r x us/\gk h b (o+(j+i)*r.es) us)->
 ∃us,cJ E h (bH E.ρ r [] L j) us/\gk h b (o+j*r.es) us/\us.length=L.length*r.es/\∀u∈us,u.oneCell'=true
 |[],j,_=> ⟨[],by simp [bH,cJ],fun i u hi=>by simp at hi,ad,ad⟩
 |d::L,j,hh=>by
  subst lZ;obtain⟨a,a1,a2⟩:=hh 0 d rfl
  obtain⟨b',b1,b2,b3,b4⟩:=D5 rfl L (j+1) fun i x hi=>by have:=hh (i+1) x (by simpa using hi);rw [show j+(i+1)=j+1+i by omega] at this;exact this
  have Vv:=a1.length;refine⟨a++b',?_,?_,?_,?_⟩
  ·simp only [bH,ep];refine cJ.append ?_ b1;rw [gD];simpa only [V.den,bC] using a1
  ·rw [bw] at a2;refine a2.append ?_
   grind
  ·grind
  ·intro u hu;rcases amt.1 hu with hu|hu
   ·exact a1.sQ u hu
   grind
theorem aaZ {t:Nat} {d:D} {u:Value} (hr:Rd E.ro w.heap (.sl t) d u) (gB:d.l≠[]): ∃us,Src P E w (rowOf t).es d.l.length (bH E.ρ (rowOf t) [] d.l 0) u us:=by
 obtain⟨x,hx⟩ : ∃x,d.l[0]?=some x:=by
  cases h:d.l with
  |nil=>exact absurd h gB
  |cons a l=>exact⟨a,rfl⟩
 obtain⟨b,o,cap,us0,rfl,hb,_,_⟩:=hr.row hx
 obtain⟨us,U,Z,h3,h4⟩:=D5 (E:=E) (ro:=E.ro) rfl (h:=w.heap) (r:=rowOf t) (b:=b) (o:=o) d.l 0 fun i x hi=>by
  obtain⟨b',o',qE,gX,he,_,g1,g2⟩:=hr.row hi
  grind
 rw [ams,bw] at Z;exact⟨us.toArray,fun _=>rfl,fun w2 hw=>by simp only [Builtin.firstCells]; exact Z.Rq h3 w2 hw,by simpa using U,by simpa using h3,by simpa using h4⟩
structure Grown (ρ:Nat->Int) (r:Row) (e0 e1:V) (ds:List D) (news:List Y):Prop where
 l:(dec (e1.den ρ)).l=(dec (e0.den ρ)).l++ds
 wf:dec (e1.den ρ)=dL (dec (e1.den ρ)).l
 rows: ∀d∈ds,qJ r d
 vr: ∀(E':En) (h:Array Obj) (us:List Value) (j:Nat),E'.ρ=ρ->cJ E' h news us->cJ E' h (bH ρ r [] ds j) us
theorem kZ (r:Row):tG r []:=fun p hp=>by simp at hp
theorem Dj [bJ] {E':En} {H0:Hp} {w':World} {cells:List Y} {e:TypeId} {e1:V} {t:Nat} (r:bS E' (H0.new (.cells cells e)) w') (xr:tj (rowOf t) (dec (e1.den E'.ρ))) (W:(cW E'.ρ e1 t []).length=cells.length)
 (hv: ∀us,cJ E' w'.heap cells us->cJ E' w'.heap (cW E'.ρ e1 t []) us):bS E' (H0.new (.vec e1 t e [])) w':=by
 have hg:(H0.new (.cells cells e)).get H0.fresh=some (.cells cells e):=by rw [Hp.gy,ak rfl]
 refine r.swap hg (OR.pf.2 ⟨⟨kZ _,xr⟩,OR.congr (r.live _ _ hg).2.1 W hv⟩) (by rw [Hp.gy,ak rfl]) (fun j hj=>by rw [Hp.gy,ah hj,Hp.gy,ah hj]) ?_ ?_
 all_goals grind [Hp.new]
theorem wQ {H0 H1:Hp} {o o':dX} (hn:H1.next=H0.next) (hr:H1.res=H0.res) (hg: ∀j,(H0.get j).isSome=(H1.get j).isSome):GH (H0.new o) (H1.new o'):=by
 have hf:H1.fresh=H0.fresh:=by unfold Hp.fresh; rw [hn,hr]
 have key: ∀{A B:Option dX} {x:dX},A.isSome=B.isSome->A=some x->∃y,B=some y:=by intro A B x U Z;rw [Z] at U;exact amS.1 U.symm
 refine⟨fun j x hj=>?_,fun j x hj=>?_,?_,?_⟩
 all_goals grind [Hp.gy,Hp.new]
set_option maxHeartbeats 800000 in
theorem yM [bJ] {t t2 ty:Nat} {H h0:Hp} (r:bS E H w) {ie:TI} {e m:Nat} {own:Option Nat} {news:List Y} {x:Y} {d2:TypeDesc} {u u2:Value} {us:Array Value} (va:nC P e ie)
 (ht:P.underlying t=some (.slice e)) (yQ:P.underlying t2=some d2) (jK: ∀k,d2≠.int k) (xL:ie.size≠0) (ss:ie.bytes≠0) (tp:ie.zero.length=ie.size) (NK:ie.bytes<=400)
 (src:Src P E w ie.size m news u2 us) (hm:0<m) (hx:VR E w.heap x u) {e0 e1:V} {t':Nat} (hb:qF e own x H=some (e0,t',h0)) (l8:(rowOf t').es=ie.size) {ds:List D} (g:Grown E.ρ (rowOf t') e0 e1 ds news) (wX:ds.length=m)
 (afa:((dec (e0.den E.ρ)).l.length+m)*ie.bytes<=140737488355328) :
 ∃y w' E',(Builtin.append_ #[t,t2] ty #[u,u2]).run P w= .ok y w'/\fj E H w E' (h0.new (.vec e1 t' e [])) w'/\bS E' (h0.new (.vec e1 t' e [])) w'/\VR E' w'.heap (.pV h0.fresh (ed e1) t') y:=by
 have hbound: ∀k,k<=(dec (e0.den E.ρ)).l.length->(k+m)*ie.bytes<=140737488355328:=by intro k hk;exact bq (amO _ J) afa
 have hnl:news.length=m*ie.size:=by have U:=src.Vk.length;have Z:=src.size;simp only [bo] at U;omega
 have uc: ∀(a:Option Addr),u= .slice a 0 0->h0=H->(dec (e0.den E.ρ)).l= []->
  ∃y w' E',(Builtin.append_ #[t,t2] ty #[u,u2]).run P w= .ok y w'/\fj E H w E' (h0.new (.vec e1 t' e [])) w'/\bS E' (h0.new (.vec e1 t' e [])) w'/\VR E' w'.heap (.pV h0.fresh (ed e1) t') y:=by
  intro a hu he lg;subst hu he
  have pK:nT ie e 0 m news h0=some (.slice h0.fresh 0 (0+m) (.rest ie.size),h0.new (.cells news e)):=by unfold nT;rw [ak (hbound 0 J)]
  obtain⟨y,w',E',p1,p2,p3,p4⟩:=pL (t:=t) (t2:=t2) (ty:=ty) (cap:=0) r va ht yQ jK ss tp src J a (old:=[]) (olds:=#[]) (cs:=news) ad (by simp [cJ]) ad ad
   (fun w2 _=>by
    cases a with
    |none=>simp [Builtin.firstCells]
    |some a=>simp only [Builtin.firstCells,ams]; rfl) pK
  have hρ:=p2.ρ;have Bx:(dec (e1.den E'.ρ)).l=ds:=by rw [hρ,g.l,lg,aw]
  have xr:tj (rowOf t') (dec (e1.den E'.ρ)):=by refine⟨by rw [hρ]; exact g.wf,fun d hd=>?_,by rw [Bx]; intro q; rw [q] at wX; simp at wX; omega⟩;rw [Bx] at hd;exact g.rows d hd
  refine⟨y,w',E',p1,p2.right (wQ rfl rfl fun _=>rfl),Dj p3 xr ?_ ?_,?_⟩
  ·unfold cW;rw [cM (kZ _),Bx,wX,l8,hnl]
  ·intro gX HL;unfold cW;rw [Bx,hρ];exact g.vr E' w'.heap gX 0 hρ HL
  ·simp only [VR] at p4 ⊢;obtain⟨q1,a',qE,q2,q3,q4⟩:=p4;refine⟨q1,0+m,a',qE,?_,q2,q3,?_⟩
   ·rw [cL,Bx,wX,aK]
   ·rw [l8]; exact q4
 unfold qF at hb;split at hb
 ·rename_i id n t0;split at hb
  ·rename_i o W;split at hb
   ·rename_i Az t00 tn ov;split at hb
    ·split at hb
     ·rename_i ht0;split at hb
      ·rename_i OQ;split at hb
       ·rename_i hn;simp only [an,aq] at hb;obtain⟨rfl,rfl,rfl⟩:=hb;have ht0:=az ht0;have OQ:=az OQ;have hn:=cX _ _ hn;subst ht0 OQ hn;obtain⟨r2,_,ae3⟩:=r.pf W;simp only [VR] at hx;obtain⟨hid,k,a,cap,hk,rfl,hkc,iX⟩:=hx;rw [cL] at hk;have hk:k=(dec (Az.den E.ρ)).l.length:=J
        have hx2:VR E w.heap (.slice id 0 k (.rest ie.size)) (.slice (some a) k cap):=by simp only [VR];exact⟨hid,a,cap,rfl,hkc,by rw [<- l8]; exact iX⟩
        have Dr:(cW E.ρ Az t0 []).length=k*ie.size:=by unfold cW;rw [cM (kZ _),l8,hk]
        have aiC:0<m*ie.size:=ank hm J
        have afh:qH ie tn m news (.slice id 0 k (.rest ie.size)) (H.put id (.cells (cW E.ρ Az t0 []) tn)) =
         some (.slice H.fresh 0 (k+m) (.rest ie.size),((H.put id (.cells (cW E.ρ Az t0 []) tn)).drop id).new (.cells (cW E.ρ Az t0 []++news) tn)):=by
         unfold qH;simp only [if_true];rw [Hp.bU,ak rfl];simp only;rw [ah (by rw [Dr,amx]; omega),ak ⟨J,trivial⟩];simp only [eS];unfold nT;rw [ak (hbound k J)];rfl
        obtain⟨y,w',E',p1,p2,p3,p4⟩:=wi (t:=t) (t2:=t2) (ty:=ty) r2 va ht yQ jK xL ss tp src hx2 afh;have hρ:=p2.ρ;have Bx:(dec (e1.den E'.ρ)).l=(dec (Az.den E.ρ)).l++ds:=by rw [hρ,g.l]
        have xr:tj (rowOf t0) (dec (e1.den E'.ρ)):=by
         refine⟨by rw [hρ]; exact g.wf,fun d hd=>?_,by rw [Bx]; intro q; have:=congrArg List.length q; simp at this; rw [this.2] at wX; simp at wX; omega⟩;rw [Bx] at hd;rcases amt.1 hd with hd|hd
         ·exact ae3.2.1 d hd
         ·exact g.rows d hd
        have RU:cW E'.ρ e1 t0 []=cW E.ρ Az t0 []++bH E.ρ (rowOf t0) [] ds (0+(dec (Az.den E.ρ)).l.length):=by unfold cW;rw [Bx,hρ,my]
        have ER: ∀j,(((H.put id (.cells (cW E.ρ Az t0 []) tn)).drop id).get j)=(H.drop id).get j:=by
         intro j;rw [Hp.lr,Hp.lr];split
         ·rfl
         ·rename_i gB;rw [Hp.bU,ah gB]
        have al:GH (((H.put id (.cells (cW E.ρ Az t0 []) tn)).drop id).new (.cells (cW E.ρ Az t0 []++news) tn)) ((H.drop id).new (.vec e1 t0 tn [])):=
         wQ rfl rfl fun j=>by rw [ER]
        have p3':bS E' ((H.drop id).new (.cells (cW E.ρ Az t0 []++news) tn)) w':=by
         have hg:(((H.put id (.cells (cW E.ρ Az t0 []) tn)).drop id).new (.cells (cW E.ρ Az t0 []++news) tn)).get H.fresh=some (.cells (cW E.ρ Az t0 []++news) tn):=by rw [Hp.gy];exact ak rfl
         refine p3.swap hg (p3.live _ _ hg).2.1 (by rw [Hp.gy]; exact ak rfl) (fun j hj=>?_) ?_ ?_
         ·rw [Hp.gy,Hp.gy];show (if j=H.fresh then _ else _)=(if j=H.fresh then _ else _);rw [ah hj,ah hj,ER]
         ·unfold Hp.new;simp only [Hp.drop,Hp.put];split<;>rfl
         ·unfold Hp.new;simp only [Hp.drop,Hp.put];split<;>rfl
        refine⟨y,w',E',p1,(p2.left (GH.put W).symm).right al,Dj p3' xr ?_ ?_,?_⟩
        ·rw [RU,a8,a8,cM (kZ _),wX,l8,hnl]
        ·intro gX HL;obtain⟨a1,a2,rfl,b1,b2⟩:=HL.split;rw [RU];exact b1.append (g.vr E' w'.heap a2 _ hρ b2)
        ·simp only [VR] at p4 ⊢;obtain⟨q1,a',qE,q2,q3,q4⟩:=p4;refine⟨q1,k+m,a',qE,?_,q2,q3,?_⟩
         ·rw [cL,Bx,a8,wX,hk]
         ·rw [l8]; exact q4
       ·simp at hb
      ·simp at hb
     ·simp at hb
    ·simp at hb
   ·simp at hb
  ·simp at hb
 ·split at hb
  ·simp only [an,aq] at hb;obtain⟨rfl,rfl,rfl⟩:=hb;simp only [VR] at hx;exact uc none hx rfl (by simp only [V.den,bC,D.l])
  ·simp at hb
 ·split at hb
  ·simp only [an,aq] at hb;obtain⟨rfl,rfl,rfl⟩:=hb;simp only [VR] at hx;obtain⟨x,hx⟩:=hx;exact uc x hx rfl (by simp only [V.den,bC,D.l])
  ·simp at hb
 ·split at hb
  ·simp only [an,aq] at hb;obtain⟨rfl,rfl,rfl⟩:=hb;simp only [VR] at hx;obtain⟨⟨x,hx⟩,_⟩:=hx;exact uc x hx rfl (by simp only [V.den,bC,D.l])
  ·simp at hb
 ·split at hb
  ·split at hb
   ·split at hb
    ·split at hb
     ·simp only [an,aq] at hb;obtain⟨rfl,rfl,rfl⟩:=hb;simp only [VR] at hx;obtain⟨_,a,cap,rfl,_,hc⟩:=hx;simp only [eZ] at hc;obtain⟨rfl,_⟩:=hc;exact uc (some a) rfl rfl (by simp only [V.den,bC,D.l])
     ·simp at hb
    ·simp at hb
   ·simp at hb
  ·simp at hb
 ·simp at hb
end
noncomputable def Ix (e:Nat) (own:Option Nat) (x:Y) (h:Hp):Option (V×Nat×List (V×List Y)×Hp):=match x with
 | .pV id n t=>match h.get id with
   |some o=>match o with
    | .vec e0 t0 ty ov=>match Nat.beq t t0 with
     |true=>match Nat.beq ty e with
      |true=>match fm n (ed e0) with
       |true=>some (e0,t,ov,h.drop id)
       |false=>none
      |false=>none
     |false=>none
    |_=>none
   |none=>none
 | .gL=>match own with
   |some t=>some (.eD (.i 0),t,[],h)
   |none=>none
 | .emp=>match own with
   |some t=>some (.eD (.i 0),t,[],h)
   |none=>none
 | .xU _ _=>match own with
   |some t=>some (.eD (.i 0),t,[],h)
   |none=>none
 | .slice _ _ n c=>match n with
   |0=>match c with
    | .exact k=>match k with
      |0=>match own with
       |some t=>some (.eD (.i 0),t,[],h)
       |none=>none
      |_=>none
    |_=>none
   |_=>none
 |_=>none
section
variable {P:Program} {E:En} {w:World}
structure P5 (ρ:Nat->Int) (r:Row) (e0 e1:V) (ov0 X?:List (V×List Y)) (ds:List D) (news:List Y):Prop where
 l:(dec (e1.den ρ)).l=(dec (e0.den ρ)).l++ds
 wf:dec (e1.den ρ)=dL (dec (e1.den ρ)).l
 rows: ∀d∈ds,qJ r d
 vr: ∀(E':En) (h:Array Obj) (us0 us:List Value),E'.ρ=ρ->cJ E' h (bH ρ r ov0 (dec (e0.den ρ)).l 0) us0->cJ E' h news us->cJ E' h (bH ρ r X? (dec (e1.den ρ)).l 0) (us0++us)
theorem LN [bJ] {E':En} {H0:Hp} {w':World} {cells:List Y} {e:TypeId} {e1:V} {t:Nat} {ov:List (V×List Y)} (r:bS E' (H0.new (.cells cells e)) w') (ho:tG (rowOf t) ov) (xr:tj (rowOf t) (dec (e1.den E'.ρ))) (W:(cW E'.ρ e1 t ov).length=cells.length)
 (hv: ∀us,cJ E' w'.heap cells us->cJ E' w'.heap (cW E'.ρ e1 t ov) us):bS E' (H0.new (.vec e1 t e ov)) w':=by
 have hg:(H0.new (.cells cells e)).get H0.fresh=some (.cells cells e):=by rw [Hp.gy,ak rfl]
 refine r.swap hg (OR.pf.2 ⟨⟨ho,xr⟩,OR.congr (r.live _ _ hg).2.1 W hv⟩) (by rw [Hp.gy,ak rfl]) (fun j hj=>by rw [Hp.gy,ah hj,Hp.gy,ah hj]) ?_ ?_
 all_goals grind [Hp.new]
set_option maxHeartbeats 800000 in
theorem CN [bJ] {t t2 ty:Nat} {H h0:Hp} (r:bS E H w) {ie:TI} {e m:Nat} {own:Option Nat} {news:List Y} {x:Y} {d2:TypeDesc} {u u2:Value} {us:Array Value} (va:nC P e ie)
 (ht:P.underlying t=some (.slice e)) (yQ:P.underlying t2=some d2) (jK: ∀k,d2≠.int k) (xL:ie.size≠0) (ss:ie.bytes≠0) (tp:ie.zero.length=ie.size) (NK:ie.bytes<=400)
 (src:Src P E w ie.size m news u2 us) (hm:0<m) (hx:VR E w.heap x u) {e0 e1:V} {t':Nat} {ov0 X?:List (V×List Y)} (hb:Ix e own x H=some (e0,t',ov0,h0)) (l8:(rowOf t').es=ie.size) {ds:List D} (g:P5 E.ρ (rowOf t') e0 e1 ov0 X? ds news) (wX:ds.length=m)
 (tq:tG (rowOf t') X?) (afa:((dec (e0.den E.ρ)).l.length+m)*ie.bytes<=140737488355328) :
 ∃y w' E',(Builtin.append_ #[t,t2] ty #[u,u2]).run P w= .ok y w'/\fj E H w E' (h0.new (.vec e1 t' e X?)) w'/\bS E' (h0.new (.vec e1 t' e X?)) w'/\VR E' w'.heap (.pV h0.fresh (ed e1) t') y:=by
 have hbound: ∀k,k<=(dec (e0.den E.ρ)).l.length->(k+m)*ie.bytes<=140737488355328:=by intro k hk;exact bq (amO _ J) afa
 have hnl:news.length=m*ie.size:=by have U:=src.Vk.length;have Z:=src.size;simp only [bo] at U;omega
 have uc: ∀(a:Option Addr),u= .slice a 0 0->h0=H->(dec (e0.den E.ρ)).l= []->
  ∃y w' E',(Builtin.append_ #[t,t2] ty #[u,u2]).run P w= .ok y w'/\fj E H w E' (h0.new (.vec e1 t' e X?)) w'/\bS E' (h0.new (.vec e1 t' e X?)) w'/\VR E' w'.heap (.pV h0.fresh (ed e1) t') y:=by
  intro a hu he lg;subst hu he
  have pK:nT ie e 0 m news h0=some (.slice h0.fresh 0 (0+m) (.rest ie.size),h0.new (.cells news e)):=by unfold nT;rw [ak (hbound 0 J)]
  obtain⟨y,w',E',p1,p2,p3,p4⟩:=pL (t:=t) (t2:=t2) (ty:=ty) (cap:=0) r va ht yQ jK ss tp src J a (old:=[]) (olds:=#[]) (cs:=news) ad (by simp [cJ]) ad ad
   (fun w2 _=>by
    cases a with
    |none=>simp [Builtin.firstCells]
    |some a=>simp only [Builtin.firstCells,ams]; rfl) pK
  have hρ:=p2.ρ;have Bx:(dec (e1.den E'.ρ)).l=ds:=by rw [hρ,g.l,lg,aw]
  have xr:tj (rowOf t') (dec (e1.den E'.ρ)):=by refine⟨by rw [hρ]; exact g.wf,fun d hd=>?_,by rw [Bx]; intro q; rw [q] at wX; simp at wX; omega⟩;rw [Bx] at hd;exact g.rows d hd
  refine⟨y,w',E',p1,p2.right (wQ rfl rfl fun _=>rfl),LN p3 tq xr ?_ ?_,?_⟩
  ·unfold cW;rw [cM tq,Bx,wX,l8,hnl]
  ·intro gX HL;unfold cW;rw [hρ];have:=g.vr E' w'.heap [] gX hρ (by rw [lg]; simp [bH,cJ]) HL;simpa using this
  ·simp only [VR] at p4 ⊢;obtain⟨q1,a',qE,q2,q3,q4⟩:=p4;refine⟨q1,0+m,a',qE,?_,q2,q3,?_⟩
   ·rw [cL,Bx,wX,aK]
   ·rw [l8]; exact q4
 unfold Ix at hb;split at hb
 ·rename_i id n t0;split at hb
  ·rename_i o W;split at hb
   ·rename_i Az t00 tn ov
    ·split at hb
     ·rename_i ht0;split at hb
      ·rename_i OQ;split at hb
       ·rename_i hn;simp only [an,aq] at hb;obtain⟨rfl,rfl,rfl,rfl⟩:=hb;have ht0:=az ht0;have OQ:=az OQ;have hn:=cX _ _ hn;subst ht0 OQ hn;obtain⟨r2,aiy,ae3⟩:=r.pf W;simp only [VR] at hx;obtain⟨hid,k,a,cap,hk,rfl,hkc,iX⟩:=hx;rw [cL] at hk;have hk:k=(dec (Az.den E.ρ)).l.length:=J
        have hx2:VR E w.heap (.slice id 0 k (.rest ie.size)) (.slice (some a) k cap):=by simp only [VR];exact⟨hid,a,cap,rfl,hkc,by rw [<- l8]; exact iX⟩
        have Dr:(cW E.ρ Az t0 ov).length=k*ie.size:=by unfold cW;rw [cM aiy,l8,hk]
        have aiC:0<m*ie.size:=ank hm J
        have afh:qH ie tn m news (.slice id 0 k (.rest ie.size)) (H.put id (.cells (cW E.ρ Az t0 ov) tn)) =
         some (.slice H.fresh 0 (k+m) (.rest ie.size),((H.put id (.cells (cW E.ρ Az t0 ov) tn)).drop id).new (.cells (cW E.ρ Az t0 ov++news) tn)):=by
         unfold qH;simp only [if_true];rw [Hp.bU,ak rfl];simp only;rw [ah (by rw [Dr,amx]; omega),ak ⟨J,trivial⟩];simp only [eS];unfold nT;rw [ak (hbound k J)];rfl
        obtain⟨y,w',E',p1,p2,p3,p4⟩:=wi (t:=t) (t2:=t2) (ty:=ty) r2 va ht yQ jK xL ss tp src hx2 afh;have hρ:=p2.ρ;have Bx:(dec (e1.den E'.ρ)).l=(dec (Az.den E.ρ)).l++ds:=by rw [hρ,g.l]
        have xr:tj (rowOf t0) (dec (e1.den E'.ρ)):=by
         refine⟨by rw [hρ]; exact g.wf,fun d hd=>?_,by rw [Bx]; intro q; have:=congrArg List.length q; simp at this; rw [this.2] at wX; simp at wX; omega⟩;rw [Bx] at hd;rcases amt.1 hd with hd|hd
         ·exact ae3.2.1 d hd
         ·exact g.rows d hd
        have ER: ∀j,(((H.put id (.cells (cW E.ρ Az t0 ov) tn)).drop id).get j)=(H.drop id).get j:=by
         intro j;rw [Hp.lr,Hp.lr];split
         ·rfl
         ·rename_i gB;rw [Hp.bU,ah gB]
        have al:GH (((H.put id (.cells (cW E.ρ Az t0 ov) tn)).drop id).new (.cells (cW E.ρ Az t0 ov++news) tn)) ((H.drop id).new (.vec e1 t0 tn X?)):=
         wQ rfl rfl fun j=>by rw [ER]
        have p3':bS E' ((H.drop id).new (.cells (cW E.ρ Az t0 ov++news) tn)) w':=by
         have hg:(((H.put id (.cells (cW E.ρ Az t0 ov) tn)).drop id).new (.cells (cW E.ρ Az t0 ov++news) tn)).get H.fresh=some (.cells (cW E.ρ Az t0 ov++news) tn):=by rw [Hp.gy];exact ak rfl
         refine p3.swap hg (p3.live _ _ hg).2.1 (by rw [Hp.gy]; exact ak rfl) (fun j hj=>?_) ?_ ?_
         ·rw [Hp.gy,Hp.gy];show (if j=H.fresh then _ else _)=(if j=H.fresh then _ else _);rw [ah hj,ah hj,ER]
         ·unfold Hp.new;simp only [Hp.drop,Hp.put];split<;>rfl
         ·unfold Hp.new;simp only [Hp.drop,Hp.put];split<;>rfl
        refine⟨y,w',E',p1,(p2.left (GH.put W).symm).right al,LN p3' tq xr ?_ ?_,?_⟩
        ·unfold cW;rw [cM tq,Bx,a8,a8,cM aiy,wX,l8,hnl,amx]
        ·intro gX HL;obtain⟨a1,a2,rfl,b1,b2⟩:=HL.split;unfold cW at b1 ⊢;rw [hρ];exact g.vr E' w'.heap a1 a2 hρ b1 b2
        ·simp only [VR] at p4 ⊢;obtain⟨q1,a',qE,q2,q3,q4⟩:=p4;refine⟨q1,k+m,a',qE,?_,q2,q3,?_⟩
         ·rw [cL,Bx,a8,wX,hk]
         ·rw [l8]; exact q4
       ·simp at hb
      ·simp at hb
     ·simp at hb
   ·simp at hb
  ·simp at hb
 ·split at hb
  ·simp only [an,aq] at hb;obtain⟨rfl,rfl,rfl,rfl⟩:=hb;simp only [VR] at hx;exact uc none hx rfl (by simp only [V.den,bC,D.l])
  ·simp at hb
 ·split at hb
  ·simp only [an,aq] at hb;obtain⟨rfl,rfl,rfl,rfl⟩:=hb;simp only [VR] at hx;obtain⟨x,hx⟩:=hx;exact uc x hx rfl (by simp only [V.den,bC,D.l])
  ·simp at hb
 ·split at hb
  ·simp only [an,aq] at hb;obtain⟨rfl,rfl,rfl,rfl⟩:=hb;simp only [VR] at hx;obtain⟨⟨x,hx⟩,_⟩:=hx;exact uc x hx rfl (by simp only [V.den,bC,D.l])
  ·simp at hb
 ·split at hb
  ·split at hb
   ·split at hb
    ·split at hb
     ·simp only [an,aq] at hb;obtain⟨rfl,rfl,rfl,rfl⟩:=hb;simp only [VR] at hx;obtain⟨_,a,cap,rfl,_,hc⟩:=hx;simp only [eZ] at hc;obtain⟨rfl,_⟩:=hc;exact uc (some a) rfl rfl (by simp only [V.den,bC,D.l])
     ·simp at hb
    ·simp at hb
   ·simp at hb
  ·simp at hb
 ·simp at hb
end
section
variable {ρ:Nat->Int} {r:Row}
theorem qB {p:V} {cs:List Y}: ∀(ds:List D) (j:Nat),(∀i,j<=i->i<j+ds.length->p.den ρ≠(i:Int))->bH ρ r [(p,cs)] ds j=bH ρ r [] ds j
 |[],_,_=>rfl
 |d::ds,j,h=>by have h0:=h j (ay _) (by simp only [aQ]; omega);simp only [bH,ep,ah h0];rw [qB ds (j+1) fun i U Z=>h i J (by simp only [aQ]; omega)]
theorem aii {e0 e1 p:V} {cs news:List Y} {ds:List D} (g:Grown ρ r e0 e1 ds news) (hp:p.den ρ<((dec (e0.den ρ)).l.length:Int)):P5 ρ r e0 e1 [(p,cs)] [(p,cs)] ds news:=by refine⟨g.l,g.wf,g.rows,fun E' h us0 us hρ h0 U=>?_⟩;rw [g.l,my];refine h0.append ?_;rw [qB ds _ fun i U _=>by omega];exact g.vr E' h us _ hρ U
theorem ahd {e0 e1 p:V} {news zs:List Y} {d:D} (g:Grown ρ r e0 e1 [d] zs) (hp:p.den ρ=((dec (e0.den ρ)).l.length:Int)):P5 ρ r e0 e1 [] [(p,news)] [d] news:=by
 refine⟨g.l,g.wf,g.rows,fun E' h us0 us hρ h0 U=>?_⟩;rw [g.l,my,qB _ _ fun i _ Z=>by omega];refine h0.append ?_;simp only [bH,ep,aK]
 grind
theorem agc {e:Nat} {own:Option Nat} {x:Y} {h h0:Hp} {e0:V} {t:Nat} (hb:qF e own x h=some (e0,t,h0)):Ix e own x h=some (e0,t,[],h0):=by
 unfold qF at hb;unfold Ix
 repeat' split at hb
 all_goals first
  |(simp at hb; done)
  |(simp only [an,aq] at hb; obtain⟨rfl,rfl,rfl⟩:=hb; simp_all)
theorem ake {e:Nat} {own:Option Nat} {x:Y} {h h0:Hp} {e0 p:V} {cs:List Y} {t:Nat} (hb:Bi e x h=some (e0,t,p,cs,h0)):Ix e own x h=some (e0,t,[(p,cs)],h0):=by
 unfold Bi at hb;unfold Ix
 repeat' split at hb
 all_goals first
  |(simp at hb; done)
  |(simp only [an,aq] at hb; obtain⟨rfl,rfl,rfl,rfl,rfl⟩:=hb; simp_all)
end
section
variable {P:Program} {E:En} {w:World}
theorem Src.Vx {E1:En} {s m:Nat} {news Cl:List Y} {u:Value} {us:Array Value} (src:Src P E w s m news u us) (h:cJ E1 w.heap Cl us.toList):Src P E1 w s m Cl u us:=
 ⟨src.len,src.first,h,src.size,src.sQ⟩
theorem room_le {bytes n m:Nat} (ss:bytes≠0) (NK:bytes<=400) (hm:(m:Int)<rL bytes 1000000) (hn:n<1000000):(n+m)*bytes<=140737488355328:=by
 have hm':(m:Int)<((140737488355328 / bytes-1000000:Nat):Int):=hm;have U:m<140737488355328 / bytes-1000000:=J
 have Z:n+m<=140737488355328 / bytes:=J
 exact bq (amO _ Z) (anY _ _)
theorem Xw {bytes m:Nat} (hm:(m:Int)<rL bytes 0):(([]:List D).length+m)*bytes<=140737488355328:=by
 have hm':(m:Int)<((140737488355328 / bytes-0:Nat):Int):=hm;have Z:([]:List D).length+m<=140737488355328 / bytes:=by simp only [aA]; omega
 exact bq (amO _ Z) (anY _ _)
theorem D6 {bytes n m:Nat} (hn:(n:Int)<rL bytes (m+1)) {k:Nat} (hk:k=m+1):(n+k)*bytes<=140737488355328:=by
 have hn':(n:Int)<((140737488355328 / bytes-(m+1):Nat):Int):=hn;have Z:n+k<=140737488355328 / bytes:=J
 exact bq (amO _ Z) (anY _ _)
theorem qC {ρ:Nat->Int} {r:Row} {m:Nat} {e e1:V} {news:List Y} (h:lz r e m news=some e1) (hw:dec (e.den ρ)=dL (dec (e.den ρ)).l): ∃ds,ds.length=m/\Grown ρ r e e1 ds news:=by obtain⟨ds,U,Z,h3,h4,h5⟩:=rD (ρ:=ρ) m h;exact⟨ds,U,Z,h3 hw,h4,h5⟩
theorem KC [bJ] {H h0:Hp} (r:bS E H w) {e:Nat} {own:Option Nat} {x:Y} {e0:V} {t:Nat} (h:qF e own x H=some (e0,t,h0)):dec (e0.den E.ρ)=dL (dec (e0.den E.ρ)).l:=by
 have hz:dec ((V.eD (.i 0)).den E.ρ)=dL (dec ((V.eD (.i 0)).den E.ρ)).l:=by simp only [V.den,bC]; rfl
 unfold qF at h;split at h
 ·split at h
  ·rename_i o W;split at h
   ·split at h
    ·split at h
     ·split at h
      ·split at h
       ·simp only [an,aq] at h;obtain⟨rfl,_⟩:=h;exact (r.pf W).2.2.1
       grind
      grind
     grind
    grind
   grind
  grind
 all_goals grind
theorem CO [bJ] {t t2 ty:Nat} {ie:TI} {e:Nat} {d2:TypeDesc} {u u2:Value} {us:Array Value} {news:List Y} (va:nC P e ie) (ht:P.underlying t=some (.slice e)) (yQ:P.underlying t2=some d2) (jK: ∀k,d2≠.int k)
 (src:Src P E w ie.size 0 news u2 us) (ho: ∃a n cap,u= .slice a n cap/\n<=cap):(Builtin.append_ #[t,t2] ty #[u,u2]).run P w= .ok u w:=by
 obtain⟨inf,d,z,U,Z,h3,h4,h5,h6,h7,h8⟩:=va.all;obtain⟨a,n,cap,rfl,hn⟩:=ho;have HL:us.toList= []:=amv (by rw [bo,src.size,ams])
 have:=lA (t:=t) (t2:=t2) (ty:=ty) (n:=n) (cap:=cap) (a:=a) (w':=w) ht yQ jK U h5 src J (by
  cases a with
  |none=>rfl
  |some a=>rw [HL]; rfl)
 grind
theorem Uf {x:Y} {u:Value} {H h0:Hp} {e t:Nat} {own:Option Nat} {e0:V} (hx:VR E w.heap x u) (hb:qF e own x H=some (e0,t,h0)): ∃a n cap,u= .slice a n cap/\n<=cap:=by
 unfold qF at hb;split at hb
 ·simp only [VR] at hx
  grind
 ·simp only [VR] at hx
  grind
 ·simp only [VR] at hx
  grind
 ·simp only [VR] at hx
  grind
 ·simp only [VR] at hx
  grind
 grind
theorem L2 {x:Y} {u:Value} {own:Option Nat} (hx:VR E w.heap x u) (hb:Yf own x=true): ∃a n cap,u= .slice a n cap/\n<=cap:=by
 unfold Yf at hb;split at hb
 ·simp only [VR] at hx
  grind
 ·simp only [VR] at hx
  grind
 ·simp only [VR] at hx
  grind
 ·simp only [VR] at hx
  grind
 ·simp only [VR] at hx
  grind
 ·simp only [VR] at hx
  grind
 grind
theorem CE [bJ] {s s':St} (r:bS E s.h w) (hp:ca E.ρ s.pc) {t t2 ty e m':Nat} {own:Option Nat} {ie:TI} {news:List Y} {x v:Y} {d2:TypeDesc} {u u2:Value} {us:Array Value} (va:nC P e ie) (hu:P.underlying t=some (.slice e)) (jK:P.underlying t2=some d2) (vK: ∀k,d2≠.int k)
 (xL:ie.size≠0) (ss:ie.bytes≠0) (tp:ie.zero.length=ie.size) (NK:ie.bytes<=400) (src:Src P E w ie.size (m'+1) news u2 us) (hx:VR E w.heap x u) (h:(Aw e own x ie m' news s).leaf E.ρ=some (v,s')) :
 s'.bG=s.bG/\ca E.ρ s'.pc/\∃z w' E',(Builtin.append_ #[t,t2] ty #[u,u2]).run P w= .ok z w'/\fj E s.h w E' s'.h w'/\bS E' s'.h w'/\VR E' w'.heap v z:=by
 unfold Aw at h;obtain⟨Cl,U,pcF,E1,hpF,f,KU,h⟩:=qu rfl r hp h;split at h
 ·rename_i e0 t' h0 hb;split at h
  ·rename_i hc;obtain⟨l8,hm⟩:=hc;have hρ:=f.ρ;obtain⟨fW,fL,Z⟩:=cR (s:={ s with h:=U,pc:=pcF }) hpF h;split at Z
   ·rename_i t3;rw [eg,decide_eq_true_eq,cL] at t3;simp only [V.den] at t3;split at Z
    ·rename_i e1 hcr;have:=bE Z;simp only [aq] at this;obtain⟨rfl,rfl⟩:=this;obtain⟨ds,wX,g⟩:=qC (ρ:=E1.ρ) hcr (KC f.rel hb);obtain⟨z,w',E',p1,p2,p3,p4⟩:=yM (t:=t) (t2:=t2) (ty:=ty) f.rel va hu jK vK xL ss tp NK (src.Vx (KU _ src.Vk)) J (VR.cD (f.ei.keeps r) _ _ hx) hb l8 g wX (D6 (by rw [hρ]; exact t3) J);exact⟨rfl,fL,z,w',E',p1,f.ei.trans p2,p3,p4⟩
    grind [T.leaf]
   grind [T.leaf]
  grind [T.leaf]
 grind [T.leaf]
theorem ah9 [bJ] {H h0:Hp} (r:bS E H w) {e:Nat} {x:Y} {e0 p:V} {cs:List Y} {t:Nat} (h:Bi e x H=some (e0,t,p,cs,h0)):dec (e0.den E.ρ)=dL (dec (e0.den E.ρ)).l/\tG (rowOf t) [(p,cs)]:=by
 unfold Bi at h;split at h
 ·split at h
  ·rename_i W;split at h
   ·split at h
    ·grind
    ·split at h
     ·split at h
      ·rename_i ht;split at h
       ·split at h
        ·simp only [an,aq] at h;obtain⟨rfl,rfl,rfl,rfl,_⟩:=h;have ht:=az ht;subst ht;exact⟨(r.pf W).2.2.1,(r.pf W).2.1⟩
        grind
       grind
      grind
     grind
   grind
  grind
 grind
theorem Kj [bJ] {s s':St} (r:bS E s.h w) (hp:ca E.ρ s.pc) {t t2 ty e m':Nat} {own:Option Nat} {ie:TI} {news:List Y} {x v:Y} {d2:TypeDesc} {u u2:Value} {us:Array Value} (va:nC P e ie) (hu:P.underlying t=some (.slice e)) (jK:P.underlying t2=some d2) (vK: ∀k,d2≠.int k)
 (xL:ie.size≠0) (ss:ie.bytes≠0) (tp:ie.zero.length=ie.size) (NK:ie.bytes<=400) (src:Src P E w ie.size (m'+1) news u2 us) (hx:VR E w.heap x u) (h:(BO e x ie m' news s).leaf E.ρ=some (v,s')) :
 s'.bG=s.bG/\ca E.ρ s'.pc/\∃z w' E',(Builtin.append_ #[t,t2] ty #[u,u2]).run P w= .ok z w'/\fj E s.h w E' s'.h w'/\bS E' s'.h w'/\VR E' w'.heap v z:=by
 unfold BO at h;obtain⟨Cl,U,pcF,E1,hpF,f,KU,h⟩:=qu rfl r hp h;split at h
 ·rename_i e0 t' p cs h0 hb;split at h
  ·rename_i hc;obtain⟨l8,hm⟩:=hc;have hρ:=f.ρ;obtain⟨fW,fL,Z⟩:=cR (s:={ s with h:=U,pc:=pcF }) hpF h;split at Z
   ·rename_i t3;rw [eg,decide_eq_true_eq,cL] at t3;simp only [V.den] at t3;obtain⟨kz,kg,h3⟩:=cR (s:={ s with h:=U,pc:=fW }) fL Z;split at h3
    ·rename_i t4;rw [eg,decide_eq_true_eq,cL] at t4;split at h3
     ·rename_i e1 hcr;have:=bE h3;simp only [aq] at this;obtain⟨rfl,rfl⟩:=this;obtain⟨hw1,hw2⟩:=ah9 f.rel hb;obtain⟨ds,wX,g⟩:=qC (ρ:=E1.ρ) hcr hw1;obtain⟨z,w',E',p1,p2,p3,p4⟩:=CN (t:=t) (t2:=t2) (ty:=ty) f.rel va hu jK vK xL ss tp NK (src.Vx (KU _ src.Vk)) J (VR.cD (f.ei.keeps r) _ _ hx) (ake (own:=own) hb) l8 (aii g (by rw [hρ]; exact t4)) wX hw2 (D6 (by rw [hρ]; exact t3) J);exact⟨rfl,kg,z,w',E',p1,f.ei.trans p2,p3,p4⟩
     grind [T.leaf]
    grind [T.leaf]
   grind [T.leaf]
  grind [T.leaf]
 grind [T.leaf]
theorem Ki [bJ] {s s':St} (r:bS E s.h w) (hp:ca E.ρ s.pc) {t t2 ty e m':Nat} {own:Option Nat} {ie:TI} {news:List Y} {x v:Y} {d2:TypeDesc} {u u2:Value} {us:Array Value} (va:nC P e ie) (hu:P.underlying t=some (.slice e)) (jK:P.underlying t2=some d2) (vK: ∀k,d2≠.int k)
 (xL:ie.size≠0) (ss:ie.bytes≠0) (tp:ie.zero.length=ie.size) (NK:ie.bytes<=400) (src:Src P E w ie.size (m'+1) news u2 us) (hx:VR E w.heap x u) (h:(BN e own x ie m' news s).leaf E.ρ=some (v,s')) :
 s'.bG=s.bG/\ca E.ρ s'.pc/\∃z w' E',(Builtin.append_ #[t,t2] ty #[u,u2]).run P w= .ok z w'/\fj E s.h w E' s'.h w'/\bS E' s'.h w'/\VR E' w'.heap v z:=by
 unfold BN at h;split at h
 ·rename_i e0 t' h0 hb;split at h
  ·rename_i hc;obtain⟨l8,rfl⟩:=hc;obtain⟨fW,fL,Z⟩:=cR hp h;split at Z
   ·rename_i t3;obtain⟨kz,kg,h3⟩:=cR (s:={ s with pc:=fW }) fL Z;split at h3
    ·rename_i t4;rw [eg,decide_eq_true_eq,cL] at t4;simp only [V.den] at t4;split at h3
     ·rename_i e1 hcr;have:=bE h3;simp only [aq] at this;obtain⟨rfl,rfl⟩:=this;obtain⟨ds,wX,g⟩:=qC (ρ:=E.ρ) hcr (KC r hb)
      obtain⟨d,rfl⟩ : ∃d,ds= [d]:=by
       cases ds with
       |nil=>simp at wX
       |cons d l=>cases l with
        |nil=>exact⟨d,rfl⟩
        |cons a b=>simp at wX
      have hnl:news.length=(rowOf t').es:=by
       have U:=src.Vk.length;have Z:=src.size
       grind
      obtain⟨z,w',E',p1,p2,p3,p4⟩:=CN (t:=t) (t2:=t2) (ty:=ty) r va hu jK vK xL ss tp NK src J hx (agc hb) l8 (ahd (p:=.dK 0) g (by rw [gY,cL] at t3; simp only [beq_iff_eq] at t3; exact t3.symm)) wX (fun q hq=>by simp only [anZ] at hq; subst hq; exact hnl) (D6 t4 J)
      grind
     grind [T.leaf]
    grind [T.leaf]
   ·obtain⟨q1,q2,q3⟩:=CE (s:={ s with pc:=fW }) r fL (ty:=ty) va hu jK vK xL ss tp NK src hx Z
    grind
  grind [T.leaf]
 grind [T.leaf]
set_option maxHeartbeats 800000 in
theorem Kh [bJ] {tt:TT} (cV:eJ P tt) {s s':St} (r:bS E s.h w) (hp:ca E.ρ s.pc) {t t2 ty:Nat} {x y v:Y} {u u2:Value} (hx:VR E w.heap x u) (hy:VR E w.heap y u2) (hsl:aca y=false->∃a n cap,u= .slice a n cap/\n<=cap) (h:(BM tt t t2 x y s).leaf E.ρ=some (v,s')) :
 s'.bG=s.bG/\ca E.ρ s'.pc/\∃z w' E',(Builtin.append_ #[t,t2] ty #[u,u2]).run P w= .ok z w'/\fj E s.h w E' s'.h w'/\bS E' s'.h w'/\VR E' w'.heap v z:=by
 unfold BM at h;split at h
 ·rename_i ti gp;split at h
  ·rename_i e hk;split at h
   ·rename_i ie lG;split at h
    ·simp [T.leaf] at h
    ·rename_i QG Yq;obtain⟨d2,jK,Cu⟩:=sW (cV t2 QG Yq);split at h
     ·simp [T.leaf] at h
     ·rename_i k2 gB
      have vK: ∀k,d2≠.int k:=by intro k hd;subst hd;cases xu:QG.kind<;>rw [xu] at Cu<;>simp only [II] at Cu;exact gB _ xu
      split at h
      ·simp [T.leaf] at h
      ·rename_i jV;simp only [not_or,Classical.not_not] at jV;obtain⟨xL,ss,tp,NK⟩:=jV;have va:=cV e ie lG;have hu:=fC (cV t ti gp) hk;split at h
       ·
        rename_i e2 ty2;split at h
        ·rename_i e0 t' h0 hb;split at h
         ·rename_i hc;obtain⟨l8,iD⟩:=hc;obtain⟨fW,fL,U⟩:=cR hp h;rw [iZ,cL] at U;simp only [VR] at hy;obtain⟨xa,alF,hu2,_⟩:=hy.slice;split at U
          ·rename_i hz;simp only [V.den,beq_iff_eq] at hz;have:=bE U;simp only [aq] at this;obtain⟨rfl,rfl⟩:=this;have JB:(dec (e2.den E.ρ)).l.length=0:=J
           rw [JB] at hu2;subst hu2
           have src:Src P E w ie.size 0 [] (.slice xa 0 alF) #[]:=⟨fun _=>rfl,fun w2 _=>by
            cases xa with
            |none=>simp [Builtin.firstCells]
            |some a=>simp only [Builtin.firstCells,ams]; rfl,by simp [cJ],ad,ad⟩
           exact⟨rfl,fL,u,w,E,CO va hu jK vK src (Uf hx hb),fj.refl _ _ _,r,hx⟩
          ·rename_i hz;simp only [V.den,beq_eq_false_iff_ne,ne_eq] at hz;obtain⟨kz,kg,Z⟩:=cR (s:={ s with pc:=fW }) fL U;split at Z
           ·rename_i KR;obtain⟨Vn,JC,h3⟩:=cR (s:={ s with pc:=kz }) kg Z;split at h3
            ·rename_i t3;rw [eg,decide_eq_true_eq,cL] at KR t3;simp only [V.den] at KR t3;have aiB:(dec (e2.den E.ρ)).l≠[]:=by intro q; rw [q] at hz; simp at hz
             obtain⟨us,src⟩:=aaZ (P:=P) (w:=w) hy aiB;rw [iD] at src;rw [l8] at src
             have mh:0<(dec (e2.den E.ρ)).l.length:=by
              rcases am0 (dec (e2.den E.ρ)).l.length with q|q
              ·omega
              ·exact q
             have ae2:dec (e2.den E.ρ)=dL (dec (e2.den E.ρ)).l/\∀d∈(dec (e2.den E.ρ)).l,qJ (rowOf ty2) d:=by
              have key: ∀{d:D} {v:Value},Rd E.ro w.heap (.sl ty2) d v->d.l≠[]->d=dL d.l/\∀x∈d.l,qJ (rowOf ty2) x:=by
               intro d v hr gB
               have k?: ∀{c:CK} {d:D} {v:Value},Rd E.ro w.heap c d v->qK c d:=by
                intro c d v hr
                cases hr with
                |int k n=>rfl
                |bool b=>cases b<;>simp [qK]
                |str s=>trivial
                |nil t=>trivial
                |wO t a cap=>trivial
                |one t c b o cap ds f hr hc hb U Z=>trivial
                |many t cs b o cap rows f hr hc hb W U Z=>trivial
               generalize hc:CK.sl ty2=c at hr
               cases hr with
               |int k n=>simp at hc
               |bool b=>simp at hc
               |str s=>simp at hc
               |nil t=>exact absurd rfl gB
               |wO t a cap=>exact absurd rfl gB
               |one t c b o cap ds f hr eP hb U Z=> simp only [CK.sl.injEq] at hc;subst hc;refine⟨by rw [bD],fun x hx=>?_⟩;rw [bD] at hx;obtain⟨i,hi⟩:=ane.1 hx;rw [hr];exact k? (Z i x hi)
               |many t cs b o cap rows f hr eP hb W U Z=> simp only [CK.sl.injEq] at hc;subst hc;refine⟨by rw [bD],fun x hx=>?_⟩;rw [bD,bd] at hx;obtain⟨row,hrm,rfl⟩:=hx;obtain⟨i,hi⟩:=ane.1 hrm;rw [hr];refine⟨by rw [bD],by rw [bD]; exact W row hrm,fun j c y hj hy=>?_⟩;rw [bD] at hy;exact k? (Z i row j y c hi hy hj)
              exact key hy aiB
             rw [iD] at ae2
             have grown: ∀e1:V,(dec (e1.den E.ρ)).l=(dec (e0.den E.ρ)).l++(dec (e2.den E.ρ)).l->dec (e1.den E.ρ)=dL (dec (e1.den E.ρ)).l->Grown E.ρ (rowOf t') e0 e1 (dec (e2.den E.ρ)).l (bH E.ρ (rowOf t') [] (dec (e2.den E.ρ)).l 0):=by
              intro e1 q1 q2;refine⟨q1,q2,ae2.2,fun E' h us j hρ hv=>?_⟩
              have:bH E.ρ (rowOf t') [] (dec (e2.den E.ρ)).l j=bH E.ρ (rowOf t') [] (dec (e2.den E.ρ)).l 0:=by
               generalize (dec (e2.den E.ρ)).l=L;clear hv q1 q2
               have gen: ∀(L:List D) (a b:Nat),bH E.ρ (rowOf t') [] L a=bH E.ρ (rowOf t') [] L b:=by
                intro L
                induction L with
                |nil=>intro a b; rfl
                |cons d L ih=>intro a b; simp only [bH,ep]; rw [ih (a+1) (b+1)]
               exact gen L j 0
              rw [this];exact hv
             have hbw:=KC r hb;split at h3
             ·rename_i lg
              have aiQ:(dec (e0.den E.ρ)).l= []:=by
               unfold OM at lg;split at lg
               ·split at lg
                ·simp only [V.den,bC,D.l]
                ·simp at lg
               ·simp at lg
              have:=bE h3;simp only [aq] at this;obtain⟨rfl,rfl⟩:=this;obtain⟨z,w',E',p1,p2,p3,p4⟩:=yM (t:=t) (t2:=t2) (ty:=ty) r va hu jK vK xL ss tp NK src mh hx hb l8 (grown e2 (by rw [aiQ,aw]) ae2.1) rfl (by rw [aiQ]; refine Xw (bytes:=ie.bytes) ?_; have q:=KR; unfold Xx at q; rw [lg] at q; exact q);exact⟨rfl,JC,z,w',E',p1,p2,p3,p4⟩
             ·rename_i lg;have:=bE h3;simp only [aq] at this;obtain⟨rfl,rfl⟩:=this;obtain⟨z,w',E',p1,p2,p3,p4⟩:=yM (t:=t) (t2:=t2) (ty:=ty) r va hu jK vK xL ss tp NK src mh hx hb l8 (grown (.op .cat e0 e2) (by simp only [V.den,fT.den,bC,bD]) (by simp only [V.den,fT.den,bC,bD])) rfl (room_le ss NK (by have q:=KR; unfold Xx at q; rw [lg] at q; exact q) J);exact⟨rfl,JC,z,w',E',p1,p2,p3,p4⟩
            ·simp [T.leaf] at h3
           ·simp [T.leaf] at Z
         ·simp [T.leaf] at h
        ·simp [T.leaf] at h
       ·
        split at h
        ·rename_i m news OS;obtain⟨us,src⟩:=qV (P:=P) r hy OS;split at h
         ·have:=bE h;simp only [aq] at this;obtain⟨rfl,rfl⟩:=this
          exact⟨rfl,hp,u,w,E,CO va hu jK vK src (hsl (by
           cases y<;>first |rfl|(rename_i zR _ _ _; exact absurd rfl (zR _ _))|(rename_i zR; exact absurd rfl (zR _ _)))),fj.refl _ _ _,r,hx⟩
         ·rename_i m';split at h
          ·exact Kj (own:=ti.own) r hp va hu jK vK xL ss tp NK src hx h
          ·split at h
           ·exact Ki r hp va hu jK vK xL ss tp NK src hx h
           ·exact CE r hp va hu jK vK xL ss tp NK src hx h
        ·simp [T.leaf] at h
   ·simp [T.leaf] at h
  ·simp [T.leaf] at h
 ·simp [T.leaf] at h
end
section
variable {P:Program} {E:En} {w:World}
theorem QA {h:Array Obj} {id t:Nat} {n:V} {u:Value} (hv:VR E h (.pV id n t) u):VR E h (.u5 id (.lit 0) n t) u:=by simp only [VR] at hv ⊢;obtain⟨U,k,a,cap,Z,h3,h4,h5⟩:=hv;exact⟨U,0,k,a,cap,rfl,Z,h3,h4,by rw [ams]; exact h5⟩
theorem Pa {tt:TT} (cV:eJ P tt) {s s':St} (hp:ca E.ρ s.pc) {ty t id:Nat} {lo n:V} {ix v:Y} {u ui:Value} (hx:VR E w.heap (.u5 id lo n t) u) (zV:VR E w.heap ix ui) (h:(JW tt s ty id t lo n ix).leaf E.ρ=some (v,s')) :
 s'.bG=s.bG/\s'.h=s.h/\ca E.ρ s'.pc/\∃r,(Instr.indexAt ty u ui).run P w= .ok r w/\VR E w.heap v r:=by
 unfold JW at h;split at h
 ·rename_i kd i;split at h
  ·rename_i z hz;split at h
   ·rename_i l8;obtain⟨ew,fQ,U,Z,h3⟩:=n8 hp h;have:=bE h3;simp only [aq] at this;obtain⟨rfl,rfl⟩:=this;refine⟨rfl,rfl,fQ,?_⟩;simp only [VR] at hx zV;subst zV;obtain⟨hid,l,m,a,cap,W,hn,rfl,iX,hc⟩:=hx;obtain⟨el,ie,hu,lG,rfl⟩:=nV cV hz;obtain⟨k,hk⟩ : ∃k:Nat,i.den E.ρ=(k:Int):=⟨(i.den E.ρ).toNat,J⟩;have gu:k<m:=J
    have ha:a=⟨(E.θ id).1,(E.θ id).2+l*ie.size,none⟩:=by
     simp only [eZ] at hc
     grind
    subst ha;refine⟨.pointer (some ⟨(E.θ id).1,(E.θ id).2+l*ie.size+k*ie.size,none⟩),?_,?_⟩
    ·rw [hk];simp [Instr.indexAt,asIntOf,run_underlying hu,eF (cV el ie lG),gu,fw]
    ·simp only [VR];exact⟨hid,l+k,by rw [pP,W,hk]; rfl,by rw [bw,amx,amq]⟩
   ·simp [T.leaf] at h
  ·simp [T.leaf] at h
 ·simp [T.leaf] at h
theorem X7 {lo:Option Y} {yP:Option Value} {l:V} {n:Nat} (h:loE lo=some l) (oU:gF E w.heap lo yP) (hn:l.den E.ρ=(n:Int)) :
 ∃Vo,gF E w.heap Vo yP/\∀y,n<=y->oh Vo 0 y=some n:=by
 unfold loE at h;split at h
 ·simp only [an] at h;subst h;simp only [V.den] at hn
  grind [oh]
 ·split at h
  ·rename_i v k q;simp only [an] at h;subst h;obtain⟨y,rfl,hy⟩:=oU;refine⟨some (.int k (.lit (Int.ofNat n))),⟨y,rfl,?_⟩,fun y hy=>by simp [oh,k8,hy]⟩;simp only [VR,V.den] at hy ⊢
   grind
  grind
theorem Dn {k:IntKind} {q:V} {n:Nat} {o:Option Value} (hq:q.den E.ρ=(n:Int)) (ho:gF E w.heap (some (.int k q)) o):gF E w.heap (some (.int k (.lit (Int.ofNat n)))) o:=by
 obtain⟨y,rfl,hy⟩:=ho;refine⟨y,rfl,?_⟩;simp only [VR,V.den] at hy ⊢
 grind
theorem DE {k:IntKind} {n d y:Nat} (hn:n<=y):oh (some (.int k (.lit (Int.ofNat n)))) d y=some n:=by simp [oh,k8,hn]
theorem Ff [bJ] {tt:TT} (cV:eJ P tt) {s s':St} (r:bS E s.h w) (hp:ca E.ρ s.pc) {ty id t:Nat} {B_ n0:V} {lo hi mx:Option Y} {yP hi' mx':Option Value} {v:Y} {u:Value} (hx:VR E w.heap (.u5 id B_ n0 t) u)
 (oU:gF E w.heap lo yP) (yU:gF E w.heap hi hi') (yA:gF E w.heap mx mx') (h:(Dw tt s ty id t B_ n0 lo hi mx).leaf E.ρ=some (v,s')) :
 s'.bG=s.bG/\s'.h=s.h/\ca E.ρ s'.pc/\∃r,(Instr.sliceAt ty u yP hi' mx').run P w= .ok r w/\VR E w.heap v r:=by
 unfold Dw at h;split at h
 ·simp [T.leaf] at h
 ·rename_i z hz;split at h
  ·rename_i jV;obtain⟨l8,hz0⟩:=jV;obtain⟨el,ie,hu,lG,rfl⟩:=nV cV hz;have iW:=eF (cV el ie lG);simp only [VR] at hx;obtain⟨hid,l0,m0,a,cap,g1,g2,rfl,iX,hc⟩:=hx
   have fin: ∀(l k:Nat) (e1 e2:V),(Instr.sliceBounds true m0 cap yP hi' none).run P w= .ok (l,k,cap) w->l<=k->k<=cap->e1.den E.ρ=(l:Int)->e2.den E.ρ=(k:Int)->
    ∃r,(Instr.sliceAt ty (.slice (some a) m0 cap) yP hi' none).run P w= .ok r w/\VR E w.heap (.u5 id (tg B_ e1) (DV e2 e1) t) r:=by
    intro l k e1 e2 hb hlk hk YH he2;refine⟨.slice (some (if cap=l then a else a.add (l*ie.size))) (k-l) (cap-l),?_,?_⟩
    ·simp [Instr.sliceAt,run_underlying hu,Instr.slice,hb,iW]<;>split<;>rfl
    ·simp only [VR];refine⟨hid,l0+l,k-l,_,_,by rw [pP,g1,YH]; rfl,by rw [TL,YH,he2]; omega,rfl,J,?_⟩;rw [amx];have q:=qD (l:=l) (h:=k) (m:=cap) (es:=(rowOf t).es) hc iX hlk hk (ay _) (.inr (.inr ⟨rfl,rfl,rfl⟩)) (rowOf t).es (fun _=>rfl);rw [l8];exact q
   split at h
   ·simp [T.leaf] at h
   ·rename_i ql hql;obtain⟨fW,fL,U⟩:=cR hp h;split at U
    ·simp [T.leaf] at U
    ·rename_i t1;rw [eg,decide_eq_false_iff_not] at t1;simp only [V.den,amZ] at t1;obtain⟨l,W⟩ : ∃l:Nat,ql.den E.ρ=(l:Int):=⟨(ql.den E.ρ).toNat,J⟩;obtain⟨Vo,YA,nS⟩:=X7 hql oU W;split at U
     ·
      simp only [gF] at yU;subst yU;split at U
      ·simp [T.leaf] at U
      ·simp only [gF] at yA;subst yA;obtain⟨kz,kg,Z⟩:=cR (s:={ s with pc:=fW }) fL U;split at Z
       ·simp [T.leaf] at Z
       ·rename_i t2;have:=bE Z;simp only [aq] at this;obtain⟨rfl,rfl⟩:=this;rw [eg,decide_eq_false_iff_not] at t2;have hlm:l<=m0:=J
        obtain⟨e1,e2⟩:=gm (P:=P) (w:=w) (isSlice:=true) (len:=m0) (cap:=cap) (m0:=cap) (d:=0) (m:=cap) (h0:=cap) (h:=m0) (l:=l) YA (hi:=none) (hi':=none) (by simp [gF]) (mx:=none) (mx':=none) (by simp [gF]) ad (.inl ⟨rfl,rfl,ay _⟩) (by simp [oh,iX]) ⟨fun _=>ay _,ad⟩ (nS _ hlm);exact⟨rfl,rfl,kg,fin l m0 _ _ e1 hlm iX W g2⟩
     ·rename_i hv;split at U
      ·rename_i kh qh;obtain⟨kz,kg,Z⟩:=cR (s:={ s with pc:=fW }) fL U;split at Z
       ·simp [T.leaf] at Z
       ·rename_i t2;rw [eg,decide_eq_false_iff_not] at t2;obtain⟨k,hk⟩ : ∃k:Nat,qh.den E.ρ=(k:Int):=⟨(qh.den E.ρ).toNat,J⟩;have hlk:l<=k:=J
        split at Z
        ·rename_i mv;split at Z
         ·rename_i km qm;obtain⟨Vn,JC,h3⟩:=cR (s:={ s with pc:=kz }) kg Z;split at h3
          ·simp [T.leaf] at h3
          ·rename_i t3;obtain⟨pc4,hp4,h4⟩:=cR (s:={ s with pc:=Vn }) JC h3;split at h4
           ·simp [T.leaf] at h4
           ·rename_i t4;have:=bE h4;simp only [aq] at this;obtain⟨rfl,rfl⟩:=this;rw [eg,decide_eq_false_iff_not] at t3 t4;obtain⟨m,hm⟩ : ∃m:Nat,qm.den E.ρ=(m:Int):=⟨(qm.den E.ρ).toNat,J⟩;obtain⟨e1,e2⟩:=gm (P:=P) (w:=w) (isSlice:=true) (len:=m0) (cap:=cap) (m0:=cap) (d:=0) (m:=m) (h0:=m) (h:=k) (l:=l) YA (Dn hk yU) (Dn hm yA) ad (.inr ⟨_,rfl,DE J,ay _⟩) (DE J) ⟨ad,fun _=>rfl⟩ (nS _ hlk);refine⟨rfl,rfl,hp4,.slice (some (if m=l then a else a.add (l*ie.size))) (k-l) (m-l),?_,by simp only [VR]⟩;simp [Instr.sliceAt,run_underlying hu,Instr.slice,e1,iW]<;>split<;>rfl
         ·simp [T.leaf] at Z
        ·simp only [gF] at yA;subst yA
         have go:k<=cap->∃r,(Instr.sliceAt ty (.slice (some a) m0 cap) yP hi' none).run P w= .ok r w/\VR E w.heap (.u5 id (tg B_ ql) (DV qh ql) t) r:=by intro hkc;obtain⟨e1,e2⟩:=gm (P:=P) (w:=w) (isSlice:=true) (len:=m0) (cap:=cap) (m0:=cap) (d:=0) (m:=cap) (h0:=cap) (h:=k) (l:=l) YA (Dn hk yU) (mx:=none) (mx':=none) (by simp [gF]) ad (.inl ⟨rfl,rfl,ay _⟩) (DE hkc) ⟨fun _=>ay _,ad⟩ (nS _ hlk);exact fin l k _ _ e1 hlk hkc W hk
         obtain⟨Vn,JC,h3⟩:=cR (s:={ s with pc:=kz }) kg Z;split at h3
         ·rename_i t3;have:=bE h3;simp only [aq] at this;obtain⟨rfl,rfl⟩:=this;rw [eg,decide_eq_false_iff_not] at t3;exact⟨rfl,rfl,JC,go J⟩
         ·split at h3
          ·simp [T.leaf] at h3
          ·rename_i hz1;split at h3
           ·simp [T.leaf] at h3
           ·rename_i e A2 hva;obtain⟨pc4,hp4,h4⟩:=cR (s:={ s with pc:=Vn }) JC h3;split at h4
            ·simp [T.leaf] at h4
            ·rename_i t4;have:=bE h4;simp only [aq] at this;obtain⟨rfl,rfl⟩:=this;rw [eg,decide_eq_false_iff_not,cL] at t4;refine⟨rfl,rfl,hp4,go ?_⟩;have hlv:=nN hva;obtain⟨ho,q0⟩:=OR.pf.1 (r.live id _ hlv).2.1;have akQ:=EF hz1;subst akQ;simp only [V.den] at g1;have hl0:l0=0:=J
             subst hl0;simp only [OR] at q0;obtain⟨arr,lo1,hi1,us,q1,q2,q3,q4,q5,q6,q7⟩:=q0;unfold cW at q4;rw [cM ho.1] at q4;have gB:0<(dec (e.den E.ρ)).l.length:=amI.2 ho.2.2.2;have mh:0<(rowOf t).es:=J
             simp only [eZ] at hc
             have hκ:(dec (e.den E.ρ)).l.length<=cap:=by
              rcases hc with hc|hc
              ·have:(dec (e.den E.ρ)).l.length*(rowOf t).es<=cap*(rowOf t).es:=J
               exact anT this mh
              ·have:=ank gB mh;omega
             omega
      ·simp [T.leaf] at U
  ·simp [T.leaf] at h
theorem Pq [bJ] {tt:TT} (cV:eJ P tt) {s s':St} (hp:ca E.ρ s.pc) {ty t:Nat} {z:V} {lo hi mx:Option Y} {yP hi' mx':Option Value} {v:Y} {u:Value} (hx:VR E w.heap (.xU z t) u)
 (oU:gF E w.heap lo yP) (yU:gF E w.heap hi hi') (yA:gF E w.heap mx mx') (h:(Ka tt s ty z t lo hi mx).leaf E.ρ=some (v,s')) :
 s'.bG=s.bG/\s'.h=s.h/\ca E.ρ s'.pc/\∃r,(Instr.sliceAt ty u yP hi' mx').run P w= .ok r w/\VR E w.heap v r:=by
 unfold Ka at h;split at h
 ·grind [T.leaf]
 ·simp only [gF] at yA;subst yA;split at h
  ·grind [T.leaf]
  ·rename_i zz hz;obtain⟨el,ie,hu,lG,rfl⟩:=nV cV hz;have iW:=eF (cV el ie lG);split at h
   ·rename_i AW;split at h
    ·rename_i nS;have:=bE h;simp only [aq] at this;obtain⟨rfl,rfl⟩:=this;have hx0:=hx;simp only [VR] at hx;obtain⟨⟨x,rfl⟩,hr⟩:=hx;obtain⟨e1,e2⟩:=gm (P:=P) (w:=w) (isSlice:=true) (len:=0) (cap:=0) (m0:=0) (d:=0) (m:=0) oU yU (mx:=none) (mx':=none) (by simp [gF]) ad (.inl ⟨rfl,rfl,ay _⟩) AW ⟨fun _=>ay _,ad⟩ nS;refine⟨rfl,rfl,hp,.slice x 0 0,?_,hx0⟩;simp [Instr.sliceAt,run_underlying hu,Instr.slice,e1,iW]
    grind [T.leaf]
   grind [T.leaf]
end
theorem D2: ∀{B Z!:List Y},Z!.length=B.length->ef B 0 Z!=some Z!
 |[],[],_=>rfl
 |[],_::_,h=>by simp at h
 |_::_,[],h=>by simp at h
 |b::B,v::Z!,h=>by simp only [ef];rw [D2 (by simpa using h)]
theorem Oi {A B C Z!:List Y} (h:Z!.length=B.length):ef (A++(B++C)) A.length Z!=some (A++(Z!++C)):=by
 have:=tB A (ot C (D2 h))
 grind
theorem GM {α:Type}: ∀{a b:List α},ja a.length (a++b)=some a
 |[],b=>rfl
 |x::a,b=>by simp only [aQ,aW,ja,GM]
theorem lx {ρ:Nat->Int} {r:Row}: ∀(L:List D) (a b:Nat),bH ρ r [] L a=bH ρ r [] L b
 |[],_,_=>rfl
 |d::L,a,b=>by simp only [bH,ep]; rw [lx L (a+1) (b+1)]
theorem iy {ρ:Nat->Int} {r:Row}: ∀(A B:List D),bH ρ r [] (A++B) 0=bH ρ r [] A 0++bH ρ r [] B 0
 |[],B=>rfl
 |d::A,B=>by simp only [aW,bH,ep,ani];rw [lx (A++B) 1 0,lx A 1 0,iy A B]
section
variable {P:Program} {E:En} {w:World}
theorem Wa [bJ] {H:Hp} (r:bS E H w) {id t:Nat} {e0:V} {tn:TypeId} (W:H.get id=some (.vec e0 t tn [])) (xL:(rowOf t).es≠0) {k cap:Nat} {a:Addr} (hc:eZ E id 0 k a cap (.rest (rowOf t).es)) :
 a=⟨(E.θ id).1,(E.θ id).2,none⟩/\(dec (e0.den E.ρ)).l.length<=cap:=by
 obtain⟨ho,q0⟩:=OR.pf.1 (r.live id _ W).2.1;simp only [OR] at q0;obtain⟨arr,lo1,hi1,us,q1,q2,q3,q4,q5,q6,q7⟩:=q0;unfold cW at q4;rw [cM ho.1] at q4;have gB:0<(dec (e0.den E.ρ)).l.length:=amI.2 ho.2.2.2;have mh:0<(rowOf t).es:=J
 simp only [eZ] at hc;rcases hc with hc|hc
 ·refine⟨by simpa using hc.1,?_⟩;have:(dec (e0.den E.ρ)).l.length*(rowOf t).es<=cap*(rowOf t).es:=J
  exact anT this mh
 ·have:=ank gB mh;omega
theorem DI [bJ] {H:Hp} (r:bS E H w) {id t:Nat} {e0:V} {tn:TypeId} (W:H.get id=some (.vec e0 t tn [])) {n mm:Nat} (hle:n+mm<=(dec (e0.den E.ρ)).l.length) {ds:List D} (wX:ds.length=mm) (xr: ∀d∈ds,qJ (rowOf t) d)
 {us:List Value} (hv:cJ E w.heap (bH E.ρ (rowOf t) [] ds 0) us) (U: ∀u∈us,u.oneCell'=true) {e1:V} (YH:dec (e1.den E.ρ)=dL ((dec (e0.den E.ρ)).l.take n++ds++(dec (e0.den E.ρ)).l.drop (n+mm))) :
 ∃w',(storeCells ⟨(E.θ id).1,(E.θ id).2+n*(rowOf t).es,none⟩ us).run P w= .ok () w'/\fj E H w E (H.put id (.vec e1 t tn [])) w'/\bS E (H.put id (.vec e1 t tn [])) w':=by
 obtain⟨rc,ho,hw⟩:=r.pf W;generalize hL:(dec (e0.den E.ρ)).l=L at *
 have hsp:L=L.take n++((L.drop n).take mm++L.drop (n+mm)):=by
  conv=>lhs; rw [<- amE n L]
  congr 1
  conv=>lhs; rw [<- amE mm (L.drop n)]
  simp_all
 have hc:cW E.ρ e0 t []=bH E.ρ (rowOf t) [] (L.take n) 0++(bH E.ρ (rowOf t) [] ((L.drop n).take mm) 0++bH E.ρ (rowOf t) [] (L.drop (n+mm)) 0):=by
  unfold cW;rw [hL]
  conv=>lhs; rw [hsp]
  rw [iy,iy]
 have hlA:(bH E.ρ (rowOf t) [] (L.take n) 0).length=n*(rowOf t).es:=by
  rw [cM (kZ _),bh]
  grind
 have hsl:ef (cW E.ρ e0 t []) (n*(rowOf t).es) (bH E.ρ (rowOf t) [] ds 0)=some (cW E.ρ e1 t []):=by
  have:cW E.ρ e1 t []=bH E.ρ (rowOf t) [] (L.take n) 0++(bH E.ρ (rowOf t) [] ds 0++bH E.ρ (rowOf t) [] (L.drop (n+mm)) 0):=by unfold cW;rw [YH,bD,iy,iy,ani]
  rw [this,hc,<- hlA];refine Oi ?_;rw [cM (kZ _),cM (kZ _),bh,br,wX]
  grind
 obtain⟨w',g1,g2,g3⟩:=mz (P:=P) rc (by rw [Hp.bU,ak rfl]) hsl hv U;have al1:GH (H.put id (.cells (cW E.ρ e0 t []) tn)) H:=(GH.put W).symm
 have al2:GH ((H.put id (.cells (cW E.ρ e0 t []) tn)).put id (.cells (cW E.ρ e1 t []) tn)) (H.put id (.vec e1 t tn [])):=by
  refine⟨fun j y hj=>?_,fun j y hj=>?_,rfl,rfl⟩
  ·rw [Hp.bU];split
   ·grind
   ·rename_i gB;rw [Hp.bU,ah gB,Hp.bU,ah gB] at hj
    grind
  ·rw [Hp.bU] at hj ⊢;split
   ·grind
   ·rename_i gB;rw [ah gB] at hj;rw [Hp.bU,ah gB];exact⟨y,hj⟩
 have Bz:=(g3.live id _ (by rw [Hp.bU,ak rfl])).2.1
 have hor:OR E w'.heap id (.vec e1 t tn []):=by
  refine OR.pf.2 ⟨⟨kZ _,?_⟩,Bz⟩;rw [YH];refine⟨by rw [bD],?_,?_⟩
  ·rw [bD];intro d hd;rcases amt.1 hd with hd|hd
   ·rcases amt.1 hd with hd|hd
    ·exact hw.2.1 d (by rw [hL]; exact amo hd)
    ·exact xr d hd
   ·exact hw.2.1 d (by rw [hL]; exact amn hd)
  ·rw [bD];intro q;have:=congrArg List.length q;simp only [a8,bh,br,aA,wX] at this;have gB:=amI.2 hw.2.2;rw [hL] at gB;omega
 refine⟨w',g1,(g2.left al1).right al2,?_⟩;exact g3.swap (id:=id) (by rw [Hp.bU,ak rfl]) hor (by rw [Hp.bU,ak rfl]) (fun j hj=>by rw [Hp.bU,ah hj,Hp.bU,ah hj,Hp.bU,ah hj]) rfl rfl
theorem M7 [bJ] {s s':St} (r:bS E s.h w) (hp:ca E.ρ s.pc) {id t t1 t2 ty e:Nat} {e0 n1 m sd lo:V} {tn:TypeId} {ie:TI} {d2:TypeDesc} (va:nC P e ie) (ht:P.underlying t1=some (.slice e)) (yQ:P.underlying t2=some d2) (jK: ∀k,d2≠.int k)
 (l8:(rowOf t).es=ie.size) (xL:ie.size≠0) (W:s.h.get id=some (.vec e0 t tn [])) (oU:isZ lo=true) {u u2:Value} {us:Array Value} {ds:List D} (hx:VR E w.heap (.u5 id lo n1 t) u) {mm:Nat} (hm:m.den E.ρ=(mm:Int))
 (wX:ds.length=mm) (hsd:(dec (sd.den E.ρ)).l=ds) (xr: ∀d∈ds,qJ (rowOf t) d) {news:List Y} (src:Src P E w ie.size mm news u2 us) (hv:cJ E w.heap (bH E.ρ (rowOf t) [] ds 0) us.toList) {v:Y} (h:(S8 id t tn e0 n1 m sd s).leaf E.ρ=some (v,s')) :
 s'.bG=s.bG/\ca E.ρ s'.pc/\∃z w' E',(Builtin.append_ #[t1,t2] ty #[u,u2]).run P w= .ok z w'/\fj E s.h w E' s'.h w'/\bS E' s'.h w'/\VR E' w'.heap v z:=by
 unfold S8 at h;obtain⟨ew,fQ,g1,g2,g3,g4⟩:=wN hp h;have:=bE g4;simp only [aq] at this;obtain⟨rfl,rfl⟩:=this;have oU:=EF oU;subst oU;have hx0:=hx;simp only [VR] at hx;obtain⟨hid,l0,k,a,cap,q1,q2,rfl,q4,q5⟩:=hx;simp only [V.den] at q1;have hl0:l0=0:=J
 subst hl0;rw [ams] at q5;obtain⟨rfl,ld⟩:=Wa r W (by rw [l8]; exact xL) q5;have hle:k+mm<=(dec (e0.den E.ρ)).l.length:=J
 obtain⟨inf,d,z,U,Z,h3,h4,h5,h6,h7,h8⟩:=va.all
 obtain⟨w',f1,f2,f3⟩:=DI (P:=P) r W (n:=k) hle wX xr hv src.sQ (e1:=.op .cat (.op .cat (.op .take e0 n1) sd) (.op .drop e0 (tg n1 m))) (by
  have hn:((k:Int)+(mm:Int)).toNat=k+mm:=J
  simp only [V.den,fT.den,bC,bD,pP,bN,q2,hm,hn,hsd,aX])
 refine⟨rfl,fQ,.slice (some ⟨(E.θ id).1,(E.θ id).2,none⟩) (k+mm) cap,w',E,?_,f2,f3,?_⟩
 ·exact lA (s:=ie.size) ht yQ jK U h5 src J (by simp only [fw]; rw [<- l8]; exact f1)
 ·simp only [VR];refine⟨hid,0,k+mm,_,_,rfl,by rw [pP,q2,hm]; rfl,rfl,J,?_⟩;rw [ams];simp only [eZ] at q5 ⊢
  grind
theorem MG [bJ] {tt:TT} (cV:eJ P tt) {s s':St} (r:bS E s.h w) (hp:ca E.ρ s.pc) {t t2 ty id t':Nat} {lo n1:V} {y v:Y} {u u2:Value} (oU:isZ lo=true) (hx:VR E w.heap (.u5 id lo n1 t') u) (hy:VR E w.heap y u2) (h:(Ft tt t t2 id n1 t' y s).leaf E.ρ=some (v,s')) :
 s'.bG=s.bG/\ca E.ρ s'.pc/\∃z w' E',(Builtin.append_ #[t,t2] ty #[u,u2]).run P w= .ok z w'/\fj E s.h w E' s'.h w'/\bS E' s'.h w'/\VR E' w'.heap v z:=by
 unfold Ft at h;split at h
 ·rename_i ti gp;split at h
  ·rename_i e hk;split at h
   ·rename_i ie lG;split at h
    ·grind [T.leaf]
    ·rename_i QG Yq;obtain⟨d2,jK,Cu⟩:=sW (cV t2 QG Yq);split at h
     ·grind [T.leaf]
     ·rename_i k2 gB
      have vK: ∀k,d2≠.int k:=by
       intro k hd;subst hd;cases xu:QG.kind<;>rw [xu] at Cu<;>simp only [II] at Cu
       grind
      split at h
      ·grind [T.leaf]
      ·rename_i jV;simp only [not_or,Classical.not_not] at jV;obtain⟨xL,ss,tp,l8⟩:=jV;have va:=cV e ie lG;have hu:=fC (cV t ti gp) hk;split at h
       ·grind [T.leaf]
       ·rename_i e0 tn hva;have W:=nN hva;split at h
        ·rename_i id2 Vo n2 KR;split at h
         ·rename_i JF;split at h
          ·rename_i yQ;have JF:=az JF;have yQ:=az yQ;subst JF yQ;obtain⟨fW,fL,g1,g2,g3,g4⟩:=wN hp h;have hy0:=hy;simp only [VR] at hy;obtain⟨hid,l,k,a,cap,q1,q2,rfl,q4,q5⟩:=hy;obtain⟨rc,ho,hw⟩:=r.pf W;generalize hL:(dec (e0.den E.ρ)).l=L at *;have hlk:l+k<=L.length:=J
           have hsp:L=L.take l++((L.take (l+k)).drop l++L.drop (l+k)):=by
            conv=>lhs; rw [<- amE (l+k) L]
            grind
           have Vu:cW E.ρ e0 KR []=bH E.ρ (rowOf KR) [] (L.take l) 0++(bH E.ρ (rowOf KR) [] ((L.take (l+k)).drop l) 0++bH E.ρ (rowOf KR) [] (L.drop (l+k)) 0):=by
            unfold cW;rw [hL]
            conv=>lhs; rw [hsp]
            rw [iy,iy]
           have hlA:(bH E.ρ (rowOf KR) [] (L.take l) 0).length=l*(rowOf KR).es:=by rw [cM (kZ _),bh];congr 1;omega
           have hlen:((L.take (l+k)).drop l).length=k:=by rw [br,bh]; omega
           have hlB:(bH E.ρ (rowOf KR) [] ((L.take (l+k)).drop l) 0).length=k*(rowOf KR).es:=by rw [cM (kZ _),hlen]
           have hy1:VR E w.heap (.slice id2 (l*(rowOf KR).es) k (.rest (rowOf KR).es)) (.slice (some a) k cap):=by simp only [VR];exact⟨hid,a,cap,rfl,q4,q5⟩
           obtain⟨us,src⟩:=qV (P:=P) rc hy1 (s:=ie.size) (m:=k) (news:=bH E.ρ (rowOf KR) [] ((L.take (l+k)).drop l) 0) (by
            simp only [sE,nu,Hp.bU,if_true];rw [Vu,<- hlA,uw];simp only;rw [<- l8,<- hlB,GM]
            rfl)
           refine M7 (s:={ s with pc:=fW }) r fL va hu jK vK l8 xL W oU hx q2 hlen (by rw [yj q1 q2,bN,hL]) (fun d hd=>hw.2.1 d ?_) src src.Vk g4;rw [hL];exact amo (amn hd)
          grind [T.leaf]
         grind [T.leaf]
        ·split at h
         ·grind [T.leaf]
         ·rename_i m news OS;obtain⟨us,src⟩:=qV (P:=P) r hy OS;split at h
          ·grind [T.leaf]
          ·rename_i m';split at h
           ·split at h
            ·rename_i sd hcr;obtain⟨ds,c1,c2,c3,c4,c5⟩:=rD (ρ:=E.ρ) _ hcr;simp only [V.den,bC,D.l,aw] at c2;exact M7 r hp va hu jK vK l8 xL W oU hx (mm:=m'+1) (by simp only [V.den]; rfl) c1 c2 c4 src (c5 E w.heap _ 0 rfl src.Vk) h
            grind [T.leaf]
           grind [T.leaf]
   grind [T.leaf]
  grind [T.leaf]
 grind [T.leaf]
theorem CD [bJ] {tt:TT} (cV:eJ P tt) {s s':St} (r:bS E s.h w) (hp:ca E.ρ s.pc) {t ty id t':Nat} {lo n:V} {v:Y} {u:Value} (hx:VR E w.heap (.u5 id lo n t') u) (h:(Av tt t id lo n t' s).leaf E.ρ=some (v,s')) :
 s'.bG=s.bG/\ca E.ρ s'.pc/\v=Y.undef/\∃w' E',(Builtin.clear_ #[t] ty #[u]).run P w= .ok (.tuple #[]) w'/\fj E s.h w E' s'.h w'/\bS E' s'.h w':=by
 unfold Av at h;split at h
 ·rename_i ti gp;split at h
  ·rename_i e hk;have hu:=fC (cV t ti gp) hk;split at h
   ·rename_i ie lG;obtain⟨inf,d,z,U,Z,h3,h4,h5,h6,h7,h8⟩:=(cV e ie lG).all;have hz:=fh (E:=E) (h:=w.heap) h4;split at h
    ·rename_i jV;obtain⟨l8,xL⟩:=jV;split at h
     ·grind [T.leaf]
     ·rename_i e0 A2 hva;have W:=nN hva;split at h
      ·grind [T.leaf]
      ·rename_i zz hzz;obtain⟨fW,fL,g1⟩:=cR hp h;split at g1
       ·grind [T.leaf]
       ·rename_i t1;obtain⟨kz,kg,g2⟩:=cR (s:={ s with pc:=fW }) fL g1;split at g2
        ·grind [T.leaf]
        ·rename_i t2;obtain⟨Vn,JC,g3⟩:=cR (s:={ s with pc:=kz }) kg g2;split at g3
         ·grind [T.leaf]
         ·rename_i t3;have:=bE g3;simp only [aq] at this;obtain⟨rfl,rfl⟩:=this;rw [eg,decide_eq_false_iff_not] at t1 t2;rw [gY,beq_iff_eq,pP,cL] at t3;simp only [VR] at hx;obtain⟨hid,l,k,a,cap,q1,q2,rfl,q4,q5⟩:=hx;have hlk:l+k=(dec (e0.den E.ρ)).l.length:=J
          have hn0:(dec (e0.den E.ρ)).l.length-l=k:=J
          have hwz:=uG (ρ:=E.ρ) hzz;have hrz:xA E.ro w.heap (rowOf t') (dec (zz.den E.ρ)) z.cells.toList:=uH hz.1 hzz
          have al6:cJ E w.heap (ic (rowOf t') (.eD (dec (zz.den E.ρ)))) z.cells.toList:=by
           rw [gD];simp only [V.den,bC]
           grind
          have ae5: ∀m:Nat,bH E.ρ (rowOf t') [] (List.replicate m (dec (zz.den E.ρ))) 0=dZ (ic (rowOf t') (.eD (dec (zz.den E.ρ)))) m:=by
           intro m
           induction m with
           |zero=>rfl
           |succ m ih=>
            simp only [an0,bH,ep,dZ]
            grind [lx]
          have hv:cJ E w.heap (bH E.ρ (rowOf t') [] (List.replicate k (dec (zz.den E.ρ))) 0) (dZ z.cells.toList k):=by
           grind [mP]
          obtain⟨w',f1,f2,f3⟩:=DI (P:=P) r W (n:=l) (mm:=k) J (amT) (fun d hd=>by rw [aok hd]; exact hwz) hv (fun u hu=>hz.2 u (mO hu)) (e1:=.op .fill e0 (eL (nO lo) zz)) (by
           simp only [eL,V.den,fT.den,bC,mf,D.n,q1,aX,hn0,hlk]
           rw [List.drop_length,amy])
          refine⟨rfl,JC,rfl,w',E,?_,f2,f3⟩;rcases am0 k with YB|YB
          ·subst YB;simp only [dZ] at f1
           have:w'=w:=by
            simp [storeCells] at f1
            grind
           subst this;simp [Builtin.clear_,run_underlying hu]
          ·have ha:a=⟨(E.θ id).1,(E.θ id).2+l*(rowOf t').es,none⟩:=by
            simp only [eZ] at q5
            grind
           have ae1:z.cells.toList≠[]:=by
            intro hx;have:=xA.length hrz
            grind
           have hzc:(Builtin.zeroCells z.cells k).toList=dZ z.cells.toList k:=ve z.cells ae1 k;subst ha;obtain⟨j,rfl⟩ : ∃j,k=j+1:=⟨k-1,J⟩;simp [Builtin.clear_,run_underlying hu,zeroValue,typeInfo,U,h3,hzc,f1]
    grind [T.leaf]
   grind [T.leaf]
  grind [T.leaf]
 grind [T.leaf]
end
theorem mT (l:List Nat):(lU l).l.length=l.length:=by simp [lU]
theorem UY {a b:List Nat} (h:lU a=lU b):a=b:=by
 have:=BT h
 induction a generalizing b with
 |nil=>cases b with
  |nil=>rfl
  |cons y b=>simp at this
 |cons x a ih=>cases b with
  |nil=>simp at this
  |cons y b=> simp only [aH,List.cons.injEq,D.i.injEq,Int.ofNat_eq_natCast,ant] at this;rw [this.1,ih (b:=b) (by unfold lU; exact congrArg dL (by simpa using this.2)) (by simpa using this.2)]
theorem FM: ∀(x y:List Nat),MU (x.map fun b=>D.i (Int.ofNat b)) (y.map fun b=>D.i (Int.ofNat b))=bytesLess x y
 |[],[]=>rfl
 |[],_::_=>rfl
 |_::_,[]=>rfl
 |a::x,b::y=>by
  simp only [aH,MU,bytesLess,D.n,FM x y];have i1:(Int.ofNat a<Int.ofNat b)=(a<b):=propext anD;have i2:(Int.ofNat b<Int.ofNat a)=(b<a):=propext anD;simp only [i1,i2];rcases an1 a b with h|h|h
  ·simp_all
  ·simp_all
  ·have Z:a.blt b=false:=by rw [am5]; simp [Nat.blt]; omega
   have h3:a.beq b=false:=by rw [am5]; simp; omega
   grind
section
variable {P:Program} {E:En} {w:World}
theorem VR.aad {h:Array Obj} {e:V} {v:Value} (hv:VR E h (.kG e) v): ∃l:List Nat,v= .string (dy l)/\(∀b∈l,b<256)/\dec (e.den E.ρ)=lU l:=by
 simp only [VR] at hv;obtain⟨s,rfl,hs⟩:=hv.string;refine⟨bytesOf s,by rw [lD],yK s,?_⟩
 grind [AB,yK,lD,uD,dy]
theorem VR.XS {h:Array Obj} {e:V} {l:List Nat} (W: ∀b∈l,b<256) (he:dec (e.den E.ρ)=lU l):VR E h (.kG e) (.string (dy l)):=by
 simp only [VR];rw [he,AB _ W];have:=Rd.str (ro:=E.ro) (h:=h) (dy l)
 grind [uD,dy]
theorem DW {h:Array Obj} {x:Y} {u:Value} {e:V} (hx:VR E h x u) (hs:uL x=some e): ∃l:List Nat,u= .string (dy l)/\(∀b∈l,b<256)/\dec (e.den E.ρ)=lU l:=by
 unfold uL at hs;split at hs
 ·simp only [an] at hs;subst hs;simp only [VR] at hx;exact⟨_,hx.1,hx.2,by simp only [V.den,bC]⟩
 ·simp only [an] at hs;subst hs;exact hx.aad
 grind
theorem Pd {tt:TT} (cV:eJ P tt) {s s':St} (hp:ca E.ρ s.pc) {ty:Nat} {e:V} {ix v:Y} {u ui:Value} (hx:VR E w.heap (.kG e) u) (zV:VR E w.heap ix ui) (h:(JZ tt s ty e ix).leaf E.ρ=some (v,s')) :
 s'.bG=s.bG/\s'.h=s.h/\ca E.ρ s'.pc/\∃r,(Instr.index ty u ui).run P w= .ok r w/\VR E w.heap v r:=by
 unfold JZ at h;split at h
 ·rename_i kd i;split at h
  ·rename_i ti gp;split at h
   ·rename_i hk;obtain⟨ew,fQ,U,Z,h3⟩:=n8 hp h;have:=bE h3;simp only [aq] at this;obtain⟨rfl,rfl⟩:=this;refine⟨rfl,rfl,fQ,?_⟩;obtain⟨l,rfl,hb,hd⟩:=hx.aad;simp only [VR] at zV;subst zV;rw [cL,hd,mT] at Z;obtain⟨k,Cu⟩ : ∃k:Nat,i.den E.ρ=(k:Int):=⟨(i.den E.ρ).toNat,J⟩;have gu:k<l.length:=J
    have hg:(dy l)[k]?=some (UInt8.ofNat l[k]):=by rw [DY,aT gu]; rfl
    have alb:=hb l[k] (aG gu);rw [Cu];refine⟨_,by simp [Instr.index,asIntOf,run_underlying (fX (cV ty ti gp) hk),hg]; rfl,?_⟩
    have Vt:(dec (e.den E.ρ)).l[k]?=some (.i (Int.ofNat l[k])):=by rw [hd];simp only [lU,bD,bp,aT gu,amu]
    simp only [VR,A8,BY E.ρ e i Cu Vt,D.n]
    grind
   grind [T.leaf]
  grind [T.leaf]
 grind [T.leaf]
theorem Pc {tt:TT} (cV:eJ P tt) {s s':St} (hp:ca E.ρ s.pc) {ty:Nat} {e:V} {lo hi mx:Option Y} {yP hi' mx':Option Value} {v:Y} {u:Value} (hx:VR E w.heap (.kG e) u)
 (oU:gF E w.heap lo yP) (yU:gF E w.heap hi hi') (yA:gF E w.heap mx mx') (h:(JY tt s ty e lo hi mx).leaf E.ρ=some (v,s')) :
 s'.bG=s.bG/\s'.h=s.h/\ca E.ρ s'.pc/\∃r,(Instr.sliceAt ty u yP hi' mx').run P w= .ok r w/\VR E w.heap v r:=by
 unfold JY at h;split at h
 ·grind [T.leaf]
 ·simp only [gF] at yA;subst yA;split at h
  ·grind [T.leaf]
  ·rename_i ti gp;split at h
   ·rename_i hk;have hu:=fX (cV ty ti gp) hk;split at h
    ·grind [T.leaf]
    ·rename_i ql hql;split at h
     ·grind [T.leaf]
     ·rename_i qh hqh;obtain⟨fW,fL,U⟩:=cR hp h;split at U
      ·grind [T.leaf]
      ·rename_i t1;obtain⟨kz,kg,Z⟩:=cR (s:={ s with pc:=fW }) fL U;split at Z
       ·grind [T.leaf]
       ·rename_i t2;obtain⟨Vn,JC,h3⟩:=cR (s:={ s with pc:=kz }) kg Z;split at h3
        ·grind [T.leaf]
        ·rename_i t3;have:=bE h3;simp only [aq] at this;obtain⟨rfl,rfl⟩:=this;refine⟨rfl,rfl,JC,?_⟩;obtain⟨l,rfl,hb,hd⟩:=hx.aad;rw [eg,decide_eq_false_iff_not] at t1 t2 t3;rw [cL,hd,mT] at t3;simp only [V.den,amZ] at t1;obtain⟨a,ha⟩ : ∃a:Nat,ql.den E.ρ=(a:Int):=⟨(ql.den E.ρ).toNat,J⟩;obtain⟨b,NJ⟩ : ∃b:Nat,qh.den E.ρ=(b:Int):=⟨(qh.den E.ρ).toNat,J⟩;have hle:b<=l.length:=J
         have Vw:a<=b:=J
         obtain⟨Vo,YA,nS⟩:=X7 hql oU ha
         have afb: ∃JF,gF E w.heap JF hi'/\oh JF l.length l.length=some b:=by
          unfold hiE at hqh;split at hqh
          ·simp only [an] at hqh;subst hqh;rw [cL,hd,mT] at NJ;have:b=l.length:=J
           grind [oh]
          ·split at hqh
           ·simp only [an] at hqh;subst hqh;exact⟨_,Dn NJ yU,DE hle⟩
           grind
         obtain⟨JF,afb,AW⟩:=afb;obtain⟨e1,e2⟩:=gm (P:=P) (w:=w) (isSlice:=false) (len:=l.length) (cap:=l.length) (m0:=l.length) (d:=0) YA afb (mx:=none) (mx':=none) rfl ad (.inl ⟨rfl,rfl,ay _⟩) AW ⟨fun _=>ay _,ad⟩ (nS b Vw);refine⟨.string ((dy l).extract a b),?_,?_⟩
         ·rw [<- lC] at e1;simp [Instr.sliceAt,run_underlying hu,Instr.slice,e1]
         ·rw [tz];refine VR.XS (fun c hc=>hb c (amo (amn hc))) ?_;simp only [eL,V.den,fT.den,bC,mf,D.hd,D.l,aL,aM,ax,D.n,ha,NJ,aX,hd];simp only [lU,bD,anx,anz]
   grind [T.leaf]
theorem IY {x y:Y} {a b:V} (h:C9 x y=some (a,b)):uL x=some a/\uL y=some b:=by
 grind [C9]
theorem GQ (ρ:Nat->Int) {a b:V} {x y:List Nat} (ha:dec (a.den ρ)=lU x) (hb:dec (b.den ρ)=lU y):(GR a b).den ρ=bytesLess x y:=by
 simp only [GR,SB.den,V.den,fT.den,ha,hb,lU,bD]
 grind [FM]
theorem AI: ∀(x y:List Nat),(bytesLess x y||iu x y)=!(bytesLess y x)
 |[],[]=>rfl
 |[],_::_=>rfl
 |_::_,[]=>rfl
 |a::x,b::y=>by
  have ih:=AI x y;simp only [bytesLess,iu];rcases an1 a b with h|h|h
  ·have U:a.blt b=true:=by simp [Nat.blt]; omega
   have Z:b.blt a=false:=by rw [am5]; simp [Nat.blt]; omega
   have h3:b.beq a=false:=by rw [am5]; simp; omega
   grind
  ·simp_all
  ·have U:b.blt a=true:=by simp [Nat.blt]; omega
   have Z:a.blt b=false:=by rw [am5]; simp [Nat.blt]; omega
   have h3:a.beq b=false:=by rw [am5]; simp; omega
   grind
theorem UK {s s':St} (hp:ca E.ρ s.pc) {t:Nat} {op:BinOp} {x y v:Y} {a b:V} {u u':Value} (hx:VR E w.heap x u) (hy:VR E w.heap y u') (hs:C9 x y=some (a,b)) (h:(Pe op a b s).leaf E.ρ=some (v,s')) :
 s'.bG=s.bG/\s'.h=s.h/\ca E.ρ s'.pc/\(∃r,(binOp op t u u').run P w= .ok r w/\VR E w.heap v r)/\(∀cs ds,¬(u= .agg cs/\u'= .agg ds))/\¬(u= .nilIface/\u'= .nilIface):=by
 obtain⟨hsx,hsy⟩:=IY hs;obtain⟨l,rfl,nS,hdl⟩:=DW hx hsx;obtain⟨m,rfl,EV,uO⟩:=DW hy hsy
 have heq:((qW (nk a) (nk b)).den E.ρ)=iu l m:=by
  grind [iZ,mA,mG,UY,fg]
 have gB:(∀cs ds,¬(Value.string (dy l)= .agg cs/\Value.string (dy m)= .agg ds))/\¬(Value.string (dy l)= .nilIface/\Value.string (dy m)= .nilIface):=⟨ad,ad⟩
 have fin: ∀(c:Y) (o:BinOp),Ln o l m=some c->(∀q,VR E w.heap c q->VR E w.heap v q)->(∀q,(Op.stringOp o (dy l) (dy m)).run P w= .ok q w->(binOp o t (.string (dy l)) (.string (dy m))).run P w= .ok q w)->
  ∃r,(binOp o t (.string (dy l)) (.string (dy m))).run P w= .ok r w/\VR E w.heap v r:=by
  intro c o ho hc hq;obtain⟨r,U,Z⟩:=Lm (P:=P) (E:=E) (w:=w) nS EV ho;exact⟨r,hq _ U,hc r Z⟩
 unfold Pe at h;split at h
 ·obtain⟨fW,fL,U⟩:=cR hp h;split at U
  ·grind [T.leaf]
  ·rename_i t1;obtain⟨kz,kg,Z⟩:=cR (s:={ s with pc:=fW }) fL U;split at Z
   ·grind [T.leaf]
   ·rename_i t2;have:=bE Z;simp only [aq] at this;obtain⟨rfl,rfl⟩:=this;rw [eg,decide_eq_true_eq,cL,hdl,mT] at t1;rw [eg,decide_eq_true_eq,cL,uO,mT] at t2;simp only [V.den] at t1 t2;refine⟨rfl,rfl,kg,⟨.string (dy (l++m)),?_,?_⟩,gB⟩
    ·have hm:IntKind.i64.max=9223372036854775807:=ae
     have:(Op.stringOp .add (dy l) (dy m)).run P w= .ok (.string (dy l++dy m)) w:=by simp only [Op.stringOp,lC,hm];rw [ah J];rfl
     have e:dy l++dy m=dy (l++m):=by apply ByteArray.ext;simp [dy]
     rw [e] at this;simpa [binOp] using this
    ·refine VR.XS (fun c hc=>?_) ?_
     ·grind
     ·simp only [V.den,fT.den,bC,hdl,uO];simp only [lU,bD,amK]
 all_goals first
  |(simp [T.leaf] at h; done)
  |(have:=bE h
    simp only [aq] at this;obtain⟨rfl,rfl⟩:=this;refine⟨rfl,rfl,hp,?_,gB⟩;refine fin _ _ rfl (fun q hq=>?_) (fun q hq=>by simpa [binOp] using hq);simp only [VR,SB.den,nP] at hq ⊢
    first
     |(rw [heq]; exact hq)
     |(rw [GQ E.ρ hdl uO]; exact hq)
     |(rw [GQ E.ρ uO hdl]; rw [AI] at hq; simpa using hq))
theorem Pv [bJ] {tt:TT} (cV:eJ P tt) {s s':St} (r:bS E s.h w) (hp:ca E.ρ s.pc) {sT dT:Nat} {e:V} {v:Y} {u:Value} (hx:VR E w.heap (.kG e) u) (h:(Dy tt sT dT e s).leaf E.ρ=some (v,s')) :
 s'.bG=s.bG/\ca E.ρ s'.pc/\∃y w' E',(convert sT dT u).run P w= .ok y w'/\fj E s.h w E' s'.h w'/\bS E' s'.h w'/\VR E' w'.heap v y:=by
 unfold Dy at h;split at h
 ·grind [T.leaf]
 ·rename_i j hj;split at h
  ·rename_i hjk;split at h
   ·grind [T.leaf]
   ·rename_i i hi;split at h
    ·rename_i el hik;split at h
     ·rename_i ie lG;split at h
      ·rename_i k amh;split at h
       ·obtain⟨l,rfl,hb,hd⟩:=hx.aad
        have NI:pM tt sT dT (.str l) s.h=some (.slice s.h.fresh 0 l.length (.rest 1),s.h.new (.cells (l.map fun c=> .int .u8 (.lit (Int.ofNat c))) el)):=by
         grind [pM]
        obtain⟨y,w',E',g1,g2,g3,g4⟩:=Au (P:=P) cV r (x:=.str l) (u:=.string (dy l)) (by simp only [VR]; exact⟨trivial,hb⟩) NI;obtain⟨fW,fL,U⟩:=cR hp h;rw [iZ,cL,hd,mT] at U;split at U
        ·rename_i hz;have:=bE U;simp only [aq] at this;obtain⟨rfl,rfl⟩:=this;simp only [V.den,beq_iff_eq] at hz
         grind
        ·rename_i hz;have:=bE U;simp only [aq] at this;obtain⟨rfl,rfl⟩:=this;simp only [V.den,beq_eq_false_iff_ne,ne_eq] at hz;have EU:dec (e.den E'.ρ)=lU l:=by rw [g2.ρ]; exact hd
         have Vu:cW E'.ρ e 14 []=l.map fun c=>Y.int .u8 (.lit (Int.ofNat c)):=by
          unfold cW;rw [EU];simp only [lU,bD]
          have: ∀(l:List Nat) (i:Nat),bH E'.ρ (rowOf 14) [] (l.map fun b=>D.i (Int.ofNat b)) i=l.map fun c=>Y.int .u8 (.lit (Int.ofNat c)):=by
           intro l
           induction l with
           |nil=>intro i; rfl
           |cons a l ih=> intro i;simp only [aH,bH,ep,ih];rfl
          grind
         have r2:=Dj (e1:=e) (t:=14) g3 (by
          rw [EU];refine⟨by simp only [lU,bD],fun x hx=>?_,fun q=>?_⟩
          ·simp only [lU,bD,bd] at hx;obtain⟨b,_,rfl⟩:=hx;rfl
          ·have:=congrArg List.length q;rw [mT] at this
           exact hz (by simp at this; simp [this])) (by rw [Vu]) (fun us hu=>by rw [Vu]; exact hu)
         refine⟨rfl,fL,y,w',E',g1,g2.right (wQ rfl rfl fun _=>rfl),r2,?_⟩;simp only [VR] at g4 ⊢;obtain⟨q1,a,cap,q2,q3,q4⟩:=g4;exact⟨q1,l.length,a,cap,by rw [cL,EU,mT],q2,q3,q4⟩
       grind [T.leaf]
      grind [T.leaf]
     grind [T.leaf]
    grind [T.leaf]
  grind [T.leaf]
end
section
variable {P:Program} {E:En} {w:World}
def RD (c:CK):Prop:=(∃k,c= .int k)\/c= .str
theorem Hy (t:Nat):RD (mapOf t).1:=by
 unfold mapOf;split<;>first |exact .inl ⟨_,rfl⟩|exact .inr rfl
theorem bytes_beq (p q:ByteArray):(p == q)=decide (p=q):=by
 rw [amA,decide_eq_true_eq];have e:(p == q)=(p.data == q.data):=rfl;rw [e,beq_iff_eq];constructor
 ·intro h; cases p; cases q; simp only at h; rw [h]
 grind
theorem L0 {ro:Nat->Prop} {h:Array Obj} {c:CK} (hc:RD c) {dt:TypeDesc} (hd:yO dt (Cq c)) {d d':D} {u u':Value} (r:Rd ro h c d u) (r':Rd ro h c d' u') :
 Instr.sameNow dt u u'=some (decide (d=d'))/\(d=d'->∀n,Instr.sameBits (n+1) u' u=true):=by
 rcases hc with ⟨k,rfl⟩|rfl
 ·simp only [Cq] at hd;obtain⟨k',rfl⟩:=hd
  cases r with
  |int _ n=>
   cases r' with
   |int _ m=>
    refine⟨?_,fun hh n=>?_⟩
    ·simp only [Instr.sameNow,D.i.injEq]
     grind
    ·simp only [D.i.injEq] at hh;subst hh;simp [Instr.sameBits]
 ·simp only [Cq] at hd;simp only [yO] at hd;subst hd;obtain⟨a,rfl,rfl⟩:=r.string;obtain⟨b,rfl,rfl⟩:=r'.string;refine⟨?_,fun hh n=>?_⟩
  ·simp only [Instr.sameNow,bytes_beq];congr 1
   grind [FJ]
  ·have:=FJ hh;subst this;simp [Instr.sameBits,bytes_beq]
theorem Ah {ro:Nat->Prop} {h:Array Obj} {t:Nat} {dt:TypeDesc} (hd:yO dt (Cq (mapOf t).1)) {kd:D} {u:Value} (hk:Rd ro h (mapOf t).1 kd u): ∀{ds:List D} {bT:List MapEntry} {i:Nat},
 lB ro h t ds bT->
 (dj ds kd=none/\Instr.findNow dt u bT i=some none/\(∀v,jS ds kd v=ds++ [.p kd v])/\zF ds kd=ds)\/
 (∃j x e,dj ds kd=some x/\bT[j]?=some e/\Rd ro h (mapOf t).2 x e.val/\Instr.findNow dt u bT i=some (some (i+j,e.val))/\(∀n,Instr.sameBits (n+1) e.key u=true)/\(∀v,jS ds kd v=ds.set j (.p kd v))/\zF ds kd=ds.eraseIdx j)
 |[],bT,i,he=>by simp only [lB] at he;subst he;exact .inl ⟨rfl,by simp [Instr.findNow],fun _=>rfl,rfl⟩
 |d::ds,bT,i,he=>by
  obtain⟨e,r,rfl,U,Z,h3,h4⟩:=he;obtain⟨g1,g2⟩:=L0 (Hy t) hd hk Z;by_cases yT:jl d=kd
  ·have R6:Instr.sameNow dt u e.key=some true:=by rw [g1,decide_eq_true yT.symm]
   refine .inr ⟨0,Gx d,e,by simp only [dj,ak yT],rfl,h3,by simp [Instr.findNow,R6],g2 yT.symm,fun v=>by simp only [jS,ak yT,am3],by simp only [zF,ak yT,List.eraseIdx_cons_zero]⟩
  ·have R6:Instr.sameNow dt u e.key=some false:=by rw [g1,decide_eq_false (fun q=>yT q.symm)]
   rcases Ah (i:=i+1) hd hk h4 with ⟨q1,q2,q3,q4⟩|⟨j,x,e',q1,q2,q3,q4,q5,q6,q7⟩
   ·exact .inl ⟨by simp only [dj,ah yT,q1],by simp [Instr.findNow,R6,q2],fun v=>by simp only [jS,ah yT,q3,aW],by simp only [zF,ah yT,q4]⟩
   ·refine .inr ⟨j+1,x,e',by simp only [dj,ah yT,q1],by simpa using q2,q3,?_,q5,fun v=>by simp only [jS,ah yT,q6,am4],by simp only [zF,ah yT,q7,anR]⟩;simp only [Instr.findNow,R6,q4]; congr 3; omega
theorem lB.set {ro:Nat->Prop} {h:Array Obj} {t:Nat} {kd vd:D} {uk uv:Value} (hk:Rd ro h (mapOf t).1 kd uk) (hv:Rd ro h (mapOf t).2 vd uv): ∀{ds:List D} {bT:List MapEntry} {i:Nat} {e:MapEntry},lB ro h t ds bT->bT[i]?=some e->
 lB ro h t (ds.set i (.p kd vd)) (bT.set i { e with key:=uk,val:=uv })
 |[],bT,i,e,he,hi=>by simp only [lB] at he; subst he; simp at hi
 |d::ds,bT,0,e,he,hi=>by obtain⟨e0,r,rfl,U,Z,h3,h4⟩:=he;simp at hi;subst hi;simp only [am3];exact⟨_,r,rfl,rfl,hk,hv,h4⟩
 |d::ds,bT,i+1,e,he,hi=>by obtain⟨e0,r,rfl,U,Z,h3,h4⟩:=he;simp only [am4];exact⟨e0,_,rfl,U,Z,h3,lB.set hk hv h4 (by simpa using hi)⟩
theorem lB.push {ro:Nat->Prop} {h:Array Obj} {t:Nat} {kd vd:D} {uk uv:Value} {c:Nat} (hk:Rd ro h (mapOf t).1 kd uk) (hv:Rd ro h (mapOf t).2 vd uv): ∀{ds:List D} {bT:List MapEntry},lB ro h t ds bT->
 lB ro h t (ds++ [.p kd vd]) (bT++ [{ key:=uk,val:=uv,born:=c }])
 |[],bT,he=>by simp only [lB] at he;subst he;exact⟨_,[],rfl,rfl,hk,hv,rfl⟩
 |d::ds,bT,he=>by obtain⟨e0,r,rfl,U,Z,h3,h4⟩:=he;simp only [aW];exact⟨e0,_,rfl,U,Z,h3,lB.push hk hv h4⟩
theorem lB.erase {ro:Nat->Prop} {h:Array Obj} {t:Nat}: ∀{ds:List D} {bT:List MapEntry} {i:Nat},lB ro h t ds bT->lB ro h t (ds.eraseIdx i) (bT.eraseIdx i)
 |[],bT,i,he=>by simp only [lB] at he; subst he; simp [lB]
 |d::ds,bT,0,he=>by
  obtain⟨e0,r,rfl,U,Z,h3,h4⟩:=he
  grind
 |d::ds,bT,i+1,he=>by obtain⟨e0,r,rfl,U,Z,h3,h4⟩:=he;simp only [anR];exact⟨e0,_,rfl,U,Z,h3,lB.erase h4⟩
theorem yp {m:Y} {h:Hp} {id t:Nat} {e:V} (hm:xJ m h=some (id,e,t)):m= .map id/\h.get id=some (.kQ e t):=by
 unfold xJ at hm
 grind
theorem Bo {tt:TT} (cV:eJ P tt) {h:Array Obj} {ty t:Nat} {k:Y} {uk:Value} {a:V} {ie:TI} (hk:VR E h k uk) (hm:mapKey tt ty t k=some (a,ie)) :
 ∃kt et dt,P.underlying ty=some (.map kt et)/\P.underlying kt=some dt/\yO dt (Cq (mapOf t).1)/\nC P et ie/\Rd E.ro h (mapOf t).1 (dec (a.den E.ρ)) uk:=by
 unfold mapKey at hm;split at hm
 ·grind
 ·rename_i ti gp;split at hm
  ·rename_i kt et zT;split at hm
   ·grind
   ·rename_i ki C?;split at hm
    ·rename_i xu;split at hm
     ·grind
     ·rename_i ie' lG;split at hm
      ·grind
      ·rename_i a0 ha0;simp only [an,aq] at hm;obtain⟨rfl,rfl⟩:=hm;have hu:=wB (cV ty ti gp) zT
       have yT: ∃dt,P.underlying kt=some dt/\yO dt (Cq (mapOf t).1):=by
        rcases Hy t with ⟨q,hq⟩|hq
        ·rw [hq] at xu ⊢;exact⟨_,tx (cV kt ki C?) xu,q,rfl⟩
        ·rw [hq] at xu ⊢;exact⟨_,fX (cV kt ki C?) xu,rfl⟩
       obtain⟨dt,U,Z⟩:=yT;refine⟨kt,et,dt,hu,U,Z,cV et ie' lG,?_⟩;rw [mA,bC];exact (lL hk ha0).rd (nW ha0)
    grind
  grind
theorem Bn [bJ] {H:Hp} (r:bS E H w) {id t:Nat} {e:V} (W:H.get id=some (.kQ e t)): ∃bT c',w.heap[(E.θ id).1]?=some (.map bT c')/\lB E.ro w.heap t (dec (e.den E.ρ)).l bT.toList:=
 (r.live id _ W).2.1
theorem mU {t:Nat} {c:CK} {d:TypeDesc} (hu:P.underlying t=some d) (hd:yO d (Cq c)) (b:Bool) (v:Value):(Instr.checkKey b 10000 t v).run P w= .ok () w:=e8 hu hd b v
theorem wY {ρ:Nat->Int} (e a:V):(HR e a).den ρ=((V.op .OE e a).den ρ == (V.lit 0).den ρ):=by
 unfold HR;split
 ·split
  ·simp only [SB.den,V.den,fT.den,bC]
   grind
  ·rfl
 ·rfl
theorem Pm [bJ] {tt:TT} (cV:eJ P tt) {s s':St} (r:bS E s.h w) (hp:ca E.ρ s.pc) {ty id t:Nat} {m k v:Y} {e:V} {um uk:Value} {ok:Bool} (hm:VR E w.heap m um) (hk:VR E w.heap k uk) (hD:xJ m s.h=some (id,e,t)) (h:(Ap tt ty k ok e t s).leaf E.ρ=some (v,s')) :
 s'.bG=s.bG/\s'.h=s.h/\ca E.ρ s'.pc/\∃x,(Instr.lookup ty um uk ok).run P w= .ok x w/\VR E w.heap v x:=by
 obtain⟨rfl,W⟩:=yp hD
 unfold Ap at h;split at h
 ·grind [T.leaf]
 ·rename_i a ie hmk;obtain⟨kt,et,dt,hu,rb,jK,lG,hrk⟩:=Bo cV hk hmk;split at h
  ·grind [T.leaf]
  ·rename_i z hz;obtain⟨u0,z1,z2⟩:=A1 (P:=P) (w:=w) (E:=E) lG hz;obtain⟨bT,c',g1,g2⟩:=Bn r W;have hg:=gU (P:=P) g1 ad;simp only [VR] at hm;obtain⟨rfl,hid⟩:=hm;have hf:=Ah (i:=0) jK hrk g2;obtain⟨fW,fL,U⟩:=cR hp h;rw [wY] at U;simp only [V.den,fT.den] at U;rcases hf with ⟨q1,q2,_,_⟩|⟨j,x,en,q1,q2,q3,q4,q5,_,_⟩
   ·rw [q1] at U;have:=bE U;simp only [aq] at this;obtain⟨rfl,rfl⟩:=this;refine⟨rfl,rfl,fL,(if ok then .tuple #[u0,.bool false] else u0),?_,?_⟩
    ·cases ok<;>simp [Instr.lookup,run_underlying hu,hg,mU rb jK,eU rb q2,z1]
    ·cases ok
     ·exact z2
     ·simp only [if_true,VR,cJ];simp_all [z2,SB.den]
   ·rw [q1] at U;have:=bE U;simp only [aq] at this;obtain⟨rfl,rfl⟩:=this
    have Gu:VR E w.heap (r9 (mapOf t).2 (.op .Gq e a)) en.val:=by rw [nY];simp only [V.den,fT.den,bC,q1,ax];exact q3.cell
    refine⟨rfl,rfl,fL,(if ok then .tuple #[en.val,.bool true] else en.val),?_,?_⟩
    ·cases ok<;>simp [Instr.lookup,run_underlying hu,hg,mU rb jK,eU rb q4]
    ·cases ok
     ·grind
     ·simp only [if_true,VR,cJ]
      grind [SB.den]
theorem UL [bJ] {tt:TT} (cV:eJ P tt) {s s':St} (r:bS E s.h w) {ty id t:Nat} {m k x v:Y} {e:V} {um uk ux:Value} (hm:VR E w.heap m um) (hk:VR E w.heap k uk) (hx:VR E w.heap x ux) (hD:xJ m s.h=some (id,e,t)) (h:(Ph tt ty id k x e t s).leaf E.ρ=some (v,s')) :
 s'.bG=s.bG/\s'.pc=s.pc/\v=Y.undef/\∃w',(Instr.mapUpdate ty um uk ux).run P w= .ok () w'/\fj E s.h w E s'.h w'/\bS E s'.h w':=by
 obtain⟨rfl,W⟩:=yp hD
 unfold Ph at h;split at h
 ·grind [T.leaf]
 ·rename_i a ie hmk;obtain⟨kt,et,dt,hu,rb,jK,lG,hrk⟩:=Bo cV hk hmk;split at h
  ·grind [T.leaf]
  ·rename_i b hb;have:=bE h;simp only [aq] at this;obtain⟨rfl,rfl⟩:=this;have hrx:=(lL hx hb).rd (nW hb);obtain⟨bT,c',g1,g2⟩:=Bn r W;have hg:=gU (P:=P) g1 ad;simp only [VR] at hm;obtain⟨rfl,hid⟩:=hm;refine⟨rfl,rfl,rfl,?_⟩
   have qc:dec ((V.op .zD e (eL a b)).den E.ρ)=dL (jS (dec (e.den E.ρ)).l (dec (a.den E.ρ)) (dec (b.den E.ρ))):=by simp only [eL,V.den,fT.den,bC]
   rcases Ah (i:=0) jK hrk g2 with ⟨q1,q2,q3,_⟩|⟨j,y,en,q1,q2,q3,q4,q5,q6,_⟩
   ·refine⟨_,?_,jc r W (.kQ (.op .zD e (eL a b)) t) (.map (bT.push { key:=uk,val:=ux,born:=c' }) (c'+1)) ?_⟩
    ·simp [Instr.mapUpdate,run_underlying hu,hg,mU rb jK,eU rb q2,iF (P:=P) g1]
    ·intro h' hh kp;simp only [OR];refine⟨_,_,hh,?_⟩;rw [qc,bD,q3,Array.toList_push];exact lB.push (hrk.cD kp.ro kp.Cb) (hrx.cD kp.ro kp.Cb) (g2.cD kp.ro kp.Cb)
   ·simp only [aK] at q4
    have hkt:(Instr.keyThatStays (((bT[j]?).map (·.key)).getD uk) uk).run P w= .ok uk w:=by have q2':=q2;rw [amp] at q2';simp only [q2',amu,ax,Instr.keyThatStays];simp_all
    refine⟨_,?_,jc r W (.kQ (.op .zD e (eL a b)) t) (.map (bT.modify j fun e=>{ e with key:=uk,val:=ux }) c') ?_⟩
    ·simp [Instr.mapUpdate,run_underlying hu,hg,mU rb jK,eU rb q4,hkt,iF (P:=P) g1]
    ·intro h' hh kp;simp only [OR];refine⟨_,_,hh,?_⟩;rw [qc,bD,q6,yo bT j en _ q2];exact lB.set (hrk.cD kp.ro kp.Cb) (hrx.cD kp.ro kp.Cb) (g2.cD kp.ro kp.Cb) q2
theorem Ie [bJ] {tt:TT} (cV:eJ P tt) {s s':St} (r:bS E s.h w) (hp:ca E.ρ s.pc) {ty:Nat} {m k x v:Y} {um uk ux:Value} (hm:VR E w.heap m um) (hk:VR E w.heap k uk) (hx:VR E w.heap x ux) (h:(J4 tt ty m k x s).leaf E.ρ=some (v,s')) :
 s'.bG=s.bG/\ca E.ρ s'.pc/\v=Y.undef/\∃w' E',(Instr.mapUpdate ty um uk ux).run P w= .ok () w'/\fj E s.h w E' s'.h w'/\bS E' s'.h w':=by
 unfold J4 at h;obtain⟨vs,U,fW,E1,fL,f,q,g⟩:=qu rfl r hp h;have hρ:=f.ρ;rw [<- hρ] at fL g;have hv:=q [ux] (by simp only [cJ]; exact⟨ux,[],rfl,hx,rfl⟩);split at g
 ·rename_i x1;simp only [cJ] at hv;obtain⟨u1,us1,e1,hx1,e2⟩:=hv;subst e2;simp only [List.cons.injEq,and_true] at e1;subst e1;split at g
  ·rename_i id e t hD
   obtain⟨a1,a2,a3,w',a4,a5,a6⟩:=UL cV (s:={ s with h:=U,pc:=fW }) f.rel (VR.cD (f.ei.keeps r) _ _ hm) (VR.cD (f.ei.keeps r) _ _ hk) hx1 hD g;exact⟨a1,by rw [a2,<- hρ]; exact fL,a3,w',E1,a4,f.ei.trans a5,a6⟩
  grind [T.leaf]
 grind [T.leaf]
theorem UQ [bJ] {tt:TT} (cV:eJ P tt) {s s':St} (r:bS E s.h w) {ty id t ts:Nat} {m k v:Y} {e:V} {um uk:Value} (hm:VR E w.heap m um) (hk:VR E w.heap k uk) (hD:xJ m s.h=some (id,e,t)) (h:(Pr tt ty id k e t s).leaf E.ρ=some (v,s')) (tr:Nat) :
 s'.bG=s.bG/\s'.pc=s.pc/\v=Y.undef/\∃w',(Builtin.delete_ #[ty,ts] tr #[um,uk]).run P w= .ok (.tuple #[]) w'/\fj E s.h w E s'.h w'/\bS E s'.h w':=by
 obtain⟨rfl,W⟩:=yp hD
 unfold Pr at h;split at h
 ·grind [T.leaf]
 ·rename_i a ie hmk;obtain⟨kt,et,dt,hu,rb,jK,lG,hrk⟩:=Bo cV hk hmk;have:=bE h;simp only [aq] at this;obtain⟨rfl,rfl⟩:=this;obtain⟨bT,c',g1,g2⟩:=Bn r W;have hg:=gU (P:=P) g1 ad;simp only [VR] at hm;obtain⟨rfl,hid⟩:=hm;refine⟨rfl,rfl,rfl,?_⟩
  have qc:dec ((V.op .Gt e a).den E.ρ)=dL (zF (dec (e.den E.ρ)).l (dec (a.den E.ρ))):=by simp only [V.den,fT.den,bC]
  rcases Ah (i:=0) jK hrk g2 with ⟨q1,q2,_,q3⟩|⟨j,y,en,q1,q2,q3,q4,q5,_,q6⟩
  ·refine⟨_,?_,jc r W (.kQ (.op .Gt e a) t) (.map bT c') ?_⟩
   ·simp [Builtin.delete_,run_underlying hu,hg,mU rb jK,eU rb q2,iF (P:=P) g1]
   ·intro h' hh kp;simp only [OR];refine⟨_,_,hh,?_⟩;rw [qc,bD,q3];exact g2.cD kp.ro kp.Cb
  ·simp only [aK] at q4;refine⟨_,?_,jc r W (.kQ (.op .Gt e a) t) (.map (bT.eraseIdxIfInBounds j) c') ?_⟩
   ·simp [Builtin.delete_,run_underlying hu,hg,mU rb jK,eU rb q4,iF (P:=P) g1]
   ·intro h' hh kp;simp only [OR];refine⟨_,_,hh,?_⟩;have dU:j<bT.size:=by have:=(bk.1 q2).1; simpa using this
    have:(bT.eraseIdxIfInBounds j).toList=bT.toList.eraseIdx j:=by simp_all
    rw [this,qc,bD,q6];exact lB.erase (g2.cD kp.ro kp.Cb)
end
section
variable {P:Program} {E:En} {w:World}
theorem E9 {m:Y} {h:Hp} {id t:Nat} {e:V} {fq:List Nat} {ov:List (V×Y)} (hm:Fa m h=some (id,e,t,fq,ov)):m= .map id/\h.get id=some (.uo e t fq ov):=by
 unfold Fa at hm;split at hm
 ·split at hm
  ·rename_i o ho;split at hm
   ·simp only [an,aq] at hm;obtain⟨rfl,rfl,rfl,rfl,rfl⟩:=hm;exact⟨rfl,ho⟩
   ·simp at hm
  ·simp at hm
 ·simp at hm
theorem H7 {tt:TT} (cV:eJ P tt) {h:Array Obj} {ty:Nat} {k:Y} {uk:Value} {x:V} {ie:TI} (hk:VR E h k uk) (hm:JU tt ty k=some (x,ie)) :
 ∃kt et dt,P.underlying ty=some (.map kt et)/\P.underlying kt=some dt/\yO dt (.int .i64)/\nC P et ie/\uk= .int .i64 (x.den E.ρ):=by
 unfold JU at hm;split at hm
 ·simp at hm
 ·rename_i ti gp;split at hm
  ·rename_i kt et zT;split at hm
   ·simp at hm
   ·rename_i ki C?;split at hm
    ·rename_i xu;split at hm
     ·simp at hm
     ·rename_i ie' lG;split at hm
      ·split at hm
       ·rename_i kk y akS;simp only [an,aq] at hm;obtain⟨rfl,rfl⟩:=hm;subst akS;simp only [VR] at hk;exact⟨kt,et,_,wB (cV ty ti gp) zT,tx (cV kt ki C?) xu,⟨_,rfl⟩,cV et ie' lG,hk⟩
       ·simp at hm
      ·simp at hm
    ·simp at hm
  ·simp at hm
theorem sJ (ρ:Nat->Int) (x:V):dec ((nO x).den ρ)= .i (x.den ρ):=by
 unfold nO;split
 ·simp only [V.den,bC]
 ·simp only [V.den,fT.den,bC]
theorem yD {α:Type} {ρ:Nat->Int} {x:V} {k:Option Y->St->T α} {a:α}: ∀{ov:List (V×Y)} {s:St},ca ρ s.pc->(uh x ov s k).leaf ρ=some a->
 ∃ew,ca ρ ew/\(k (mu ρ (x.den ρ) ov) { s with pc:=ew }).leaf ρ=some a
 |[],s,hp,h=> ⟨s.pc,hp,h⟩
 |(y,v)::l,s,hp,h=>by
  simp only [uh] at h;split at h
  ·rename_i he;have:=cX _ _ he;subst this;refine⟨s.pc,hp,?_⟩;simp only [mu,if_true];exact h
  ·obtain⟨fW,fL,U⟩:=cR hp h;rw [gY] at U;by_cases he:x.den ρ=y.den ρ
   ·simp only [he,beq_self_eq_true] at U;refine⟨fW,fL,?_⟩;simp only [mu,ak he.symm];exact U
   ·have hf:(x.den ρ == y.den ρ)=false:=by simp [he]
    rw [hf] at U;obtain⟨kz,kg,Z⟩:=yD (s:={ s with pc:=fW }) fL U;refine⟨kz,kg,?_⟩;simp only [mu,ah (fun q=>he (Eq.symm q))];exact Z
theorem H5 {α:Type} {ρ:Nat->Int} {x:V} {v:Y} {a:α}: ∀{ov:List (V×Y)} {s:St} {k:Option (List (V×Y))->St->T α},ca ρ s.pc->(JT x v ov s k).leaf ρ=some a->
 ∃ew,ca ρ ew/\((mu ρ (x.den ρ) ov=none/\(k none { s with pc:=ew }).leaf ρ=some a)\/
  ∃jE,(∃u,mu ρ (x.den ρ) ov=some u)/\((∀n,mu ρ n jE=if n=x.den ρ then some v else mu ρ n ov)/\jE.map (·.1)=ov.map (·.1))/\(k (some jE) { s with pc:=ew }).leaf ρ=some a)
 |[],s,k,hp,h=> ⟨s.pc,hp,.inl ⟨rfl,h⟩⟩
 |(y,u)::l,s,k,hp,h=>by
  simp only [JT] at h
  have here:x.den ρ=y.den ρ->(∃u',mu ρ (x.den ρ) ((y,u)::l)=some u')/\((∀n,mu ρ n ((y,v)::l)=if n=x.den ρ then some v else mu ρ n ((y,u)::l))/\((y,v)::l).map (·.1)=((y,u)::l).map (·.1)):=by
   intro he;refine⟨⟨u,by simp only [mu,ak he.symm]⟩,fun n=>?_,rfl⟩;simp only [mu];by_cases hn:n=x.den ρ
   ·rw [ak hn,ak (by rw [hn,he])]
   ·rw [ah hn,ah (fun q=>hn (by rw [he,q])),ah (fun q=>hn (by rw [he,q]))]
  split at h
  ·rename_i he;have:=cX _ _ he;subst this;exact⟨s.pc,hp,.inr ⟨_,(here rfl).1,(here rfl).2,h⟩⟩
  ·obtain⟨fW,fL,U⟩:=cR hp h;rw [gY] at U;by_cases he:x.den ρ=y.den ρ
   ·have ht:(x.den ρ == y.den ρ)=true:=by simp [he]
    rw [ht] at U;exact⟨fW,fL,.inr ⟨_,(here he).1,(here he).2,U⟩⟩
   ·have hf:(x.den ρ == y.den ρ)=false:=by simp [he]
    rw [hf] at U;obtain⟨kz,kg,Z⟩:=H5 (s:={ s with pc:=fW }) fL U;have gB: ¬y.den ρ=x.den ρ:=fun q=>he q.symm;refine⟨kz,kg,?_⟩;rcases Z with ⟨g1,g2⟩|⟨jE,⟨u',g1⟩,⟨g2,g4⟩,g3⟩
    ·exact .inl ⟨by simp only [mu,ah gB]; exact g1,g2⟩
    ·refine .inr ⟨_,⟨u',by simp only [mu,ah gB]; exact g1⟩,⟨fun n=>?_,by simp only [aH,g4]⟩,g3⟩;simp only [mu];by_cases hy:y.den ρ=n
     ·rw [ak hy,ak hy,ah (fun q=>gB (by rw [hy,q]))]
     ·rw [ah hy,ah hy,g2 n]
theorem Ag {h:Array Obj} {B t:Nat} {fq:List Nat} {ov:List (V×Y)} {dt:TypeDesc} (hd:yO dt (.int .i64)) (n:Int): ∀{ds:List D} {bT:List MapEntry} {i:Nat},eY E h B t fq ov ds bT->
 (dj ds (.i n)=none/\D.i n∉ds.map jl/\Instr.findNow dt (.int .i64 n) bT i=some none/\(∀v,jS ds (.i n) v=ds++ [.p (.i n) v]))\/
 (∃j x e,dj ds (.i n)=some x/\D.i n∈ds.map jl/\bT[j]?=some e/\ds[j]?=some (.p (.i n) x)/\e.key= .int .i64 n/\(match mu E.ρ n ov with |some v=>VR E h v e.val|none=>qL E h B t fq (.i n) x e.val)/\
  Instr.findNow dt (.int .i64 n) bT i=some (some (i+j,e.val))/\(∀n',Instr.sameBits (n'+1) e.key (.int .i64 n)=true)/\(∀v,jS ds (.i n) v=ds.set j (.p (.i n) v)))
 |[],bT,i,he=>by simp only [eY] at he;subst he;exact .inl ⟨rfl,ad,by simp [Instr.findNow],fun _=>rfl⟩
 |d::ds,bT,i,he=>by
  obtain⟨e,r,m,rfl,U,Z,h3,h4⟩:=he;obtain⟨g1,g2⟩:=L0 (ro:=E.ro) (h:=h) (c:=.int .i64) (.inl ⟨_,rfl⟩) hd (.int .i64 n) (.int .i64 m);have hk:jl d= .i m:=by rw [U]; rfl
  rw [<- Z] at g1 g2;by_cases yT:D.i m=D.i n
  ·have hmn:m=n:=by simpa using yT
   subst hmn;have R6:Instr.sameNow dt (.int .i64 m) e.key=some true:=by rw [g1,decide_eq_true rfl]
   refine .inr ⟨0,Gx d,e,by simp only [dj,hk,if_true],by simp [hk],rfl,by rw [<- U]; rfl,Z,h3,by simp [Instr.findNow,R6],g2 rfl,fun v=>by simp only [jS,hk,if_true,am3]⟩
  ·have R6:Instr.sameNow dt (.int .i64 n) e.key=some false:=by rw [g1,decide_eq_false (fun q=>yT q.symm)]
   have gB: ¬jl d= .i n:=by rw [hk]; exact yT
   rcases Ag (i:=i+1) hd n h4 with ⟨q1,q2,q3,q4⟩|⟨j,x,e',q1,q2,q3,q4,q5,q6,q7,q8,q9⟩
   ·refine .inl ⟨by simp only [dj,ah gB,q1],?_,by simp [Instr.findNow,R6,q3],fun v=>by simp only [jS,ah gB,q4,aW]⟩;simp only [aH,aF,not_or];exact⟨fun q=>gB q.symm,q2⟩
   ·refine .inr ⟨j+1,x,e',by simp only [dj,ah gB,q1],by simp only [aH,aF]; exact .inr q2,by simpa using q3,by simpa using q4,q5,q6,?_,q8,fun v=>by simp only [jS,ah gB,q9,am4]⟩;simp only [Instr.findNow,R6,q7]; congr 3; omega
theorem Jg {ρ:Nat->Int} {n:Int} {v:Y}: ∀{ov:List (V×Y)},mu ρ n ov=some v->n∈ov.map fun p=>p.1.den ρ
 |[],h=>by simp [mu] at h
 |(x,u)::l,h=>by
  simp only [mu] at h;simp only [aH,aF];split at h
  ·rename_i he; exact .inl he.symm
  ·exact .inr (Jg h)
theorem Jf {ρ:Nat->Int} {n:Int}: ∀{ov:List (V×Y)},mu ρ n ov=none->n∉ov.map fun p=>p.1.den ρ
 |[],_=>by simp
 |(x,u)::l,h=>by
  simp only [mu] at h;simp only [aH,aF,not_or];split at h
  ·simp at h
  ·rename_i he; exact⟨fun q=>he q.symm,Jf h⟩
theorem AR.at {ρ:Nat->Int} {ds:List D} {ov:List (V×Y)} (h:AR ρ ds ov) {n:Int} {v:Y} (hv:mu ρ n ov=some v):D.i n∈ds.map jl:=by obtain⟨p,hp,he⟩:=bd.1 (Jg hv);rw [<- he];exact h.2.1 p hp
theorem Ai [bJ] {H:Hp} (r:bS E H w) {id t:Nat} {e:V} {fq:List Nat} {ov:List (V×Y)} (W:H.get id=some (.uo e t fq ov)) :
 AR E.ρ (dec (e.den E.ρ)).l ov/\∃bT c',w.heap[(E.θ id).1]?=some (.map bT c')/\eY E w.heap (E.θ id).1 t fq ov (dec (e.den E.ρ)).l bT.toList:=
 (r.live id _ W).2.1
theorem Pl [bJ] {tt:TT} (cV:eJ P tt) {s s':St} (r:bS E s.h w) (hp:ca E.ρ s.pc) {ty id t:Nat} {fq:List Nat} {ov:List (V×Y)} {m k v:Y} {e:V} {um uk:Value} {ok:Bool} (hm:VR E w.heap m um) (hk:VR E w.heap k uk) (hD:Fa m s.h=some (id,e,t,fq,ov)) (h:(Ao tt ty k ok e ov s).leaf E.ρ=some (v,s')) :
 s'.bG=s.bG/\s'.h=s.h/\ca E.ρ s'.pc/\∃x,(Instr.lookup ty um uk ok).run P w= .ok x w/\VR E w.heap v x:=by
 obtain⟨rfl,W⟩:=E9 hD
 unfold Ao at h;split at h
 ·simp [T.leaf] at h
 ·rename_i x ie hmk;obtain⟨kt,et,dt,hu,rb,jK,lG,rfl⟩:=H7 cV hk hmk;split at h
  ·simp [T.leaf] at h
  ·rename_i z hz;obtain⟨u0,z1,z2⟩:=A1 (P:=P) (w:=w) (E:=E) lG hz;obtain⟨g0,bT,c',g1,g2⟩:=Ai r W;have hg:=gU (P:=P) g1 ad;simp only [VR] at hm;obtain⟨rfl,hid⟩:=hm;have hf:=Ag (i:=0) jK (x.den E.ρ) g2;obtain⟨fW,fL,U⟩:=yD hp h
   cases ho:mu E.ρ (x.den E.ρ) ov with
   |some v1=>
    rw [ho] at U;have:=bE U;simp only [aq] at this;obtain⟨rfl,rfl⟩:=this;rcases hf with ⟨q1,q2,_,_⟩|⟨j,y,en,q1,q2,q3,_,_,q6,q7,_,_⟩
    ·exact absurd (g0.at ho) q2
    ·rw [ho] at q6;refine⟨rfl,rfl,fL,(if ok then .tuple #[en.val,.bool true] else en.val),?_,?_⟩
     ·cases ok<;>simp [Instr.lookup,run_underlying hu,hg,e8 rb jK,eU rb q7]
     ·cases ok
      ·exact q6
      ·simp only [if_true,VR,cJ];exact⟨[en.val,.bool true],rfl,_,_,rfl,q6,_,_,rfl,by simp [SB.den],rfl⟩
   |none=>
    rw [ho] at U;obtain⟨kz,kg,Z⟩:=cR fL U;rw [wY] at Z;simp only [V.den,fT.den,sJ] at Z;rcases hf with ⟨q1,_,q2,_⟩|⟨j,y,en,q1,_⟩
    ·rw [q1] at Z;have:=bE Z;simp only [aq] at this;obtain⟨rfl,rfl⟩:=this;refine⟨rfl,rfl,kg,(if ok then .tuple #[u0,.bool false] else u0),?_,?_⟩
     ·cases ok<;>simp [Instr.lookup,run_underlying hu,hg,e8 rb jK,eU rb q2,z1]
     ·cases ok
      ·exact z2
      ·simp only [if_true,VR,cJ];exact⟨[u0,.bool false],rfl,_,_,rfl,z2,_,_,rfl,by simp [SB.den],rfl⟩
    ·rw [q1] at Z;simp [T.leaf] at Z
theorem zh [bJ] {H:Hp} (r:bS E H w) {id:Nat} {o:dX} (W:H.get id=some o) (ao:dX) (o':Obj)
 (ho: ∀h',h'[(E.θ id).1]?=some o'->fU E w.heap E h'->(∀B key,HdK E w.heap E h' B key)->OR E h' id ao) :
 fj E H w E (H.put id ao) { w with heap:=w.heap.setIfInBounds (E.θ id).1 o' }/\bS E (H.put id ao) { w with heap:=w.heap.setIfInBounds (E.θ id).1 o' }:=by
 have gu:=gx r W
 have l7: ∀b,b≠(E.θ id).1->({ w with heap:=w.heap.setIfInBounds (E.θ id).1 o' }:World).heap[b]?=w.heap[b]?:=fun b hb=>by
  grind
 refine Ec r W ao ad l7 ⟨rfl,rfl,rfl⟩ (ho _ ?_ (mQ r W l7) fun B key=>r.Vt rfl (fun b _ hn=>l7 b fun e=>hn id o W e.symm) B key)
 grind
theorem eY.set {h:Array Obj} {B t:Nat} {fq:List Nat} {ov jE:List (V×Y)} {n:Int} {v:Y} {ux:Value} (hx:VR E h v ux) (hv: ∀m,mu E.ρ m jE=if m=n then some v else mu E.ρ m ov): ∀{ds:List D} {bT:List MapEntry} {j:Nat} {e:MapEntry},
 (ds.map jl).Nodup->eY E h B t fq ov ds bT->bT[j]?=some e->e.key= .int .i64 n->eY E h B t fq jE ds (bT.set j { e with key:=.int .i64 n,val:=ux })
 |[],bT,j,e,_,he,hj,_=>by simp only [eY] at he; subst he; simp at hj
 |d::ds,bT,0,e,zR,he,hj,hk=>by
  obtain⟨e0,r,m,rfl,U,Z,h3,h4⟩:=he;simp at hj;subst hj;have hm:m=n:=by rw [Z] at hk; simpa using hk
  subst hm;simp only [am3];refine⟨_,r,m,rfl,U,rfl,?_,?_⟩
  ·rw [hv,ak rfl]; exact hx
  ·simp only [aH,amL] at zR;have hk:jl d= .i m:=by rw [U]; rfl
   rw [hk] at zR;exact eY.other hv zR.1 h4
 |d::ds,bT,j+1,e,zR,he,hj,hk=>by
  obtain⟨e0,r,m,rfl,U,Z,h3,h4⟩:=he;simp only [am4];simp only [aH,amL] at zR;have YB:jl d= .i m:=by rw [U]; rfl
  have YD:r[j]?=some e:=by simpa using hj
  refine⟨e0,_,m,rfl,U,Z,?_,eY.set hx hv zR.2 h4 YD hk⟩
  have gB:m≠n:=by rintro rfl;rw [YB] at zR;exact zR.1 (eY.Dl h4 YD hk)
  rw [hv,ah gB];exact h3
where
 eY.other {h:Array Obj} {B t:Nat} {fq:List Nat} {ov jE:List (V×Y)} {n:Int} {v:Y} (hv: ∀m,mu E.ρ m jE=if m=n then some v else mu E.ρ m ov): ∀{ds:List D} {bT:List MapEntry},D.i n∉ds.map jl->eY E h B t fq ov ds bT->eY E h B t fq jE ds bT
 |[],_,_,he=>he
 |d::ds,_,hn,⟨e0,r,m,h0,U,Z,h3,h4⟩=>by
  simp only [aH,aF,not_or] at hn;have YB:jl d= .i m:=by rw [U]; rfl
  rw [YB] at hn;refine⟨e0,r,m,h0,U,Z,?_,eY.other hv hn.2 h4⟩;rw [hv,ah (fun q=>hn.1 (by rw [q]))];exact h3
 eY.Dl {h:Array Obj} {B t:Nat} {fq:List Nat} {ov:List (V×Y)} {n:Int}: ∀{ds:List D} {bT:List MapEntry} {j:Nat} {e:MapEntry},eY E h B t fq ov ds bT->bT[j]?=some e->e.key= .int .i64 n->D.i n∈ds.map jl
 |[],bT,j,e,he,hj,_=>by simp only [eY] at he; subst he; simp at hj
 |d::ds,bT,0,e,he,hj,hk=>by
  obtain⟨e0,r,m,rfl,U,Z,h3,h4⟩:=he;simp at hj;subst hj;rw [Z] at hk;have hm:m=n:=by simpa using hk
  subst hm;rw [U];simp [jl]
 |d::ds,bT,j+1,e,he,hj,hk=>by obtain⟨e0,r,m,rfl,U,Z,h3,h4⟩:=he;simp only [aH,aF];exact .inr (eY.Dl h4 (by simpa using hj) hk)
theorem eY.push {h:Array Obj} {B t:Nat} {fq:List Nat} {ov jE:List (V×Y)} {n:Int} {v:Y} {ux:Value} {c:Nat} {x:D} (hx:VR E h v ux) (hv: ∀m,mu E.ρ m jE=if m=n then some v else mu E.ρ m ov): ∀{ds:List D} {bT:List MapEntry},D.i n∉ds.map jl->eY E h B t fq ov ds bT->
 eY E h B t fq jE (ds++ [.p (.i n) x]) (bT++ [{ key:=.int .i64 n,val:=ux,born:=c }])
 |[],bT,_,he=>by simp only [eY] at he;subst he;refine⟨_,[],n,rfl,rfl,rfl,?_,rfl⟩;rw [hv,ak rfl]; exact hx
 |d::ds,bT,hn,he=>by
  obtain⟨e0,r,m,rfl,U,Z,h3,h4⟩:=he;simp only [aH,aF,not_or] at hn;have YB:jl d= .i m:=by rw [U]; rfl
  rw [YB] at hn;simp only [aW];refine⟨e0,_,m,rfl,U,Z,?_,eY.push hx hv hn.2 h4⟩;rw [hv,ah (fun q=>hn.1 (by rw [q]))];exact h3
theorem CC [bJ] {tt:TT} (cV:eJ P tt) {s s':St} (r:bS E s.h w) (hp:ca E.ρ s.pc) {ty id t:Nat} {fq:List Nat} {ov:List (V×Y)} {m k x v:Y} {e:V} {um uk ux:Value} (hm:VR E w.heap m um) (hk:VR E w.heap k uk) (hx:VR E w.heap x ux) (hD:Fa m s.h=some (id,e,t,fq,ov)) (h:(An tt ty id k x e t fq ov s).leaf E.ρ=some (v,s')) :
 s'.bG=s.bG/\ca E.ρ s'.pc/\v=Y.undef/\∃w',(Instr.mapUpdate ty um uk ux).run P w= .ok () w'/\fj E s.h w E s'.h w'/\bS E s'.h w':=by
 obtain⟨rfl,W⟩:=E9 hD
 unfold An at h;split at h
 ·simp [T.leaf] at h
 ·rename_i a ie hmk;obtain⟨kt,et,dt,hu,rb,jK,lG,rfl⟩:=H7 cV hk hmk;obtain⟨g0,bT,c',g1,g2⟩:=Ai r W;have hg:=gU (P:=P) g1 ad;simp only [VR] at hm;obtain⟨rfl,hid⟩:=hm;have hf:=Ag (i:=0) jK (a.den E.ρ) g2;obtain⟨fW,fL,U⟩:=H5 hp h;rcases U with ⟨ho,U⟩|⟨jE,⟨u',ho⟩,⟨hv,Mc⟩,U⟩
  ·obtain⟨kz,kg,Z⟩:=cR fL U;rw [wY] at Z;simp only [V.den,fT.den,sJ] at Z;rcases hf with ⟨q1,q0,q2,q3⟩|⟨j,y,en,q1,_⟩
   ·rw [q1] at Z;have:=bE Z;simp only [aq] at this;obtain⟨rfl,rfl⟩:=this;refine⟨rfl,kg,rfl,_,?_,zh r W (.uo (.op .zD e (eL (nO a) (.eD (.i 0)))) t fq ((a,x)::ov)) (.map (bT.push { key:=.int .i64 (a.den E.ρ),val:=ux,born:=c' }) (c'+1)) ?_⟩
    ·simp [Instr.mapUpdate,run_underlying hu,hg,e8 rb jK,eU rb q2,iF (P:=P) g1]
    ·intro h' hh kp hk
     have qc:dec ((V.op .zD e (eL (nO a) (.eD (.i 0)))).den E.ρ)=dL (jS (dec (e.den E.ρ)).l (.i (a.den E.ρ)) (.i 0)):=by simp only [eL,V.den,fT.den,bC,sJ]
     have tq: ∀m,mu E.ρ m ((a,x)::ov)=if m=a.den E.ρ then some x else mu E.ρ m ov:=by
      intro m;simp only [mu];by_cases hm:a.den E.ρ=m
      ·rw [ak hm,ak hm.symm]
      ·rw [ah hm,ah (fun q=>hm q.symm)]
     simp only [OR];rw [qc,bD,q3];refine⟨⟨?_,fun p hp=>?_,?_⟩,_,_,hh,?_⟩
     ·rw [amK,anl];refine⟨g0.1,ad,fun p hp q hq=>?_⟩;simp only [aH,an2,anZ] at hq;rw [hq];intro eq;rw [eq] at hp;exact q0 hp
     ·rw [amK,amt];rcases aF.1 hp with rfl|hp
      ·exact .inr (by simp [jl])
      ·exact .inl (g0.2.1 p hp)
     ·simp only [aH,amL];exact⟨Jf ho,g0.2.2⟩
     ·rw [Array.toList_push];exact eY.push (VR.cD kp _ _ hx) tq q0 (g2.cD kp fun _ _=>hk _ _)
   ·rw [q1] at Z;simp [T.leaf] at Z
  ·have:=bE U;simp only [aq] at this;obtain⟨rfl,rfl⟩:=this;rcases hf with ⟨_,q2,_,_⟩|⟨j,y,en,q1,q2,q3,q4,q5,q6,q7,q8,q9⟩
   ·exact absurd (g0.at ho) q2
   ·simp only [aK] at q7
    have hkt:(Instr.keyThatStays (((bT[j]?).map (·.key)).getD (.int .i64 (a.den E.ρ))) (.int .i64 (a.den E.ρ))).run P w= .ok (.int .i64 (a.den E.ρ)) w:=by have q3':=q3;rw [amp] at q3';simp only [q3',amu,ax,Instr.keyThatStays];rw [ak (q8 9999)];rfl
    refine⟨rfl,fL,rfl,_,?_,zh r W (.uo e t fq jE) (.map (bT.modify j fun e=>{ e with key:=.int .i64 (a.den E.ρ),val:=ux }) c') ?_⟩
    ·simp [Instr.mapUpdate,run_underlying hu,hg,e8 rb jK,eU rb q7,hkt,iF (P:=P) g1]
    ·intro h' hh kp hk;simp only [OR];refine⟨⟨g0.1,fun p hp=>?_,?_⟩,_,_,hh,?_⟩
     ·have:p.1∈jE.map (·.1):=bd.2 ⟨p,hp,rfl⟩;rw [Mc] at this;obtain⟨q,hq,he⟩:=bd.1 this;rw [<- he];exact g0.2.1 q hq
     ·have U:(jE.map fun p=>p.1.den E.ρ)=(jE.map (·.1)).map fun x=>x.den E.ρ:=by rw [amU]; rfl
      rw [U,Mc,amU];exact g0.2.2
     ·rw [yo bT j en _ q3];exact eY.set (VR.cD kp _ _ hx) hv g0.1 (g2.cD kp fun _ _=>hk _ _) q3 q5
end
section
variable {P:Program} {E:En} {w:World}
theorem X3 [bJ] {tt:TT} (cV:eJ P tt) {H:Hp} (r:bS E H w) {t e k:Nat} {i ie:TI} {k1 k2:IntKind} (hi:tt t=some i) (hk:i.kind= .slice e) (lG:tt e=some ie) (hz0:ie.zero.length=ie.size) (xL:0<ie.size) (ss:ie.bytes≠0) (EV:ie.bytes*k<=140737488355328) (mh:0<k) :
 ∃x w' E',(Instr.makeSlice t (.int k1 k) (.int k2 k)).run P w= .ok x w'/\fj E H w E' (H.new (.cells (dZ ie.zero k) e)) w'/\bS E' (H.new (.cells (dZ ie.zero k) e)) w'/\VR E' w'.heap (.slice H.fresh 0 k (.rest ie.size)) x:=by
 have gp:=cV t i hi;have Yp:=cV e ie lG;obtain⟨inf,z,g1,g2,g3,g4,g5⟩:=wW Yp;have hz:=fh (E:=E) (h:=w.heap) g5;have tp:z.cells.size=ie.size:=by have:=hz.1.length; simp only [bo] at this; omega
 have hkb:k<=140737488355328:=by refine bq ?_ EV;exact Nat.le_mul_of_pos_left _ J
 have wn:IntKind.i64.wrap (k:Int)=(k:Int):=by rw [<- mj]; simp only [uX]; rw [ak (by constructor<;>omega)]
 have ai: ∀(q:IntKind) (x:Int) (w:World),(asInt (Value.int q x)).run P w= .ok x w:=fun _ _ _=>rfl
 have gB:z.cells.toList≠[]:=by
  intro hx;have Vq:z.cells.size=0:=by have:=congrArg List.length hx; simpa using this
  omega
 have hzz:=ve z.cells gB k;rw [tp] at hzz;obtain⟨gX,e1⟩ : ∃gX:Array Value,((Array.range (k*inf.size)).map (z.cells[·% z.cells.size]!))=gX:=⟨_,rfl⟩
 have kT:gX.toList=dZ z.cells.toList k:=by
  grind
 have e2:cJ E w.heap (dZ ie.zero k) gX.toList:=by rw [kT]; exact mP hz.1 k
 have e3: ∀u∈gX.toList,u.oneCell'=true:=by rw [kT]; intro u hu; exact hz.2 u (mO hu)
 have iW:gX.size=k*ie.size:=by rw [<- bo,kT,jH,bo,tp]
 refine⟨.slice (some ⟨w.heap.size,0,none⟩) k k,{ w with heap:=w.heap.push (.cells gX e) },E.ext H.fresh (w.heap.size,0) gX.size,?_,?_⟩
 ·have t1: ¬((k:Int)<0):=J
  have t2: ¬((inf.bytes:Int)*(k:Int) > 2 ^ 48):=by
   grind
  have t4: ¬((k:Int) > (k:Int)):=J
  have t5:(askRoom (k*inf.bytes)).run P w= .ok () w:=by
   have: ¬(k*inf.bytes > roomBytes):=by
    unfold roomBytes
    grind
   unfold askRoom;rw [ah this];rfl
  have t6:(k:Int).toNat=k:=rfl
  have h0: ¬(k*inf.size=0):=by rw [g2];have:=ank mh xL;omega
  simp only [Instr.makeSlice,Sem.run_bind,run_underlying (fC gp hk),Result.andThen_ok,ai,sizeOf,typeInfo,zeroValue,run_program,g1,g4,Sem.run_pure,newRow,Sem.run_ite,wn,t1,t2,t4,t6,h0,decide_false,anw,aC,if_false];rw [t5,Result.andThen_ok,e1];rfl
 ·obtain⟨s1,s2⟩:=jy r gX 0 0 e e2 e3 (fun i u hu=>by rw [<- amp]; exact hu) J (w':={ w with heap:=w.heap.push (.cells gX e) }) rfl ⟨rfl,rfl,rfl⟩;refine⟨s1,s2,?_⟩;simp only [VR];refine⟨En.gV _ _ _ _,⟨w.heap.size,0,none⟩,k,rfl,ay _,?_⟩;simp only [eZ,En.ext_θ_new,En.ext_κ_new]
  grind
theorem Pk [bJ] {tt:TT} (cV:eJ P tt) {s s':St} (r:bS E s.h w) (hp:ca E.ρ s.pc) {t:Nat} {l c v:Y} {lu cu:Value} (W:VR E w.heap l lu) (hc:VR E w.heap c cu) (h:(J6 tt t l c s).leaf E.ρ=some (v,s')) :
 s'.bG=s.bG/\ca E.ρ s'.pc/\∃x w' E',(Instr.makeSlice t lu cu).run P w= .ok x w'/\fj E s.h w E' s'.h w'/\bS E' s'.h w'/\VR E' w'.heap v x:=by
 unfold J6 at h;split at h
 ·rename_i k n;split at h
  ·rename_i k2 n2;split at h
   ·simp [T.leaf] at h
   ·rename_i hnn;have hnn:=cX _ _ hnn;subst hnn;simp only [VR] at W hc;subst W hc;split at h
    ·simp [T.leaf] at h
    ·rename_i i hi;split at h
     ·simp [T.leaf] at h
     ·rename_i o ho;split at h
      ·rename_i e hk;split at h
       ·simp [T.leaf] at h
       ·rename_i ie lG;split at h
        ·simp [T.leaf] at h
        ·rename_i z hz;split at h
         ·rename_i jV;obtain⟨l8,xL,ss,tp⟩:=jV;obtain⟨fW,fL,U⟩:=cR hp h;split at U
          ·simp [T.leaf] at U
          ·rename_i t1;obtain⟨kz,kg,Z⟩:=cR (s:={ s with pc:=fW }) fL U;split at Z
           ·rename_i t2;split at Z
            ·rename_i v0 h0 hm;have:=bE Z;simp only [aq] at this;obtain⟨rfl,rfl⟩:=this;rw [iZ,beq_iff_eq] at t2;simp only [V.den] at t2;rw [t2];obtain⟨x,w',E',q1,q2,q3,q4⟩:=vW (P:=P) cV r (lu:=.int k 0) (cu:=.int k2 0) (by simp only [VR,V.den]) (by simp only [VR,V.den]) hm
             grind
            ·simp [T.leaf] at Z
           ·rename_i t2;obtain⟨Vn,JC,h3⟩:=cR (s:={ s with pc:=kz }) kg Z;split at h3
            ·rename_i t3;have:=bE h3;simp only [aq] at this;obtain⟨rfl,rfl⟩:=this;rw [eg,decide_eq_false_iff_not] at t1;rw [iZ,beq_eq_false_iff_ne] at t2;rw [eg,decide_eq_true_eq] at t3;simp only [V.den] at t1 t2 t3;obtain⟨m,hm⟩ : ∃m:Nat,n.den E.ρ=(m:Int):=⟨(n.den E.ρ).toNat,J⟩;rw [hm] at t2 t3 ⊢;have mh:0<m:=J
             have EV:ie.bytes*m<=140737488355328:=by
              unfold rL at t3
              have U:m<=140737488355328 / ie.bytes:=by
               grind
              exact bq (Nat.mul_le_mul_left _ U) (Nat.mul_div_le _ _)
             obtain⟨x,w',E',q1,q2,q3,q4⟩:=X3 (P:=P) (k1:=k) (k2:=k2) cV r hi hk lG tp xL ss EV mh;have hρ:=q2.ρ
             have hd:dec ((V.op .rep n z).den E'.ρ)=dL (List.replicate m (dec (z.den E'.ρ))):=by
              have:n.den E'.ρ=(m:Int):=by rw [hρ]; exact hm
              simp only [V.den,fT.den,bC,this,aX]
             have hlen:(dec ((V.op .rep n z).den E'.ρ)).l.length=m:=by rw [hd,bD,amT]
             have hwz:qJ (rowOf o) (dec (z.den E'.ρ)):=uG hz
             have Dr:(cW E'.ρ (.op .rep n z) o []).length=(dZ ie.zero m).length:=by unfold cW;rw [cM (kZ _),hlen,jH,tp,l8]
             have ae5: ∀(q:Nat) (us:List Value),cJ E' w'.heap (dZ ie.zero q) us->cJ E' w'.heap (bH E'.ρ (rowOf o) [] (List.replicate q (dec (z.den E'.ρ))) 0) us:=by
              intro q
              induction q with
              |zero=>intro us h; exact h
              |succ q ih=> intro us h;simp only [dZ] at h;obtain⟨us1,us2,rfl,a,b⟩:=cJ.split h;simp only [an0,bH,ep];rw [lx _ 1 0];refine cJ.append ?_ (ih _ b);rw [gD];simp only [V.den,bC];exact uH a hz
             have r2:=Dj (e1:=.op .rep n z) (t:=o) q3 ⟨by rw [hd,bD],fun d EU=>by
              rw [hd,bD] at EU;rw [aok EU]
              exact hwz,fun hq=>by rw [hq] at hlen; simp at hlen; omega⟩ Dr (fun us hu=>by
              unfold cW;rw [hd,bD]
              exact ae5 m us hu)
             refine⟨rfl,JC,x,w',E',q1,q2.right (wQ rfl rfl fun _=>rfl),r2,?_⟩;simp only [VR] at q4 ⊢;obtain⟨p1,a,cap,p2,p3,p4⟩:=q4;refine⟨p1,m,a,cap,by rw [cL,hlen],p2,p3,?_⟩
             grind
            ·simp [T.leaf] at h3
         ·simp [T.leaf] at h
      ·simp [T.leaf] at h
  ·simp [T.leaf] at h
 ·simp [T.leaf] at h
end
theorem KF {α β:Type} (f:α->β) (xs:Array α):xs.map f=(xs.toList.map f).toArray:=by
 grind
def oQ (P:Program) (R:Value->World->Prop):Result Next->Prop
 | .ok (.value u) w'=>R u w'
 | .ok (.enter f args) w'=>Calls P f args w' fun e w''=> ∃u,e= .returned u/\R u w''
 |_=>False
def mr (P:Program) (g:FuncId) (vals:Array Value) (w:World) (R:Value->World->Prop):Prop:=oQ P R ((callFunc g vals).run P w)
def kR [bJ] (P:Program) (g:FuncId) (f:List Y->St->T (Y×St)):Prop:=
 ∀(args:List Y) (s:St) (E:En) (w:World) (vals:List Value) (v:Y) (s':St),bS E s.h w->cJ E w.heap args vals->ca E.ρ s.pc->(f args s).leaf E.ρ=some (v,s')->
  s'.bG=s.bG/\ca E.ρ s'.pc/\mr P g vals.toArray w (NA E s w v s')
theorem zK {E:En} {h:Array Obj} {k:Nat} {e:V} {i:Nat} (he:e.den E.ρ=(i:Int)): ∀(ks:List IntKind) (j:Nat),
 cJ E h (vD k e ks j) ((ks.zipIdx j).map fun p=> .int p.1 (E.ρ (1000+i*64+(k*8+p.2))))
 |[],j=>by simp [vD,cJ]
 |kd::ks,j=>by simp only [vD,List.zipIdx_cons,aH];rw [bX];refine⟨_,_,rfl,?_,zK he ks (j+1)⟩;simp only [VR,V.den,he,aX]
theorem Po {P:Program} {E:En} {w:World} {tt:TT} (cV:eJ P tt) {pc:List (SB×Bool)} (hp:ca E.ρ pc) {t k:Nat} {ks:List IntKind} {ix v:Y} {u ui:Value} (hx:VR E w.heap (.xK k ks) u) (zV:VR E w.heap ix ui)
 (h:J7 tt pc t k ks ix=some v): ∃r,(Instr.indexAt t u ui).run P w= .ok r w/\VR E w.heap v r:=by
 unfold J7 at h;split at h
 ·rename_i kd e;split at h
  ·rename_i ti gp;split at h
   ·rename_i el hk;have hu:=fC (cV t ti gp) hk;split at h
    ·rename_i s hs;simp only [jb,aZ] at hs;obtain⟨ie,lG,rfl⟩:=hs;split at h
     ·rename_i hc;split at h
      ·rename_i U Z;simp at h;subst h;have U:=gW hp U;have Z:=gW hp Z;rw [eg,decide_eq_false_iff_not] at U;rw [eg,decide_eq_true_eq] at Z;simp only [V.den,amZ] at U Z;simp only [VR] at hx zV;subst zV;rcases hx with ⟨⟨x,cap,rfl⟩,h0⟩|⟨b,o,n,cap,rfl,g1,g2,g3,g4⟩
       ·omega
       ·obtain⟨i,hi⟩ : ∃i:Nat,e.den E.ρ=(i:Int):=⟨(e.den E.ρ).toNat,J⟩;have AU:i<n:=J
        refine⟨.pointer (some ⟨b,o+i*ie.size,none⟩),?_,?_⟩
        ·rw [hi];simp [Instr.indexAt,asIntOf,run_underlying hu,eF (cV el ie lG),AU,fw]
        ·simp only [VR];refine⟨b,_,_,rfl,g3,zK hi ks 0,?_,?_⟩
         ·intro j u hj
          grind
         ·intro u hu';rw [bd] at hu';obtain⟨p,_,rfl⟩:=hu';rfl
      grind
     grind
    grind
   grind
  grind
 grind
def qOp (q:Bool):BinOp:=match q with
 |true=> .quo
 |false=> .rem
def U! (q:Bool) (k:IntKind) (x y:Int):Int:=match q with
 |true=>k.wrap (x.tdiv y)
 |false=>x.tmod y
theorem U' {E:En} {s s':St} {q:Bool} {k:IntKind} {e d:V} {v:Y} (hp:ca E.ρ s.pc) (h:(aez s q k e d).leaf E.ρ=some (v,s')) :
 s'.bG=s.bG/\s'.h=s.h/\ca E.ρ s'.pc/\d.den E.ρ≠0/\∀h,VR E h v (.int k (U! q k (e.den E.ρ) (d.den E.ρ))):=by
 unfold aez at h;obtain⟨ew,fQ,h3⟩:=cR hp h;rw [gY] at h3;split at h3
 ·grind [T.leaf]
 ·rename_i he;simp only [T.leaf,an,aq] at h3;obtain⟨rfl,rfl⟩:=h3;simp only [V.den,beq_eq_false_iff_ne,ne_eq] at he;exact⟨rfl,rfl,fQ,he,fun h=>by cases q<;>simp only [VR,V.den,U!]⟩
theorem T5 {E:En} {h:Array Obj} {op:BinOp} {a b:Y} {q:Bool} {k:IntKind} {e d:V} (hr:Ou op a b=some (q,k,e,d)) {u u':Value} (ha:VR E h a u) (hb:VR E h b u') :
 op=qOp q/\u= .int k (e.den E.ρ)/\u'= .int k (d.den E.ρ):=by
 unfold Ou at hr;split at hr
 ·rename_i q' hq
  have oa:op=qOp q':=by split at hq<;>simp only [an,reduceCtorEq] at hq<;>subst hq<;>rfl
  cases a with
  |int k1 e1=>
   cases b with
   |int k2 e2=>
    simp only at hr;split at hr
    ·simp at hr
    ·split at hr
     ·rename_i hc;simp only [an,aq] at hr;obtain⟨rfl,rfl,rfl,rfl⟩:=hr;simp only [VR] at ha hb;exact⟨oa,ha,by rw [hb,hc]⟩
     ·simp at hr
   |_=>simp at hr
  |_=>simp at hr
 ·simp at hr
theorem GJ {E:En} {Uv:Array Obj} {s s':St} {h:Option Y} {hh:Option Value} {v:Y} {k:Option Y->St->T (Y×St)} (hp:ca E.ρ s.pc) (ho:gF E Uv h hh) (H:(IK s h k).leaf E.ρ=some (v,s')) :
 ∃ew h',ca E.ρ ew/\gF E Uv h' hh/\(k h' { s with pc:=ew }).leaf E.ρ=some (v,s'):=by
 unfold IK at H;split at H
 ·rename_i e;obtain⟨ew,fQ,h3⟩:=cR hp H;rw [gY] at h3;split at h3
  ·rename_i he;simp only [V.den,beq_iff_eq] at he;obtain⟨u,rfl,hu⟩:=ho;simp only [VR] at hu;refine⟨ew,some (.int .i64 (.lit 0)),fQ,?_,h3⟩;exact⟨u,rfl,by simp only [VR,V.den]; rw [hu,he]⟩
  ·simp [T.leaf] at h3
 ·exact⟨s.pc,_,hp,ho,H⟩
def iY [bJ] (P:Program) (call:eB):Prop:= ∀g,kR P g (call g)
theorem pS.next {P:Program} {o:Oper} {a:Act} {w:World} {R:Value->World->Prop} (h:oQ P R ((execOp a.eval o).run P w)):pS P o a w R:=by
 intro K Q hk;unfold Oper.wp;generalize (execOp a.eval o).run P w=r at h
 cases r with
 |halt x w'=>exact h.elim
 |ok n w'=>
  cases n<;>first
   |exact h.elim
   |exact hk _ _ h
   |(exact Calls.mono h fun e w'' ⟨u,he,hr⟩=>by subst he; exact hk _ _ hr)
theorem FY {tt:TT} {t n:Nat} {ix:Y} {e:V} (h:S6 tt t ix=some (n,e)): ∃k ti el ie,ix= .int k e/\tt t=some ti/\ti.kind= .array n el/\tt el=some ie/\ie.size=1/\ie.agg=false:=by
 unfold S6 at h;split at h
 all_goals grind
section
variable {P:Program} {E:En} {w:World} {s s':St} {o:Oper} {a:Act} {v:Y}
theorem Kf [bJ] {tt:TT} (cV:eJ P tt) (r:bS E s.h w) (hp:ca E.ρ s.pc) {b:Builtin} {ts:List Nat} {args:List Y} {vals:List Value} (hv:cJ E w.heap args vals) (ty:Nat) (cs:Array Bool)
 (h:(w9 tt s b ts args).leaf E.ρ=some (v,s')):s'.bG=s.bG/\ca E.ρ s'.pc/\∃u w',(builtin b ts.toArray ty cs vals.toArray).run P w= .ok (.value u) w'/\NA E s w v s' u w':=by
 unfold w9 at h;split at h
 ·rename_i t x;obtain⟨e1,rfl⟩:=iL h;rw [bX] at hv;obtain⟨u,vs,rfl,hx,nH⟩:=hv;rw [iN] at nH;subst nH;obtain⟨y,U,Z⟩:=Y8 (ty:=ty) cV r hx e1;exact⟨rfl,hp,y,w,by simp [builtin,U],E,fj.refl _ _ _,r,Z⟩
 ·rename_i t t2 id lo n t' y;rw [bX] at hv;obtain⟨u,vs,rfl,hx,nH⟩:=hv;rw [bX] at nH;obtain⟨u2,vs,rfl,hy,HK⟩:=nH;rw [iN] at HK;subst HK;split at h
  ·rename_i hz;obtain⟨q1,q2,z,w',E',U,Z,h3,h4⟩:=MG (ty:=ty) cV r hp hz hx hy h;exact⟨q1,q2,z,w',by simp [builtin,U],E',Z,h3,h4⟩
  grind [T.leaf]
 ·rename_i t t2 x y _;rw [bX] at hv;obtain⟨u,vs,rfl,hx,nH⟩:=hv;rw [bX] at nH;obtain⟨u2,vs,rfl,hy,HK⟩:=nH;rw [iN] at HK;subst HK;split at h
  ·rename_i aan;obtain⟨q1,q2,z,w',E',U,Z,h3,h4⟩:=Kh (ty:=ty) cV r hp hx hy (fun hd=>by rw [hd,anw] at aan; exact L2 hx aan) h;exact⟨q1,q2,z,w',by simp [builtin,U],E',Z,h3,h4⟩
  obtain⟨H,e1,rfl⟩:=pZ h;obtain⟨z,w',E',U,Z,h3,h4⟩:=ME (ty:=ty) cV r hx hy e1;exact⟨rfl,hp,z,w',by simp [builtin,U],E',Z,h3,h4⟩
 ·rename_i t ts' m k;rw [bX] at hv;obtain⟨u,vs,rfl,hx,nH⟩:=hv;rw [bX] at nH;obtain⟨u2,vs,rfl,hy,HK⟩:=nH;rw [iN] at HK;subst HK;split at h
  ·rename_i id e t' hD
   obtain⟨q1,q2,rfl,w',U,Z,h3⟩:=UQ (ts:=ts') cV r hx hy hD h ty;exact⟨q1,by rw [q2]; exact hp,.tuple #[],w',by simp [builtin,U],E,Z,h3,by simp only [Y.undef,VR,cJ]; exact⟨[],rfl,rfl⟩⟩
  obtain⟨ew,fQ,h⟩:=qT hp h;obtain⟨H,e1,rfl,rfl⟩:=zq h;obtain⟨w',U,Z,h3⟩:=MD (ts:=ts') cV fQ r hx hy e1 ty;exact⟨rfl,fQ,.tuple #[],w',by simp [builtin,U],E,Z,h3,by simp only [Y.undef,VR,cJ]; exact⟨[],rfl,rfl⟩⟩
 ·rename_i t id n t';rw [bX] at hv;obtain⟨u,vs,rfl,hx,nH⟩:=hv;rw [iN] at nH;subst nH;obtain⟨q1,q2,rfl,w',E',U,Z,h3⟩:=CD (ty:=ty) cV r hp (QA hx) h;exact⟨q1,q2,.tuple #[],w',by simp [builtin,U],E',Z,h3,by simp only [Y.undef,VR,cJ]; exact⟨[],rfl,rfl⟩⟩
 ·rename_i t id lo n t';rw [bX] at hv;obtain⟨u,vs,rfl,hx,nH⟩:=hv;rw [iN] at nH;subst nH;obtain⟨q1,q2,rfl,w',E',U,Z,h3⟩:=CD (ty:=ty) cV r hp hx h;exact⟨q1,q2,.tuple #[],w',by simp [builtin,U],E',Z,h3,by simp only [Y.undef,VR,cJ]; exact⟨[],rfl,rfl⟩⟩
 ·rename_i t x _ _;obtain⟨H,e1,rfl,rfl⟩:=zq h;rw [bX] at hv;obtain⟨u,vs,rfl,hx,nH⟩:=hv;rw [iN] at nH;subst nH;obtain⟨w',U,Z,h3⟩:=Pu (ty:=ty) cV r hx e1;exact⟨rfl,hp,.tuple #[],w',by simp [builtin,U],E,Z,h3,by simp only [Y.undef,VR,cJ]; exact⟨[],rfl,rfl⟩⟩
 ·rename_i k e xs;rw [bX] at hv;obtain⟨u,vs,rfl,hx,nH⟩:=hv;simp only [VR] at hx;subst hx;obtain⟨q1,q2,q3,u,q4,q5⟩:=nU (P:=P) (w:=w) hp nH h;refine⟨q2,q3,u,w,?_,E,by rw [q1]; exact fj.refl _ _ _,by rw [q1]; exact r,q5⟩;simp only [aC,if_false] at q4;simp [builtin,Builtin.min_,q4]
 ·rename_i k e xs;rw [bX] at hv;obtain⟨u,vs,rfl,hx,nH⟩:=hv;simp only [VR] at hx;subst hx;obtain⟨q1,q2,q3,u,q4,q5⟩:=nU (P:=P) (w:=w) hp nH h;refine⟨q2,q3,u,w,?_,E,by rw [q1]; exact fj.refl _ _ _,by rw [q1]; exact r,q5⟩;simp only [if_true] at q4;simp [builtin,Builtin.max_,q4]
 grind [T.leaf]
theorem UR [bJ] {tt:TT} (cV:eJ P tt) {call:eB} (hc:iY P call) (r:bS E s.h w) (sr:SR E w.heap s.bG a) (hp:ca E.ρ s.pc) {c:Call} (ho:o.op= .call c)
 (h:(Ke tt call s c).leaf E.ρ=some (v,s')):lN P E s o a w v s':=by
 unfold Ke at h;split at h
 ·grind [T.leaf]
 ·rename_i args aco;have hv:=JV sr aco;have aiD:c.args.map a.eval=(c.args.toList.map a.eval).toArray:=KF _ _;split at h
  ·rename_i b afe;obtain⟨q1,q2,u,w',q3,q4⟩:=Kf cV r hp hv o.type (c.args.map fun| .const _=>true|_=>false) h;refine⟨q1,q2,pS.value ?_ q4⟩;simp only [execOp,ho,resolve,afe,Sem.run_bind,Sem.run_pure,Result.andThen_ok,invoke,aiD];exact q3
  ·rename_i f afe;split at h
   ·rename_i g fs cs hf;have hfv:=gC sr hf;simp only [VR] at hfv;obtain⟨us,ws,he,U,Z⟩:=hfv;obtain⟨q1,q2,q3⟩:=hc g _ s E w _ v s' r ((U.append hv).append Z) hp h;refine⟨q1,q2,pS.next ?_⟩;unfold mr at q3;simp only [execOp,ho,resolve,afe,Sem.run_bind,he,Deferred.ofValue,Sem.run_pure,Result.andThen_ok,invoke,aiD]
    grind
   grind [T.leaf]
  grind [T.leaf]
theorem l? [bJ] {α:Type} {E:En} {h:Array Obj} {v:Y} {u:Value} {s:St} {k:Y->St->T α} {r:α} (hp:ca E.ρ s.pc) (hv:VR E h v u) (W:(m_ v s k).leaf E.ρ=some r) :
 ∃v' ew,ca E.ρ ew/\VR E h v' u/\(k v' { s with pc:=ew }).leaf E.ρ=some r:=by
 unfold m_ at W;split at W
 ·split at W
  ·exact⟨_,s.pc,hp,hv,W⟩
  ·obtain⟨fW,fL,U⟩:=cR hp W;refine⟨_,fW,fL,?_,U⟩;simp only [VR,SB.den] at *;exact hv
 ·exact⟨_,s.pc,hp,hv,W⟩
theorem Sm [bJ] {tt:TT} (cV:eJ P tt) {call:eB} (hc:iY P call) (r:bS E s.h w) (sr:SR E w.heap s.bG a) (hp:ca E.ρ s.pc) (h:(J5 tt call s o.op).leaf E.ρ=some (v,s')):lN P E s o a w v s':=by
 obtain⟨dst,op,type,pos,after,guard⟩:=o;simp only at h;cases op<;>simp only [J5] at h<;>first |(simp [T.leaf] at h; done)|skip
 case move x=>
  obtain⟨u,U,Z⟩:=ik sr h;have:=bE Z;simp only [aq] at this;obtain⟨rfl,rfl⟩:=this;exact lN.pure hp r (u:=a.eval x) rfl U
 case assign x=>
  obtain⟨u,U,Z⟩:=ik sr h;have:=bE Z;simp only [aq] at this;obtain⟨rfl,rfl⟩:=this;exact lN.pure hp r (u:=a.eval x) rfl U
 case pick c x y=>
  obtain⟨cv,U,Z⟩:=ik sr h;split at Z
  ·rename_i cb;obtain⟨ew,fQ,h3⟩:=cR hp Z;simp only [VR] at U;cases RW:cb.den E.ρ<;>rw [RW] at U h3
   ·simp only [aC,if_false] at h3;obtain⟨u,h4,h5⟩:=ik (s:={ s with pc:=ew }) sr h3;have:=bE h5;simp only [aq] at this;obtain⟨rfl,rfl⟩:=this;exact⟨rfl,fQ,pS.value (u:=a.eval y) (by simp [execOp,U,asBool]) ⟨E,fj.refl _ _ _,r,h4⟩⟩
   ·simp only [if_true] at h3;obtain⟨u,h4,h5⟩:=ik (s:={ s with pc:=ew }) sr h3;have:=bE h5;simp only [aq] at this;obtain⟨rfl,rfl⟩:=this;exact⟨rfl,fQ,pS.value (u:=a.eval x) (by simp [execOp,U,asBool]) ⟨E,fj.refl _ _ _,r,h4⟩⟩
  ·simp [T.leaf] at Z
 case alloc t=>
  split at h
  ·rename_i i hi;have:=bE h;simp only [aq] at this;obtain⟨rfl,rfl⟩:=this;obtain⟨inf,z,g1,g2,g3,g4,g5⟩:=wW (cV t i hi);have hz:=fh (E:=E) (h:=w.heap) g5;obtain⟨s1,s2⟩:=jy r z.cells 0 0 t hz.1 hz.2 (fun i u hu=>by rw [<- amp]; exact hu) J (w':={ w with heap:=w.heap.push (.cells z.cells t) }) rfl ⟨rfl,rfl,rfl⟩;exact lN.heap hp (u:=.pointer (some ⟨w.heap.size,0,none⟩)) (by simp [execOp,Instr.alloc,zeroValue,typeInfo,g1,g4,newVar,newRow]) s1 s2 (Jb r _ _ 0)
  ·simp [T.leaf] at h
 case box t x=>
  obtain⟨u,U,Z⟩:=ik sr h;split at Z
  ·rename_i xt;have:=bE Z;simp only [aq] at this;obtain⟨rfl,rfl⟩:=this;have NI:=U.cells xt;obtain⟨s1,s2⟩:=jy r (a.eval x).cells 0 0 t NI (NI.sQ xt) (fun i u hu=>by rw [<- amp]; exact hu) J (w':={ w with heap:=w.heap.push (.cells (a.eval x).cells t) }) rfl ⟨rfl,rfl,rfl⟩;exact lN.heap hp (u:=.pointer (some ⟨w.heap.size,0,none⟩)) (by simp [execOp,Instr.box,newVar,newRow]) s1 s2 (Jb r _ _ 0)
  ·simp [T.leaf] at Z
 case build t parts=>
  split at h
  ·rename_i ps hps;obtain⟨e1,rfl⟩:=iL h;have hpr:=yG sr hps;obtain⟨x,U,Z⟩:=Pw (w:=w) (ps:=parts.map fun p=>(p.1,a.eval p.2)) cV (by simpa using hpr) e1;exact lN.pure hp r (u:=x) (by simp [execOp,U]) Z
  ·simp [T.leaf] at h
 case buildSlice t len parts=>
  split at h
  ·rename_i ps hps;obtain⟨H,e1,rfl⟩:=pZ h;have hpr:=yG sr hps;obtain⟨x,w',E',U,Z,h3,h4⟩:=CV (ps:=parts.map fun p=>(p.1,a.eval p.2)) cV r (by simpa using hpr) e1;exact lN.heap hp (u:=x) (by simp [execOp,U]) Z h3 h4
  ·simp [T.leaf] at h
 case makeSlice t l c=>
  obtain⟨u,U,Z⟩:=ik sr h;split at Z
  ·rename_i cv hc;split at Z
   ·rename_i q hq;obtain⟨H,e1,rfl⟩:=pZ Z;simp only [an] at e1;subst e1;obtain⟨x,w',E',g1,g2,g3,g4⟩:=vW cV r U (gC sr hc) hq;exact lN.heap hp (u:=x) (by simp [execOp,g1]) g2 g3 g4
   ·obtain⟨q1,q2,x,w',E',g1,g2,g3,g4⟩:=Pk cV r hp U (gC sr hc) Z;exact⟨q1,q2,pS.value (by simp [execOp,g1]) ⟨E',g2,g3,g4⟩⟩
  ·simp [T.leaf] at Z
 case insert t m k x=>
  obtain⟨u,U,Z⟩:=ik sr h;split at Z
  ·rename_i kv xv hk hx;split at Z
   ·obtain⟨q1,q2,rfl,w',E',g1,g2,g3⟩:=Ie (P:=P) cV r hp U (gC sr hk) (gC sr hx) Z;exact⟨q1,q2,pS.skip (by simp [execOp,g1]) ⟨E',g2,g3,mc⟩⟩
   split at Z
   ·rename_i hD
    obtain⟨q1,q2,rfl,w',g1,g2,g3⟩:=CC (P:=P) cV r hp U (gC sr hk) (gC sr hx) hD Z;exact⟨q1,q2,pS.skip (by simp [execOp,g1]) ⟨E,g2,g3,mc⟩⟩
   obtain⟨ew,fQ,Z⟩:=qT hp Z;obtain⟨H,e1,rfl,rfl⟩:=zq Z;obtain⟨w',g1,g2,g3⟩:=vV cV fQ r U (gC sr hk) (gC sr hx) e1;exact⟨rfl,fQ,pS.skip (by simp [execOp,g1]) ⟨E,g2,g3,mc⟩⟩
  ·simp [T.leaf] at Z
 case load t x=>
  obtain⟨u,U,Z⟩:=ik sr h;split at Z
  ·obtain⟨q1,q2,q3,y,b,off,g1,g2,g3⟩:=Pn cV r hp U Z;exact⟨q1,q3,pS.value (u:=y) (by simp [execOp,Instr.loadAt,g1,Instr.sureAddr,g2]) ⟨E,by rw [q2]; exact fj.refl _ _ _,by rw [q2]; exact r,g3⟩⟩
  obtain⟨e1,rfl⟩:=iL Z;obtain⟨y,b,off,g1,g2,g3⟩:=BK cV r U e1;exact lN.pure hp r (u:=y) (by simp [execOp,Instr.loadAt,g1,Instr.sureAddr,g2]) g3
 case store t x y=>
  obtain⟨u,U,Z⟩:=ik sr h;split at Z
  ·rename_i yv hy;obtain⟨yv',ew,fQ,OP,Z⟩:=l? hp (gC sr hy) Z;split at Z
   ·obtain⟨q1,q2,rfl,w',E',g1,g2,g3⟩:=My cV (s:={ s with pc:=ew }) r fQ U OP Z;exact⟨q1,q2,pS.skip (by simp [execOp,g1]) ⟨E',g2,g3,mc⟩⟩
   obtain⟨H,e1,rfl,rfl⟩:=zq Z;obtain⟨w',g1,g2,g3⟩:=Pf cV r U OP e1;exact⟨rfl,fQ,pS.skip (by simp [execOp,g1]) ⟨E,g2,g3,mc⟩⟩
  ·simp [T.leaf] at Z
 case nilCheck x=>
  obtain⟨u,U,Z⟩:=ik sr h;split at Z
  ·have:=bE Z;simp only [aq] at this;obtain⟨rfl,rfl⟩:=this;have RZ:=U;simp only [VR] at U;exact lN.pure hp r (u:=a.eval x) (by simp [execOp,U.1]) RZ
  ·have:=bE Z;simp only [aq] at this;obtain⟨rfl,rfl⟩:=this;have RZ:=U;simp only [VR] at U;obtain⟨b,off,us,hu,_⟩:=U;exact lN.pure hp r (u:=a.eval x) (by simp [execOp,hu]) RZ
  ·have:=bE Z;simp only [aq] at this;obtain⟨rfl,rfl⟩:=this;have RZ:=U;simp only [VR] at U;obtain⟨_,k,_,hu⟩:=U;exact lN.pure hp r (u:=a.eval x) (by simp [execOp,hu]) RZ
  ·simp [T.leaf] at Z
 case binOp bop t x y yt=>
  obtain⟨u,U,Z⟩:=ik sr h;split at Z
  ·rename_i yv hy;have OP:=gC sr hy;split at Z
   ·rename_i xs;simp only [VR] at U;obtain⟨us,HL,U⟩:=U;split at Z
    ·rename_i ys;simp only [VR] at OP;obtain⟨vs,KU,OP⟩:=OP;split at Z
     ·rename_i c Vu;have:=bE Z;simp only [aq] at this;obtain⟨rfl,rfl⟩:=this;obtain⟨g1,g2,g3⟩:=Fp (w:=w) cV U OP Vu .eql x y;exact lN.pure hp r (u:=.bool (c.den E.ρ)) (by simp [execOp,HL,KU,g1,g2]) (by simp only [VR])
     ·simp [T.leaf] at Z
    ·rename_i ys;simp only [VR] at OP;obtain⟨vs,KU,OP⟩:=OP;split at Z
     ·rename_i c Vu;have:=bE Z;simp only [aq] at this;obtain⟨rfl,rfl⟩:=this;obtain⟨g1,g2,g3⟩:=Fp (w:=w) cV U OP Vu .neq x y;exact lN.pure hp r (u:=.bool (!(c.den E.ρ))) (by simp [execOp,HL,KU,g1,g3]) (by simp only [VR,nP])
     ·simp [T.leaf] at Z
    ·simp [T.leaf] at Z
   ·split at Z
    ·rename_i e hna;obtain⟨q1,q2,q3,y',g1,g2,g3,g4⟩:=aab (P:=P) (w:=w) cV hna U OP hp Z;exact⟨q1,q3,pS.value (u:=y') (by simp [execOp,vZ (P:=P) (w:=w) g3 g4,g1]) ⟨E,by rw [q2]; exact fj.refl _ _ _,by rw [q2]; exact r,g2⟩⟩
    split at Z
    ·rename_i qq k e d Vr;obtain⟨rfl,hu1,hu2⟩:=T5 Vr U OP;obtain⟨q1,q2,q3,gB,q4⟩:=U' hp Z;refine⟨q1,q3,pS.value (u:=.int k (U! qq k (e.den E.ρ) (d.den E.ρ))) (w':=w) ?_ ⟨E,by rw [q2]; exact fj.refl _ _ _,by rw [q2]; exact r,q4 _⟩⟩;cases qq<;>simp [execOp,hu1,hu2,binOp,Op.intDiv,gB,eqGuard,U!,qOp]
    split at Z
    ·rename_i x' y' hsp;obtain⟨q1,q2,q3,⟨y'',g1,g2⟩,g3,g4⟩:=UK (P:=P) (w:=w) (t:=t) hp U OP hsp Z;exact⟨q1,q3,pS.value (u:=y'') (by simp [execOp,vZ (P:=P) (w:=w) g3 g4,g1]) ⟨E,by rw [q2]; exact fj.refl _ _ _,by rw [q2]; exact r,g2⟩⟩
    ·obtain⟨e1,rfl⟩:=iL Z;obtain⟨⟨y',g1,g2⟩,g3,g4⟩:=Za (w:=w) cV U OP e1;exact lN.pure hp r (u:=y') (by simp [execOp,vZ (P:=P) (w:=w) g3 g4,g1]) g2
  ·simp [T.leaf] at Z
 case unOp uop t x=>
  obtain⟨u,U,Z⟩:=ik sr h;obtain⟨e1,rfl⟩:=iL Z;obtain⟨y,g1,g2⟩:=aaD (P:=P) (w:=w) U e1;exact lN.pure hp r (u:=y) (by simp [execOp,g1]) g2
 case convert sT dT x=>
  obtain⟨u,U,Z⟩:=ik sr h;split at Z
  ·obtain⟨q1,q2,y,w',E',g1,g2,g3,g4⟩:=Pv (P:=P) cV r hp U Z;exact⟨q1,q2,pS.value (u:=y) (by simp [execOp,g1]) ⟨E',g2,g3,g4⟩⟩
  obtain⟨H,e1,rfl⟩:=pZ Z;obtain⟨y,w',E',g1,g2,g3,g4⟩:=Au cV r U e1;exact lN.heap hp (u:=y) (by simp [execOp,g1]) g2 g3 g4
 case makeFunc fn fs cs=>
  split at h
  ·rename_i f c hf Mg;have:=bE h;simp only [aq] at this;obtain⟨rfl,rfl⟩:=this;have U:=JV sr hf;have Z:=JV sr Mg;refine lN.pure hp r (u:=.func fn (fs.map a.eval) (cs.map a.eval)) (by simp [execOp,Instr.makeFunc]) ?_;simp only [VR];have m1:fs.map a.eval=(fs.toList.map a.eval).toArray:=KF _ _;have m2:cs.map a.eval=(cs.toList.map a.eval).toArray:=KF _ _;exact⟨_,_,by rw [m1,m2],U,Z⟩
  ·simp [T.leaf] at h
 case makeMap t res=>
  split at h
  ·split at h
   ·rename_i m hm;split at h
    ·have:=bE h;simp only [aq] at this;obtain⟨rfl,rfl⟩:=this
     obtain⟨s1,s2⟩:=vz r (.map #[] 0) (.uo (.eD (.i 0)) (m-100) (Y6 tt t) []) 0 (w':={ w with heap:=w.heap.push (.map #[] 0) }) rfl ⟨rfl,rfl,rfl⟩ (by
      simp only [OR,En.ext_θ_new]
      exact⟨⟨by simp [V.den,bC,D.l],ad,ad⟩,#[],0,ad,by simp [eY,V.den,bC,D.l]⟩)
     exact lN.heap hp (u:=.map (some w.heap.size)) (by simp [execOp,Instr.makeMap]) s1 s2 (by simp only [VR,En.ext_θ_new]; exact⟨trivial,En.gV _ _ _ _⟩)
    have:=bE h;simp only [aq] at this;obtain⟨rfl,rfl⟩:=this
    obtain⟨s1,s2⟩:=vz r (.map #[] 0) (.kQ (.eD (.i 0)) m) 0 (w':={ w with heap:=w.heap.push (.map #[] 0) }) rfl ⟨rfl,rfl,rfl⟩ (by
     simp only [OR,En.ext_θ_new]
     exact⟨#[],0,ad,by simp [lB,V.den,bC,D.l]⟩)
    exact lN.heap hp (u:=.map (some w.heap.size)) (by simp [execOp,Instr.makeMap]) s1 s2 (by simp only [VR,En.ext_θ_new]; exact⟨trivial,En.gV _ _ _ _⟩)
   have:=bE h;simp only [aq] at this;obtain⟨rfl,rfl⟩:=this
   obtain⟨s1,s2⟩:=vz r (.map #[] 0) (.map [] 0) 0 (w':={ w with heap:=w.heap.push (.map #[] 0) }) rfl ⟨rfl,rfl,rfl⟩ (by
    simp only [OR,En.ext_θ_new]
    exact⟨#[],0,ad,by simp [e9]⟩)
   exact lN.heap hp (u:=.map (some w.heap.size)) (by simp [execOp,Instr.makeMap]) s1 s2 (by simp only [VR,En.ext_θ_new]; exact⟨trivial,En.gV _ _ _ _⟩)
  ·simp [T.leaf] at h
 case slice t x lo hi mx=>
  obtain⟨u,U,Z⟩:=ik sr h;split at Z
  ·rename_i l hh m W hhh hm;split at Z
   ·obtain⟨q1,q2,q3,y,g1,g2⟩:=Ps (w:=w) cV hp U (eI sr W) (eI sr hhh) (eI sr hm) Z;exact⟨q1,q3,pS.value (u:=y) (by simp [execOp,g1]) ⟨E,by rw [q2]; exact fj.refl _ _ _,by rw [q2]; exact r,g2⟩⟩
   ·obtain⟨q1,q2,q3,y,g1,g2⟩:=Ff cV r hp (QA U) (eI sr W) (eI sr hhh) (eI sr hm) Z;exact⟨q1,q3,pS.value (u:=y) (by simp [execOp,g1]) ⟨E,by rw [q2]; exact fj.refl _ _ _,by rw [q2]; exact r,g2⟩⟩
   ·obtain⟨q1,q2,q3,y,g1,g2⟩:=Ff cV r hp U (eI sr W) (eI sr hhh) (eI sr hm) Z;exact⟨q1,q3,pS.value (u:=y) (by simp [execOp,g1]) ⟨E,by rw [q2]; exact fj.refl _ _ _,by rw [q2]; exact r,g2⟩⟩
   ·obtain⟨q1,q2,q3,y,g1,g2⟩:=Pc (w:=w) cV hp U (eI sr W) (eI sr hhh) (eI sr hm) Z;exact⟨q1,q3,pS.value (u:=y) (by simp [execOp,g1]) ⟨E,by rw [q2]; exact fj.refl _ _ _,by rw [q2]; exact r,g2⟩⟩
   ·obtain⟨q1,q2,q3,y,g1,g2⟩:=Pq (w:=w) cV hp U (eI sr W) (eI sr hhh) (eI sr hm) Z;exact⟨q1,q3,pS.value (u:=y) (by simp [execOp,g1]) ⟨E,by rw [q2]; exact fj.refl _ _ _,by rw [q2]; exact r,g2⟩⟩
   ·obtain⟨ew,h',fQ,zQ,h3⟩:=GJ hp (eI sr hhh) Z;obtain⟨e1,rfl⟩:=iL h3;obtain⟨y,g1,g2⟩:=yF (w:=w) cV U (eI sr W) zQ (eI sr hm) e1;exact⟨rfl,fQ,pS.value (u:=y) (by simp [execOp,g1]) ⟨E,fj.refl _ _ _,r,g2⟩⟩
   ·obtain⟨ew,h',fQ,zQ,h3⟩:=GJ hp (eI sr hhh) Z;obtain⟨e1,rfl⟩:=iL h3;obtain⟨y,g1,g2⟩:=yF (w:=w) cV U (eI sr W) zQ (eI sr hm) e1;exact⟨rfl,fQ,pS.value (u:=y) (by simp [execOp,g1]) ⟨E,fj.refl _ _ _,r,g2⟩⟩
   split at Z
   ·rename_i v' e1;have:=bE Z;simp only [aq] at this;obtain⟨rfl,rfl⟩:=this;obtain⟨y,g1,g2⟩:=yF (w:=w) cV U (eI sr W) (eI sr hhh) (eI sr hm) e1;exact lN.pure hp r (u:=y) (by simp [execOp,g1]) g2
   ·obtain⟨e1,rfl⟩:=iL Z;obtain⟨y,g1,g2⟩:=Mz (w:=w) cV r U (eI sr W) (eI sr hhh) (eI sr hm) e1;exact lN.pure hp r (u:=y) (by simp [execOp,g1]) g2
  ·simp [T.leaf] at Z
 case fieldAddr t x f=>
  obtain⟨u,U,Z⟩:=ik sr h;obtain⟨e1,rfl⟩:=iL Z;obtain⟨y,g1,g2⟩:=Fo (w:=w) cV U e1;exact lN.pure hp r (u:=y) (by simp [execOp,g1]) g2
 case field t x f=>
  obtain⟨u,U,Z⟩:=ik sr h;obtain⟨e1,rfl⟩:=iL Z;obtain⟨y,g1,g2⟩:=Pp (w:=w) cV U e1;exact lN.pure hp r (u:=y) (by simp [execOp,g1]) g2
 case indexAddr t x i=>
  obtain⟨u,U,Z⟩:=ik sr h;split at Z
  ·rename_i iv hi;split at Z
   ·obtain⟨e1,rfl⟩:=iL Z;obtain⟨y,g1,g2⟩:=Po (w:=w) cV hp U (gC sr hi) e1;exact lN.pure hp r (u:=y) (by simp [execOp,g1]) g2
   ·obtain⟨q1,q2,q3,y,g1,g2⟩:=Pt (w:=w) cV hp U (gC sr hi) Z;exact⟨q1,q3,pS.value (u:=y) (by simp [execOp,g1]) ⟨E,by rw [q2]; exact fj.refl _ _ _,by rw [q2]; exact r,g2⟩⟩
   ·obtain⟨q1,q2,q3,y,g1,g2⟩:=Pb (w:=w) cV hp U (gC sr hi) Z;exact⟨q1,q3,pS.value (u:=y) (by simp [execOp,g1]) ⟨E,by rw [q2]; exact fj.refl _ _ _,by rw [q2]; exact r,g2⟩⟩
   ·obtain⟨q1,q2,q3,y,g1,g2⟩:=Pa (w:=w) cV hp U (gC sr hi) Z;exact⟨q1,q3,pS.value (u:=y) (by simp [execOp,g1]) ⟨E,by rw [q2]; exact fj.refl _ _ _,by rw [q2]; exact r,g2⟩⟩
   ·rename_i pid po;split at Z
    ·rename_i n e hb;split at Z
     ·rename_i ho;subst ho;obtain⟨kd,ti,el,ie,rfl,b1,b2,b3,b4,b5⟩:=FY hb;obtain⟨ew,fQ,t1,t2,h3⟩:=n8 hp Z;have:=bE h3;simp only [aq] at this;obtain⟨rfl,rfl⟩:=this;have hiv:=gC sr hi;simp only [VR] at hiv;simp only [V.den] at t2;obtain⟨k,hk⟩ : ∃k:Nat,e.den E.ρ=(k:Int):=⟨(e.den E.ρ).toNat,J⟩;have gu:k<n:=by simp at t2; omega
      rw [hk] at hiv
      obtain⟨y,g1,g2⟩:=qy (P:=P) (w:=w) cV (t:=t) (ix:=.int kd (.lit (Int.ofNat k))) U (by simp only [VR,V.den]; exact hiv) (v:=.ptr pid (0+k*ie.size)) (by
       unfold oJ;simp only [k8,b1,b2,jb,b3,amu];rw [ak gu]
       rfl)
      refine⟨rfl,fQ,pS.value (u:=y) (by simp [execOp,g1]) ⟨E,fj.refl _ _ _,r,?_⟩⟩;simp only [VR] at g2 ⊢;exact⟨g2.2,k,hk,by rw [g2.1,b4]; congr 3; omega⟩
     ·simp [T.leaf] at Z
    ·obtain⟨ix',ew,fQ,zV,Z⟩:=AN hp (gC sr hi) Z;obtain⟨e1,rfl⟩:=iL Z;obtain⟨y,g1,g2⟩:=qy (w:=w) cV U zV e1;exact⟨rfl,fQ,pS.value (u:=y) (by simp [execOp,g1]) ⟨E,fj.refl _ _ _,r,g2⟩⟩
   ·obtain⟨ix',ew,fQ,zV,Z⟩:=AN hp (gC sr hi) Z;obtain⟨e1,rfl⟩:=iL Z;obtain⟨y,g1,g2⟩:=qy (w:=w) cV U zV e1;exact⟨rfl,fQ,pS.value (u:=y) (by simp [execOp,g1]) ⟨E,fj.refl _ _ _,r,g2⟩⟩
  ·simp [T.leaf] at Z
 case index t x i=>
  obtain⟨u,U,Z⟩:=ik sr h;split at Z
  ·rename_i iv hi;split at Z
   ·obtain⟨q1,q2,q3,y,g1,g2⟩:=Pd (w:=w) cV hp U (gC sr hi) Z;exact⟨q1,q3,pS.value (u:=y) (by simp [execOp,g1]) ⟨E,by rw [q2]; exact fj.refl _ _ _,by rw [q2]; exact r,g2⟩⟩
   ·rename_i cs;split at Z
    ·rename_i n e hb;split at Z
     ·rename_i hn;have hn:=az hn;obtain⟨kd,ti,el,ie,rfl,b1,b2,b3,b4,b5⟩:=FY hb;obtain⟨q1,q2,q3,k,kk,z,x',c1,c2,c3,rfl,c5⟩:=Mu hp Z;have hiv:=gC sr hi;simp only [VR] at hiv;rw [c1] at hiv;obtain⟨l,hd⟩:=BQ c3
      obtain⟨y,g1,g2⟩:=yH (P:=P) (w:=w) cV (t:=t) (ix:=.int kd (.lit (Int.ofNat k))) U (by simp only [VR,V.den]; exact hiv) (v:=.int kk (.lit z)) (by
       unfold Ar;simp only [k8,b1,b2,b3];rw [ak J,b4,anB,hd]
       simp [partOf,b5])
      refine⟨q1,q3,pS.value (u:=y) (w':=w) (by simp [execOp,g1]) ⟨E,by rw [q2]; exact fj.refl _ _ _,by rw [q2]; exact r,?_⟩⟩;simp only [VR,V.den] at g2 ⊢;rw [g2,c5]
     ·simp [T.leaf] at Z
    ·obtain⟨ix',ew,fQ,zV,Z⟩:=AN hp (gC sr hi) Z;obtain⟨e1,rfl⟩:=iL Z;obtain⟨y,g1,g2⟩:=yH (w:=w) cV U zV e1;exact⟨rfl,fQ,pS.value (u:=y) (by simp [execOp,g1]) ⟨E,fj.refl _ _ _,r,g2⟩⟩
   obtain⟨ix',ew,fQ,zV,Z⟩:=AN hp (gC sr hi) Z;obtain⟨e1,rfl⟩:=iL Z;obtain⟨y,g1,g2⟩:=yH (w:=w) cV U zV e1;exact⟨rfl,fQ,pS.value (u:=y) (by simp [execOp,g1]) ⟨E,fj.refl _ _ _,r,g2⟩⟩
  ·simp [T.leaf] at Z
 case lookup t m k ok=>
  obtain⟨u,U,Z⟩:=ik sr h;split at Z
  ·rename_i kv hk;split at Z
   ·rename_i id e t' hD
    obtain⟨q1,q2,q3,y,g1,g2⟩:=Pm (P:=P) cV r hp U (gC sr hk) hD Z;exact⟨q1,q3,pS.value (u:=y) (by simp [execOp,g1]) ⟨E,by rw [q2]; exact fj.refl _ _ _,by rw [q2]; exact r,g2⟩⟩
   split at Z
   ·rename_i hD
    obtain⟨q1,q2,q3,y,g1,g2⟩:=Pl (P:=P) cV r hp U (gC sr hk) hD Z;exact⟨q1,q3,pS.value (u:=y) (by simp [execOp,g1]) ⟨E,by rw [q2]; exact fj.refl _ _ _,by rw [q2]; exact r,g2⟩⟩
   obtain⟨ew,fQ,Z⟩:=qT hp Z;obtain⟨e1,rfl⟩:=iL Z;obtain⟨y,g1,g2⟩:=MC cV fQ r U (gC sr hk) e1;exact⟨rfl,fQ,pS.value (u:=y) (by simp [execOp,g1]) ⟨E,fj.refl _ _ _,r,g2⟩⟩
  ·simp [T.leaf] at Z
 case mapUpdate t m k x=>
  obtain⟨u,U,Z⟩:=ik sr h;split at Z
  ·rename_i kv xv hk hx;split at Z
   ·obtain⟨q1,q2,rfl,w',E',g1,g2,g3⟩:=Ie (P:=P) cV r hp U (gC sr hk) (gC sr hx) Z;exact⟨q1,q2,pS.skip (by simp [execOp,g1]) ⟨E',g2,g3,mc⟩⟩
   split at Z
   ·rename_i hD
    obtain⟨q1,q2,rfl,w',g1,g2,g3⟩:=CC (P:=P) cV r hp U (gC sr hk) (gC sr hx) hD Z;exact⟨q1,q2,pS.skip (by simp [execOp,g1]) ⟨E,g2,g3,mc⟩⟩
   obtain⟨ew,fQ,Z⟩:=qT hp Z;obtain⟨H,e1,rfl,rfl⟩:=zq Z;obtain⟨w',g1,g2,g3⟩:=vV cV fQ r U (gC sr hk) (gC sr hx) e1;exact⟨rfl,fQ,pS.skip (by simp [execOp,g1]) ⟨E,g2,g3,mc⟩⟩
  ·simp [T.leaf] at Z
 case range t x=>
  obtain⟨u,U,Z⟩:=ik sr h;obtain⟨H,e1,rfl⟩:=pZ Z;obtain⟨y,w',E',g1,g2,g3,g4⟩:=Pg cV r U e1;exact lN.heap hp (u:=y) (by simp [execOp,g1]) g2 g3 g4
 case next x isS=>
  obtain⟨u,U,Z⟩:=ik sr h;obtain⟨H,e1,rfl⟩:=pZ Z;obtain⟨y,w',g1,g2,g3,g4⟩:=UM (P:=P) r U e1 type;exact lN.heap hp (u:=y) (by simp [execOp,g1]) g2 g3 g4
 case extract x i=>
  obtain⟨u,U,Z⟩:=ik sr h;split at Z
  ·rename_i vs;obtain⟨e1,rfl⟩:=iL Z;simp only [VR] at U;obtain⟨us,HL,U⟩:=U;obtain⟨y,g1,g2⟩:=U.nth e1;exact lN.pure hp r (u:=y) (by simp [execOp,Instr.extract,HL,g1]) g2
  ·simp [T.leaf] at Z
 case call c=>exact UR cV hc r sr hp rfl h
end
section
variable {P:Program}
structure Fit [bJ] (E:En) (s:St) (a:Act) (w:World):Prop where
 rel:bS E s.h w
 sr:SR E w.heap s.bG a
 pc:ca E.ρ s.pc
structure nG [bJ] (E:En) (s:St) (a:Act) (w:World) (s':St) (a':Act) (w':World):Prop where
 defers:a'.defers=a.defers
 size:a'.tmps.size=a.tmps.size
 step: ∃E',fj E s.h w E' s'.h w'/\Fit E' s' a' w'
theorem nG.refl [bJ] {E:En} {s:St} {a:Act} {w:World} (f:Fit E s a w):nG E s a w s a w:=⟨rfl,rfl,E,fj.refl _ _ _,f⟩
theorem SR.cD {E E':En} {h h':Array Obj} (k:fU E h E' h') {bG:Tr Y} {a:Act} (sr:SR E h bG a):SR E' h' bG a:=by intro t v ht;obtain⟨u,U,Z⟩:=sr t v ht;exact⟨u,U,VR.cD k v u Z⟩
theorem SR.put {E:En} {h:Array Obj} {bG:Tr Y} {a:Act} (sr:SR E h bG a) {d:Nat} {v:Y} {u:Value} (hd:d<a.tmps.size) (hv:VR E h v u):SR E h (bG.put d (some v)) (a.put (some d) u):=by
 intro t x ht;rw [Tr.bU] at ht;simp only [Act.put];split at ht
 ·rename_i e
  grind
 ·rename_i e;obtain⟨y,U,Z⟩:=sr t x ht
  grind
theorem SR.aj7 {E:En} {h:Array Obj} {s:St} {a:Act} (sr:SR E h s.bG a) {d:Option Nat} {v:Y} {u:Value} (hd: ∀t,d=some t->t<a.tmps.size) (hv:VR E h v u):SR E h (s.Lr d v).bG (a.put d u):=by
 cases d with
 |none=>exact sr
 |some t=>exact sr.put (hd t rfl) hv
theorem Ed (a:Act) (d:Option Nat) (u:Value):(a.put d u).tmps.size=a.tmps.size:=by cases d<;>simp [Act.put]
theorem put_defers (a:Act) (d:Option Nat) (u:Value):(a.put d u).defers=a.defers:=by cases d<;>rfl
theorem Xp (s:St) (d:Option Nat) (v:Y):(s.Lr d v).h=s.h:=by cases d<;>rfl
theorem S_ (s:St) (d:Option Nat) (v:Y):(s.Lr d v).pc=s.pc:=by cases d<;>rfl
theorem H3 [bJ] {E:En} {s s':St} {a:Act} {w w':World} {v:Y} {u:Value} {d:Option Nat} (f:Fit E s a w) (hs:s'.bG=s.bG) (hp:ca E.ρ s'.pc) (h:NA E s w v s' u w') (hd: ∀t,d=some t->t<a.tmps.size) :
 nG E s a w (s'.Lr d v) (a.put d u) w':=by
 obtain⟨E',U,Z,h3⟩:=h;refine⟨put_defers _ _ _,Ed _ _ _,E',by rw [Xp]; exact U,⟨by rw [Xp]; exact Z,?_,by rw [S_,U.ρ]; exact hp⟩⟩;refine SR.aj7 ?_ hd h3;rw [hs];exact f.sr.cD (U.keeps f.rel)
theorem nG.trans [bJ] {E:En} {s s1 s2:St} {a a1 a2:Act} {w w1 w2:World} (U:nG E s a w s1 a1 w1) (Z: ∀E1,fj E s.h w E1 s1.h w1->Fit E1 s1 a1 w1->nG E1 s1 a1 w1 s2 a2 w2):nG E s a w s2 a2 w2:=by obtain⟨d1,z1,E1,D0,f1⟩:=U;obtain⟨d2,z2,E2,u6,f2⟩:=Z E1 D0 f1;exact⟨d2.trans d1,z2.trans z1,E2,D0.trans u6,f2⟩
theorem Eu [bJ] {α:Type} {E:En} {w:World} {s:St} {a:Act} {ops:Array Oper} {o:Oper} {f:St->Bool->T α} {r:α} (fit:Fit E s a w) (h:(wM ops.toList s o f).leaf E.ρ=some r) :
 ∃ew,ca E.ρ ew/\(f { s with pc:=ew } (Region.wanted o (yielded ops a.tmps))).leaf E.ρ=some r:=by
 unfold wM at h;unfold Region.wanted;split at h
 ·rename_i hg;rw [hg];exact⟨s.pc,fit.pc,h⟩
 ·rename_i j want hg;rw [hg];split at h
  ·rename_i oj hj;rw [dC,amp] at hj;split at h
   ·rename_i d hd;split at h
    ·rename_i c hc;obtain⟨u,U,Z⟩:=fit.sr d _ hc;simp only [VR] at Z;subst Z;obtain⟨ew,fQ,h3⟩:=cR fit.pc h;refine⟨ew,fQ,?_⟩;have:yielded ops a.tmps j=some (c.den E.ρ):=by simp [yielded,hj,hd,U]
     simp only [this];simpa using h3
    ·rename_i vs hc;obtain⟨u,U,Z⟩:=fit.sr d _ hc;simp only [VR] at Z;obtain⟨us,rfl,_⟩:=Z;refine⟨s.pc,fit.pc,?_⟩;have:yielded ops a.tmps j=none:=by simp [yielded,hj,hd,U]
     simp only [this];simpa using h
    ·simp [T.leaf] at h
   ·simp [T.leaf] at h
  ·simp [T.leaf] at h
def af5 (n:Nat) (ops:List Oper):Bool:=ops.all fun o=>match o.dst with |some d=>d<n|none=>true
theorem Fk [bJ] {tt:TT} (cV:eJ P tt) {call:eB} (hc:iY P call) {ops:Array Oper} {Q:Exit->Act->World->Prop}: ∀(rest:List Oper) (i:Nat) {E:En} {s s':St} {a:Act} {w:World},ops.toList.drop i=rest->
 (∀o∈rest,∀d,o.dst=some d->d<a.tmps.size)->Fit E s a w->(MB tt call ops.toList rest s).leaf E.ρ=some s'->
 (∀a' w',nG E s a w s' a' w'->Q .normal a' w')->wpOps P ops Q (List.range' i rest.length) a w
 |[],i,E,s,s',a,w,_,_,fit,h,hq=>by have:=bE h;subst this;exact hq a w (nG.refl fit)
 |o::rest,i,E,s,s',a,w,hi,hd,fit,h,hq=>by
  simp only [MB] at h;obtain⟨ew,fQ,U⟩:=Eu fit h
  have hoi:ops[i]?=some o:=by
   have:=congrArg (·[0]?) hi
   grind
  have acf:ops.toList.drop (i+1)=rest:=by have:=congrArg List.tail hi;simpa using this
  have UH:Fit E { s with pc:=ew } a w:=⟨fit.rel,fit.sr,fQ⟩;simp only [aQ,List.range'_succ];show wpOps P ops Q (i::List.range' (i+1) rest.length) a w;simp only [wpOps,hoi];cases hw:Region.wanted o (yielded ops a.tmps)<;>rw [hw] at U
  ·simp only [aC,if_false] at U ⊢
   have Cr:nG E s a w (St.Lr { s with pc:=ew } o.dst Y.undef) (a.put o.dst undef) w:=
    H3 (s':={ s with pc:=ew }) fit rfl fQ ⟨E,fj.refl _ _ _,fit.rel,mc⟩ (hd o ad)
   obtain⟨d1,z1,E1,D0,f1⟩:=Cr;refine Fk cV hc rest (i+1) acf (fun o' zQ d EU=>by rw [z1]; exact hd o' (by simp [zQ]) d EU) f1 (by rw [D0.ρ]; exact U) fun a' w' ht=>?_;exact hq a' w' ⟨ht.defers.trans d1,ht.size.trans z1,by obtain⟨E2,u6,f2⟩:=ht.step; exact⟨E2,D0.trans u6,f2⟩⟩
  ·simp only [if_true] at U ⊢;left;obtain⟨⟨v,s1⟩,Z,h3⟩:=T.fD U;obtain⟨q1,q2,q3⟩:=Sm cV hc (o:=o) UH.rel UH.sr UH.pc Z;refine q3 _ _ fun u w1 hu=>?_;have Cr:nG E s a w (s1.Lr o.dst v) (a.put o.dst u) w1:=H3 (s:=s) (s':=s1) fit q1 q2 hu (hd o ad);obtain⟨d1,z1,E1,D0,f1⟩:=Cr;refine Fk cV hc rest (i+1) acf (fun o' zQ d EU=>by rw [z1]; exact hd o' (by simp [zQ]) d EU) f1 (by rw [D0.ρ]; exact h3) fun a' w' ht=>?_;exact hq a' w' ⟨ht.defers.trans d1,ht.size.trans z1,by obtain⟨E2,u6,f2⟩:=ht.step; exact⟨E2,D0.trans u6,f2⟩⟩
def abd [bJ] (P:Program) (draw:List Oper->St->T St):Prop:=
 ∀(id:Nat) (ops:Array Oper) (E:En) (s s':St) (a:Act) (w:World) (Q:Exit->Act->World->Prop),(∀o∈ops.toList,∀d,o.dst=some d->d<a.tmps.size)->Fit E s a w->(draw ops.toList s).leaf E.ρ=some s'->
  (∀a' w',nG E s a w s' a' w'->Q .normal a' w')->(Code.region id ops true).wp P Q a w
def wx [bJ] (P:Program) (rF:Nat->List Oper->Bool) (draw:Nat->List Oper->St->T St):Prop:=
 ∀(id:Nat) (ops:Array Oper),rF id ops.toList=true->∀(E:En) (s s':St) (a:Act) (w:World) (Q:Exit->Act->World->Prop),(∀o∈ops.toList,∀d,o.dst=some d->d<a.tmps.size)->Fit E s a w->(draw id ops.toList s).leaf E.ρ=some s'->
  (∀a' w',nG E s a w s' a' w'->Q .normal a' w')->(Code.region id ops true).wp P Q a w
def kN (rF:Nat->List Oper->Bool) (n:Nat):Code->Bool
 | .region id ops d=>af5 n ops.toList&&(!d||rF id ops.toList)
 | .seq a b=>kN rF n a&&kN rF n b
 | .cond _ a b=>kN rF n a&&kN rF n b
 | .block _ b=>kN rF n b
 | .loop b=>kN rF n b
 | .scope b=>kN rF n b
 |_=>true
theorem aaQ {n m:Nat} {ops:List Oper} (h:af5 n ops=true) (hm:n<=m): ∀o∈ops,∀d,o.dst=some d->d<m:=by
 intro o ho d hd;unfold af5 at h
 grind
def yd:Ex->Exit
 | .normal=> .normal
 | .exit id=> .exit id
 | .ret=> .ret
def agd [bJ] (E:En) (s:St) (a:Act) (w:World) (e:Ex) (s':St) (x:Exit) (a':Act) (w':World):Prop:=x=yd e/\nG E s a w s' a' w'
theorem nG.comp [bJ] {E E1:En} {s s1 s2:St} {a a1 a2:Act} {w w1 w2:World} (d1:a1.defers=a.defers) (z1:a1.tmps.size=a.tmps.size) (D0:fj E s.h w E1 s1.h w1) (Z:nG E1 s1 a1 w1 s2 a2 w2):nG E s a w s2 a2 w2:=by obtain⟨d2,z2,E2,u6,f2⟩:=Z;exact⟨d2.trans d1,z2.trans z1,E2,D0.trans u6,f2⟩
def y? [bJ] (P:Program) (c:Code) (n:Nat) (f:St->T (Ex×St)):Prop:=
 ∀(E:En) (s s':St) (e:Ex) (a:Act) (w:World),n<=a.tmps.size->Fit E s a w->(f s).leaf E.ρ=some (e,s')->c.wp P (agd E s a w e s') a w
theorem Fl {ρ:Nat->Int} {f:St->T (Ex×St)}: ∀(k:Nat) {s s':St} {e:Ex},(vX f k s).leaf ρ=some (e,s')->e≠.normal
 |0,s,s',e,h=>by simp [vX,T.leaf] at h
 |k+1,s,s',e,h=>by
  simp only [vX] at h;obtain⟨⟨e1,s1⟩,U,Z⟩:=T.fD h
  cases e1 with
  |normal=>exact Fl k Z
  |exit id=>have:=bE Z; simp only [aq] at this; rw [<- this.1]; simp
  |ret=>have:=bE Z; simp only [aq] at this; rw [<- this.1]; simp
theorem Ih [bJ] {c:Code} {n:Nat} {f:St->T (Ex×St)} (hf:y? P c n f): ∀(k:Nat) {E:En} {s s':St} {e:Ex} {a:Act} {w:World},n<=a.tmps.size->Fit E s a w->(vX f k s).leaf E.ρ=some (e,s')->
 ∀(Q:Exit->Act->World->Prop),(∀a' w',nG E s a w s' a' w'->Q (yd e) a' w')->e≠.normal/\Code.rounds P c Q k a w
 |0,E,s,s',e,a,w,_,_,h,_,_=>by simp [vX,T.leaf] at h
 |k+1,E,s,s',e,a,w,hn,fit,h,Q,hq=>by
  simp only [vX] at h;obtain⟨⟨e1,s1⟩,U,Z⟩:=T.fD h;have hw:=hf E s s1 e1 a w hn fit U;rw [rounds_succ]
  cases e1 with
  |normal=>
   simp only at Z;constructor
   ·exact Fl k Z
   ·refine wp_mono hw fun x a1 w1 ⟨hx,ht⟩=>?_;subst hx;obtain⟨d1,z1,E1,D0,f1⟩:=ht;exact (Ih hf k (by rw [z1]; exact hn) f1 (by rw [D0.ρ]; exact Z) Q fun a' w' ht'=>hq a' w' (ht'.comp d1 z1 D0)).2
  |exit id=> have:=bE Z;simp only [aq] at this;obtain⟨rfl,rfl⟩:=this;refine⟨ad,wp_mono hw fun x a1 w1 ⟨hx,ht⟩=>?_⟩;subst hx;exact hq a1 w1 ht
  |ret=> have:=bE Z;simp only [aq] at this;obtain⟨rfl,rfl⟩:=this;refine⟨ad,wp_mono hw fun x a1 w1 ⟨hx,ht⟩=>?_⟩;subst hx;exact hq a1 w1 ht
theorem lJ [bJ] {tt:TT} (cV:eJ P tt) {call:eB} (hc:iY P call) {draw:Nat->List Oper->St->T St} {rF:Nat->List Oper->Bool} (ES:wx P rF draw) {lf n:Nat}: ∀(c:Code),kN rF n c=true->y? P c n (jL tt call draw lf c)
 | .skip,_,E,s,s',e,a,w,_,fit,h=>by have:=bE h;simp only [aq] at this;obtain⟨rfl,rfl⟩:=this;exact wp_skip ⟨rfl,nG.refl fit⟩
 | .region id ops d,nF,E,s,s',e,a,w,hn,fit,h=>by
   simp only [jL] at h;simp only [kN,au] at nF;have hd:=aaQ nF.1 hn;cases d
   ·simp only [aC,if_false] at h;obtain⟨s1,U,Z⟩:=T.fD h;have:=bE Z;simp only [aq] at this;obtain⟨rfl,rfl⟩:=this;refine wp_region ?_;have:=Fk (Q:=agd E s a w .normal s1) cV hc ops.toList 0 ad hd fit U (fun a' w' ht=> ⟨rfl,ht⟩);rw [List.range_eq_range']
    grind
   ·simp only [if_true] at h;obtain⟨s1,U,Z⟩:=T.fD h;have:=bE Z;simp only [aq] at this;obtain⟨rfl,rfl⟩:=this;exact ES id ops (by simpa using nF.2) E s s1 a w _ hd fit U (fun a' w' ht=> ⟨rfl,ht⟩)
 | .seq x y,nF,E,s,s',e,a,w,hn,fit,h=>by
   simp only [kN,au] at nF;simp only [jL] at h;obtain⟨⟨e1,s1⟩,U,Z⟩:=T.fD h;refine wp_seq (wp_mono (lJ cV hc ES x nF.1 E s s1 e1 a w hn fit U) fun q a1 w1 ⟨hx,ht⟩=>?_);subst hx
   cases e1 with
   |normal=> simp only at Z;obtain⟨d1,z1,E1,D0,f1⟩:=ht;refine wp_mono (lJ cV hc ES y nF.2 E1 s1 s' e a1 w1 (by rw [z1]; exact hn) f1 (by rw [D0.ρ]; exact Z)) fun q a2 w2 ⟨hx,ht'⟩=>?_;exact⟨hx,ht'.comp d1 z1 D0⟩
   |exit id=> have:=bE Z;simp only [aq] at this;obtain⟨rfl,rfl⟩:=this;exact⟨rfl,ht⟩
   |ret=> have:=bE Z;simp only [aq] at this;obtain⟨rfl,rfl⟩:=this;exact⟨rfl,ht⟩
 | .cond c x y,nF,E,s,s',e,a,w,hn,fit,h=>by
   simp only [kN,au] at nF;simp only [jL] at h;split at h
   ·rename_i cb hcb;have hv:=gC fit.sr hcb;simp only [VR] at hv;obtain⟨ew,fQ,U⟩:=cR fit.pc h;have UH:Fit E { s with pc:=ew } a w:=⟨fit.rel,fit.sr,fQ⟩;refine wp_cond hv ?_;cases RW:cb.den E.ρ<;>rw [RW] at U
    ·simp only [aC,if_false] at U ⊢;exact wp_mono (lJ cV hc ES y nF.2 E _ s' e a w hn UH U) fun q a2 w2 ⟨hx,ht⟩=> ⟨hx,ht.defers,ht.size,ht.step⟩
    ·simp only [if_true] at U ⊢;exact wp_mono (lJ cV hc ES x nF.1 E _ s' e a w hn UH U) fun q a2 w2 ⟨hx,ht⟩=> ⟨hx,ht.defers,ht.size,ht.step⟩
   ·simp [T.leaf] at h
 | .block id b,nF,E,s,s',e,a,w,hn,fit,h=>by
   simp only [kN] at nF;simp only [jL] at h;obtain⟨⟨e1,s1⟩,U,Z⟩:=T.fD h;refine wp_block (wp_mono (lJ cV hc ES b nF E s s1 e1 a w hn fit U) fun q a1 w1 ⟨hx,ht⟩=>?_);subst hx
   cases e1 with
   |normal=> have:=bE Z;simp only [aq] at this;obtain⟨rfl,rfl⟩:=this;exact⟨rfl,ht⟩
   |exit j=>
    have:=bE Z;simp only [aq] at this;obtain⟨rfl,rfl⟩:=this;simp only [yd,Exit.inBlock];by_cases hj:j=id
    ·rw [ak hj,ak hj]; exact⟨rfl,ht⟩
    ·rw [ah hj,ah hj]; exact⟨rfl,ht⟩
   |ret=> have:=bE Z;simp only [aq] at this;obtain⟨rfl,rfl⟩:=this;exact⟨rfl,ht⟩
 | .loop b,nF,E,s,s',e,a,w,hn,fit,h=>by simp only [kN] at nF;simp only [jL] at h;exact wp_loop_rounds lf (Ih (lJ cV hc ES b nF) lf hn fit h (agd E s a w e s') (fun a' w' ht=> ⟨rfl,ht⟩)).2
 | .exit id,_,E,s,s',e,a,w,_,fit,h=>by have:=bE h;simp only [aq] at this;obtain⟨rfl,rfl⟩:=this;exact wp_exit ⟨rfl,nG.refl fit⟩
 | .scope b,nF,E,s,s',e,a,w,hn,fit,h=>by simp only [kN] at nF;simp only [jL] at h;refine wp_scope_straight (wp_mono (lJ cV hc ES b nF E s s' e a w hn fit h) fun q a1 w1 ⟨hx,ht⟩=>?_);subst hx;cases e<;>exact⟨rfl,ht⟩
 | .label l,_,E,s,s',e,a,w,_,fit,h=>by have:=bE h;simp only [aq] at this;obtain⟨rfl,rfl⟩:=this;exact wp_label ⟨rfl,nG.refl fit⟩
 | .ret,_,E,s,s',e,a,w,_,fit,h=>by have:=bE h;simp only [aq] at this;obtain⟨rfl,rfl⟩:=this;exact wp_ret ⟨rfl,nG.refl fit⟩
 | .rangeFunc _ _ _ _,_,E,s,s',e,a,w,_,fit,h=>by simp [jL,T.leaf] at h
 | .goto _,_,E,s,s',e,a,w,_,fit,h=>by simp [jL,T.leaf] at h
 | .refuse _,_,E,s,s',e,a,w,_,fit,h=>by simp [jL,T.leaf] at h
end
section
variable {P:Program}
theorem L4: ∀(args:List Y) (i:Nat) (t:Tr Y) (k:Nat),(cC args i t).get k=if i<=k/\k<i+args.length then args[k-i]? else t.get k
 |[],i,t,k=>by
  have: ¬(i<=k/\k<i+([]:List Y).length):=ad
  rw [ah this];rfl
 |v::vs,i,t,k=>by
  simp only [cC,L4 vs (i+1),Tr.bU,aQ]
  grind
theorem cJ.get {E:En} {h:Array Obj}: ∀{vs:List Y} {us:List Value},cJ E h vs us->∀(i:Nat) (v:Y),vs[i]?=some v->∃u,us[i]?=some u/\VR E h v u
 |[],us,hv,i,v,hi=>by simp at hi
 |x::xs,us,hv,i,v,hi=>by
  cases us with
  |nil=>simp [cJ] at hv
  |cons y ys=>
   simp only [cJ] at hv;obtain⟨u',gX,he,U,Z⟩:=hv;simp only [List.cons.injEq] at he;obtain⟨rfl,rfl⟩:=he
   cases i with
   |zero=>simp at hi; subst hi; exact⟨y,ad,U⟩
   |succ i=>simpa using cJ.get Z i v (by simpa using hi)
theorem zL {E:En} {h:Array Obj} {args:List Y} {vals:List Value} (hv:cJ E h args vals) (n:Nat) :
 SR E h (cC args 0 .nil) { tmps:=vals.toArray++Array.replicate n undef,defers:=[] }:=by
 intro t v ht;rw [L4] at ht;split at ht
 ·rename_i hk;obtain⟨u,U,Z⟩:=cJ.get hv t v (by simpa using ht)
  grind
 ·simp [Tr.get] at ht
def vt (a:Act):ResultVar->Sem Value
 | .tmp t=>pure (a.tmps.getD t undef)
 | .cell b t=>do loadVar t (<- asAddr (a.tmps.getD b undef))
def Bf (vs:List Y):Y:=match vs with |[x]=>x|vs=> .tuple vs
theorem G8 {vs:List Y} (h: ∀v,vs= [v]->False):Bf vs= .tuple vs:=by
 unfold Bf
 grind
theorem Db {E:En} {h:Array Obj} {vs:List Y} {us:List Value} (g2:cJ E h vs us):VR E h (Bf vs) (if h:us.toArray.size=1 then us.toArray[0] else .tuple us.toArray):=by
 cases vs with
 |nil=> simp only [cJ] at g2;subst g2;simp [Bf,VR,cJ]
 |cons x xs=>
  cases xs with
  |nil=> simp only [cJ] at g2;obtain⟨u,gX,rfl,U,rfl⟩:=g2;simpa [Bf] using U
  |cons x2 xs=>
   have g3:=g2;simp only [cJ] at g2;obtain⟨u,gX,rfl,U,u2,us2,rfl,Z,h3⟩:=g2;have: ¬((u::u2::us2).toArray.size=1):=ad
   rw [dif_neg this];simp only [Bf,VR]
   grind
theorem MA [bJ] {tt:TT} (cV:eJ P tt) {E:En} {s:St} {a:Act} {w:World} (fit:Fit E s a w) {r:ResultVar} {v:Y} (h:Am tt s r=some v) :
 ∃u,(vt a r).run P w= .ok u w/\VR E w.heap v u:=by
 cases r with
 |tmp t=> simp only [Am] at h;obtain⟨u,U,Z⟩:=fit.sr t v h;exact⟨u,by simp [vt,U,amX],Z⟩
 |cell b t=>
  simp only [Am] at h;split at h
  ·rename_i p hp;obtain⟨u,U,Z⟩:=fit.sr b p hp;obtain⟨x,bb,o,rfl,h3,h4⟩:=BK cV fit.rel Z h;exact⟨x,by simp [vt,U,amX,asAddr,h3],h4⟩
  grind
theorem uq [bJ] {tt:TT} (cV:eJ P tt) {E:En} {s:St} {a:Act} {w:World} (fit:Fit E s a w): ∀{rs:List ResultVar} {vs:List Y},lI tt s rs=some vs->
 ∃us,(rs.mapM (vt a)).run P w= .ok us w/\cJ E w.heap vs us
 |[],vs,h=>by simp [lI] at h;subst h;exact⟨[],ad,by simp [cJ]⟩
 |r::rs,vs,h=>by
  simp only [lI] at h;split at h
  ·grind
  ·rename_i v hv;split at h
   ·grind
   ·rename_i NC KU;simp at h;subst h;obtain⟨u,U,Z⟩:=MA cV fit hv;obtain⟨us,h3,h4⟩:=uq cV fit KU;refine⟨u::us,?_,by simp only [cJ]; exact⟨u,us,rfl,Z,h4⟩⟩;rw [anh];simp [Sem.run_bind,U,h3]
def Ve (P:Program) (rF:Nat->Nat->List Oper->Bool) (ft:Nat->Option Func):Prop:= ∀g fn,ft g=some fn->P.funcs[g]?=some fn/\(fn.name == "runtime.NumGoroutine")=false/\∀c,fn.body=some c->kN (rF g) fn.ntmps c=true
theorem At [bJ] {tt:TT} (cV:eJ P tt) {rF:Nat->Nat->List Oper->Bool} {ft:Nat->Option Func} (hft:Ve P rF ft) {hook:Nat->Option (List Y->St->T (Y×St))} (hh: ∀g h,hook g=some h->kR P g h)
 {draw:eB->Nat->Nat->List Oper->St->T St} (ES: ∀call,iY P call->∀g,wx P (rF g) (draw call g)) (lf:Nat): ∀(n:Nat),iY P (J8 tt ft hook draw lf n)
 |0=>by intro g args s E w vals v s' _ _ _ h;simp [J8,T.leaf] at h
 |n+1=>by
  have ih:=At cV hft hh ES lf n;intro g args s E w vals v s' r hv hp h;simp only [J8] at h;split at h
  ·rename_i f hf;exact hh g f hf args s E w vals v s' r hv hp h
  ·split at h
   ·simp [T.leaf] at h
   ·rename_i fn vc;obtain⟨hf,mi,nF⟩:=hft g fn vc;split at h
    ·simp [T.leaf] at h
    ·rename_i c hb;obtain⟨⟨e,s1⟩,U,Z⟩:=T.fD h
     have fit:Fit E { s with bG:=cC args 0 .nil } { tmps:=vals.toArray++Array.replicate (fn.ntmps-vals.toArray.size) undef,defers:=[] } w:=
      ⟨r,zL hv _,hp⟩
     have hwp:=lJ cV ih (ES _ ih g) (lf:=lf) c (nF c hb) E _ s1 e _ w (by simp; omega) fit U
     have akF: ∃vs,lI tt s1 fn.results.toList=some vs/\(e= .normal\/e= .ret)/\s'= { s1 with bG:=s.bG }/\v=Bf vs:=by
      cases e with
      |exit id=>simp [T.leaf] at Z
      |normal=>
       simp only at Z;split at Z
       ·rename_i x hx;have:=bE Z;simp only [aq] at this;exact⟨_,hx,.inl rfl,this.2.symm,this.1.symm⟩
       ·rename_i vs hn hx;have:=bE Z;simp only [aq] at this;refine⟨_,hx,.inl rfl,this.2.symm,?_⟩;rw [<- this.1];exact (G8 hn).symm
       ·simp [T.leaf] at Z
      |ret=>
       simp only at Z;split at Z
       ·rename_i x hx;have:=bE Z;simp only [aq] at this;exact⟨_,hx,.inr rfl,this.2.symm,this.1.symm⟩
       ·rename_i vs hn hx;have:=bE Z;simp only [aq] at this;refine⟨_,hx,.inr rfl,this.2.symm,?_⟩;rw [<- this.1];exact (G8 hn).symm
       ·simp [T.leaf] at Z
     obtain⟨vs,hr,he,rfl,rfl⟩:=akF
     have hpc:ca E.ρ s1.pc:=by
      obtain⟨_,_,_,⟨_,ht⟩,_⟩:=hwp default [] [];obtain⟨E1,D0,f1⟩:=ht.step;have:=f1.pc;rw [D0.ρ] at this
      grind
     refine⟨rfl,hpc,?_⟩
     have ak5:Calls P g vals.toArray w fun e w''=> ∃u,e= .returned u/\NA E s w (Bf vs) { s1 with bG:=s.bG } u w'':=by
      refine calls_of_wp hf hb (wp_mono hwp fun x a1 w1 ⟨hx,ht⟩=>?_);subst hx;obtain⟨d1,z1,E1,D0,f1⟩:=ht;obtain⟨us,g1,g2⟩:=uq cV f1 hr
      have: ∃u,(results fn a1.tmps).run P w1= .ok u w1/\VR E1 w1.heap (Bf vs) u:=by
       refine⟨if h:us.toArray.size=1 then us.toArray[0] else .tuple us.toArray,?_,?_⟩
       ·have hm:(fn.results.mapM (vt a1)).run P w1= .ok us.toArray w1:=by
         rw [aol];rw [map_eq_pure_bind];simp only [Sem.run_bind,g1];rfl
        have yz:results fn a1.tmps=(do let vs <- fn.results.mapM (vt a1); pure (if h:vs.size=1 then vs[0] else .tuple vs)):=rfl;rw [yz];simp only [Sem.run_bind,hm];rfl
       ·exact Db g2
      obtain⟨u,g3,g4⟩:=this;rcases he with rfl|rfl
      ·exact⟨d1,u,g3,u,rfl,E1,D0,f1.rel,g4⟩
      ·exact⟨d1,u,g3,u,rfl,E1,D0,f1.rel,g4⟩
     have mD:(callFunc g vals.toArray).run P w= .ok (.enter g vals.toArray) w:=by unfold callFunc;simp [hf,hb,by simpa using mi]
     unfold mr oQ
     grind
end
def Tr.over {α:Type}:Tr α->Tr α->Tr α
 | .nil,b=>b
 | .node v l r,b=> .node (match v with |some x=>some x|none=>b.val) (Tr.over l b.left) (Tr.over r b.right)
def Tr.minus {α:Type}:Tr α->Tr α->Tr α
 | .nil,b=>b
 | .node v l r,b=> .node (match v with |some _=>none|none=>b.val) (Tr.minus l b.left) (Tr.minus r b.right)
theorem Tr.EZ {α:Type}: ∀(a b:Tr α) (k:Nat),(Tr.over a b).get k=match a.get k with |some x=>some x|none=>b.get k
 | .nil,b,k=>by simp [Tr.over,Tr.get]
 | .node v l r,b,k=>by
   simp only [Tr.over];rw [Tr.oI,Tr.oI,Tr.wZ b k];by_cases h0:k=0
   ·grind
   ·simp only [ah h0];by_cases U:(k-1) % 2=0
    ·simp only [ak U]; exact Tr.EZ l b.left _
    ·simp only [ah U]; exact Tr.EZ r b.right _
theorem Tr.BF {α:Type}: ∀(a b:Tr α) (k:Nat),(Tr.minus a b).get k=match a.get k with |some _=>none|none=>b.get k
 | .nil,b,k=>by simp [Tr.minus,Tr.get]
 | .node v l r,b,k=>by
   simp only [Tr.minus];rw [Tr.oI,Tr.oI,Tr.wZ b k];by_cases h0:k=0
   ·grind
   ·simp only [ah h0];by_cases U:(k-1) % 2=0
    ·simp only [ak U]; exact Tr.BF l b.left _
    ·simp only [ah U]; exact Tr.BF r b.right _
structure Tb (E:En) (H:Hp) (w:World) (E':En) (H':Hp) (w':World):Prop where
 ρ:E'.ρ=E.ρ
 dm: ∀id,E.dm id->E'.dm id
 θ: ∀id,E.dm id->E'.θ id=E.θ id
 κ: ∀id,E.dm id->E'.κ id=E.κ id
 ro: ∀b,E.ro b->E'.ro b
 sO: ∀b,E'.ro b->E.ro b\/(∃id o,H.get id=some o/\(E.θ id).1=b)\/w.heap.size<=b
 os:w'.os=w.os
 tape:w'.tape=w.tape
 output:w'.output=w.output
 size:w.heap.size<=w'.heap.size
 cD: ∀b,b<w.heap.size->(∀id o,H.get id=some o->(E.θ id).1≠b)->w'.heap[b]?=w.heap[b]?
 own: ∀id o,H'.get id=some o->(E'.θ id).1<w.heap.size->∃sX o0,H.get sX=some o0/\(E.θ sX).1=(E'.θ id).1
 hd:E'.hd=E.hd
section
variable {E E' E'':En} {H H' H'':Hp} {w w' w'':World}
theorem fj.ajP (s:fj E H w E' H' w'):Tb E H w E' H' w':=⟨s.ρ,s.dm,s.θ,s.κ,s.ro,s.sO,s.os,s.tape,s.output,s.size,s.cD,s.own,s.hd⟩
theorem Tb.Xg (s:Tb E H w E' H' w') (U:H.next<=H'.next) (Z:H'.res=none) (h3: ∀id,E'.dm id->E.dm id\/(H.next<=id/\id<H'.next)):fj E H w E' H' w':=
 ⟨s.ρ,s.dm,s.θ,s.κ,s.ro,s.sO,U,.inl Z,fun id h=>(h3 id h).elim .inl fun h=> .inr (.inl h),s.os,s.tape,s.output,s.size,s.cD,s.own,s.hd⟩
theorem Tb.trans (a:Tb E H w E' H' w') (b:Tb E' H' w' E'' H'' w''):Tb E H w E'' H'' w'' where
 ρ:=b.ρ.trans a.ρ
 dm:=fun id h=>b.dm id (a.dm id h)
 θ:=fun id h=>(b.θ id (a.dm id h)).trans (a.θ id h)
 κ:=fun id h=>(b.κ id (a.dm id h)).trans (a.κ id h)
 ro:=fun x h=>b.ro x (a.ro x h)
 sO:=fun x h=>by
  rcases b.sO x h with h|⟨id,o,U,Z⟩|h
  ·exact a.sO x h
  ·rcases bg x w.heap.size with hx|hx
   ·obtain⟨sX,o0,h3,h4⟩:=a.own id o U (by rw [Z]; exact hx);exact .inr (.inl ⟨sX,o0,h3,h4.trans Z⟩)
   ·exact .inr (.inr hx)
  ·exact .inr (.inr (bq a.size h))
 os:=b.os.trans a.os
 tape:=b.tape.trans a.tape
 output:=b.output.trans a.output
 size:=bq a.size b.size
 cD:=fun x hx hn=>by rw [b.cD x (amH hx a.size) ?_,a.cD x hx hn];intro id o ho he;obtain⟨sX,o0,h0,he0⟩:=a.own id o ho (by rw [he]; exact hx);exact hn sX o0 h0 (he0.trans he)
 own:=fun id o ho gu=>by obtain⟨id1,o1,U,YH⟩:=b.own id o ho (amH gu a.size);obtain⟨sX,o0,h0,he0⟩:=a.own id1 o1 U (by rw [YH]; exact gu);exact⟨sX,o0,h0,he0.trans YH⟩
 hd:=b.hd.trans a.hd
theorem Tb.keeps [bJ] (s:Tb E H w E' H' w') (r:bS E H w):fU E w.heap E' w'.heap:=
 ⟨s.ρ,s.dm,s.θ,s.κ,s.ro,fun b hb=>s.cD b (r.sq b hb) fun id o ho he=>(r.live id o ho).2.2 (by rw [he]; exact hb)⟩
theorem bS.part [bJ] {H1:Hp} (r:bS E H w) (sub: ∀id o,H1.get id=some o->H.get id=some o) (hn:H.next<=H1.next) (hr: ∀q,H1.res=some q->q<H1.next/\¬E.dm q):bS E H1 w:=
 ⟨fun id h=>r.fresh id (bq hn h),hr,fun id o h=>r.live id o (sub id o h),fun i j o o' h h' e=>r.inj i j o o' (sub _ _ h) (sub _ _ h') e,r.sq,r.ku,fun b x hb=> ⟨(r.hid b x hb).1,(r.hid b x hb).2.1,fun id o h=>(r.hid b x hb).2.2 id o (sub id o h)⟩⟩
theorem YX [bJ] {H1 P4:Hp} (r:bS E H w) (sub: ∀id o,H1.get id=some o->H.get id=some o) (st:fj E H1 w E' P4 w') (r':bS E' P4 w') (n:Nat) (hn: ∀id,n<=id->¬E'.dm id) :
 ∃H':Hp,H'=⟨Tr.over P4.m (Tr.minus H1.m H.m),n,none⟩/\(∀id o,P4.get id=some o->H'.get id=some o)/\(∀id o,H.get id=some o->H1.get id=none->H'.get id=some o)/\bS E' H' w'/\Tb E H w E' H' w':=by
 have aiA: ∀id o,H.get id=some o->H1.get id=none->P4.get id=none:=by
  intro id o h U
  cases Z:P4.get id with
  |none=>rfl
  |some o'=>
   exfalso;have hd:=(r.live id o h).1;have hθ:=st.θ id hd;obtain⟨sX,o0,g1,g2⟩:=st.own id o' Z (by rw [hθ]; exact gx r h);have:=r.inj sX id o0 o (sub _ _ g1) h (by rw [g2,hθ])
   grind
 have vJ: ∀id,(⟨Tr.over P4.m (Tr.minus H1.m H.m),n,none⟩ : Hp).get id=match P4.get id with |some x=>some x|none=>match H1.get id with |some _=>none|none=>H.get id:=by
  intro id;simp only [Hp.get,Tr.EZ,Tr.BF]
  grind
 have qd: ∀id o,(⟨Tr.over P4.m (Tr.minus H1.m H.m),n,none⟩ : Hp).get id=some o->P4.get id=some o\/(P4.get id=none/\H1.get id=none/\H.get id=some o):=by
  intro id o h
  grind
 have uN: ∀id o,H1.get id=none->H.get id=some o->w'.heap[(E.θ id).1]?=w.heap[(E.θ id).1]?:=by
  intro id o U h;refine st.cD _ (gx r h) fun sX o0 h0 he=>?_;have:=r.inj sX id o0 o (sub _ _ h0) h he
  grind
 have k:fU E w.heap E' w'.heap:=⟨st.ρ,st.dm,st.θ,st.κ,st.ro,fun b hb=>st.cD b (r.sq b hb) fun id o ho he=>(r.live id o (sub _ _ ho)).2.2 (by rw [he]; exact hb)⟩;refine⟨_,rfl,fun id o h=>by rw [vJ,h],fun id o h U=>by rw [vJ,aiA id o h U,U]; exact h,⟨hn,ad,?_,?_,r'.sq,r'.ku,?_⟩,⟨st.ρ,st.dm,st.θ,st.κ,st.ro,fun b hb=>(st.sO b hb).imp id (Or.imp (fun⟨i,o,U,Z⟩=> ⟨i,o,sub _ _ U,Z⟩) id),st.os,st.tape,st.output,st.size,?_,?_,st.hd⟩⟩
 ·intro id o h;rcases qd id o h with U|⟨U,Z,h3⟩
  ·exact r'.live id o U
  ·obtain⟨g1,g2,g3⟩:=r.live id o h3;refine⟨st.dm id g1,g2.cD k g1 (uN id o Z h3) (r.Vt st.hd (fun b hb hn=>st.cD b hb fun i o ho=>hn i o (sub i o ho)) _),?_⟩;rw [st.θ id g1];intro hr;rcases st.sO _ hr with hr|⟨sX,o0,f1,f2⟩|hr
   ·grind
   ·have:=r.inj sX id o0 o (sub _ _ f1) h3 f2
    grind
   grind [gx]
 ·intro i j o o' h h' he;rcases qd i o h with U|⟨U,Z,h3⟩ <;>rcases qd j o' h' with g1|⟨g1,g2,g3⟩
  ·exact r'.inj i j o o' U g1 he
  ·exfalso;rw [st.θ j (r.live j o' g3).1] at he;obtain⟨sX,o0,f1,f2⟩:=st.own i o U (by rw [he]; exact gx r g3);have:=r.inj sX j o0 o' (sub _ _ f1) g3 (f2.trans he)
   grind
  ·exfalso;rw [st.θ i (r.live i o h3).1] at he;obtain⟨sX,o0,f1,f2⟩:=st.own j o' g1 (by rw [<- he]; exact gx r h3);have:=r.inj sX i o0 o (sub _ _ f1) h3 (f2.trans he.symm)
   grind
  ·rw [st.θ i (r.live i o h3).1,st.θ j (r.live j o' g3).1] at he;exact r.inj i j o o' h3 g3 he
 ·refine r.Ux st.hd st.size (fun b hb=>(st.sO b hb).imp id (Or.imp (fun⟨i,o,U,Z⟩=> ⟨i,o,sub _ _ U,Z⟩) id)) fun id o h gu=>?_;rcases qd id o h with U|⟨U,Z,h3⟩
  ·obtain⟨sX,o0,f1,f2⟩:=st.own id o U gu;exact⟨sX,o0,sub _ _ f1,f2⟩
  ·exact⟨id,o,h3,by rw [st.θ id (r.live id o h3).1]⟩
 ·intro b hb tW;exact st.cD b hb fun id o h=>tW id o (sub _ _ h)
 ·intro id o h gu;rcases qd id o h with U|⟨U,Z,h3⟩
  ·obtain⟨sX,o0,f1,f2⟩:=st.own id o U gu
   grind
  ·exact⟨id,o,h3,by rw [st.θ id (r.live id o h3).1]⟩
theorem frame [bJ] {H1 P4:Hp} (r:bS E H w) (sub: ∀id o,H1.get id=some o->H.get id=some o) (st:fj E H1 w E' P4 w') (r':bS E' P4 w') (n:Nat) (hn: ∀id,n<=id->¬E'.dm id) :
 ∃H':Hp,H'.next=n/\H'.res=none/\(∀id o,P4.get id=some o->H'.get id=some o)/\(∀id o,H.get id=some o->H1.get id=none->H'.get id=some o)/\bS E' H' w'/\Tb E H w E' H' w':=by
 obtain⟨H',h0,U,Z,h3,h4⟩:=YX r sub st r' n hn
 grind
end
section
variable {P:Program}
def Gd [bJ] (P:Program) (ρ:Nat->Int) (ops:Array Oper) (o:Oper) (S:Tr Y) (H:Hp) (v:Y) (H':Hp):Prop:=
 ∀(E:En) (a:Act) (w:World),E.ρ=ρ->bS E H w->SR E w.heap S a->
  (Region.wanted o (yielded ops a.tmps)=false/\v=Y.undef/\H'=H)\/
  (Region.wanted o (yielded ops a.tmps)=true/\pS P o a w (fun u w'=> ∃E',fj E H w E' H' w'/\bS E' H' w'/\VR E' w'.heap v u))
theorem Gd.wpOp [bJ] {ρ:Nat->Int} {ops:Array Oper} {o:Oper} {S:Tr Y} {H H':Hp} {v:Y} (h:Gd P ρ ops o S H v H') {E:En} {a:Act} {w:World} (hρ:E.ρ=ρ) (r:bS E H w) (sr:SR E w.heap S a)
 {i:Nat} (ho:ops[i]?=some o) {K:Act->World->Prop} {Q:Exit->Act->World->Prop}
 (hk: ∀(u:Value) (E':En) (w':World),fj E H w E' H' w'->bS E' H' w'->VR E' w'.heap v u->K (a.put o.dst u) w'):wpOp P ops Q i K a w:=by
 unfold Go.wpOp;simp only [ho];rcases h E a w hρ r sr with ⟨U,rfl,rfl⟩|⟨U,Z⟩
 ·rw [U];simp only [aC,if_false];exact hk undef E w (fj.refl _ _ _) r mc
 ·rw [U];simp only [if_true];exact .inl (Z _ _ fun u w' ⟨E',q1,q2,q3⟩=>hk u E' w' q1 q2 q3)
inductive Kind where
 |pa
 |e
 |r
 deriving DecidableEq
structure F9 [bJ] (P:Program) (ρ:Nat->Int) (ops:Array Oper) (pW:Tr Y) (H0:Hp) where
 base:Nat
 bf:Nat->Nat->Bool
 kd:Nat->Kind
 S:Nat->Tr Y
 val:Nat->Y
 st:Nat->Nat
 nE:Nat
 hp:Nat->Hp
 un:Nat->Nat->Bool
 om:Nat->Option dX
 gen: ∀i j,bf i j=true->∃(o:Oper) (e:Edge),ops[j]?=some o/\e∈o.after/\Region.binds .any e=true/\(e.on=i\/bf i e.on=true)
 back: ∀(j:Nat) (o:Oper),ops[j]?=some o->∀e∈o.after,Region.binds .any e=true->e.on<j
 dst: ∀(i j:Nat) (oi oj:Oper) (d:Nat),ops[i]?=some oi->ops[j]?=some oj->oi.dst=some d->oj.dst=some d->i=j
 bG: ∀(i:Nat) (o:Oper),ops[i]?=some o->∀t x,(S i).get t=some x->(∃(j:Nat) (oj:Oper),bf j i=true/\ops[j]?=some oj/\oj.dst=some t/\val j=x)\/(pW.get t=some x/\∀(j:Nat) (oj:Oper),ops[j]?=some oj->oj.dst=some t->bf i j=true)
 stl: ∀(j:Nat) (o:Oper),ops[j]?=some o->kd j= .e->st j<nE
 inj: ∀i j,kd i= .e->kd j= .e->st i=st j->i=j
 ahH: ∀(j:Nat) (o:Oper),ops[j]?=some o->kd j= .e->∀m,m<st j->∃i,kd i= .e/\st i=m/\bf i j=true
 pa: ∀(i:Nat) (o:Oper),ops[i]?=some o->kd i= .pa->∃HA N,Gd P ρ ops o (S i) ⟨.nil,N,some (base+i)⟩ (val i) HA/\HA.next=N/\om i=HA.get (base+i)/\∀k,k<=nE->(hp k).next<=N
 ev: ∀(j:Nat) (o:Oper),ops[j]?=some o->kd j= .e->∃K1,Gd P ρ ops o (S j) K1 (val j) (hp (st j+1))/\K1.next=(hp (st j)).next/\K1.res=none/\
  (∀id x,K1.get id=some x->(hp (st j)).get id=some x\/∃a,bf a j=true/\un (st j) a=true/\id=base+a/\om a=some x)/\
  (∀a,un (st j+1) a=true->un (st j) a=true/\bf a j=false)
 rd: ∀(i:Nat) (o:Oper),ops[i]?=some o->kd i= .r->∀k,k<=nE->(∀j,kd j= .e->bf j i=true->st j<k)->(∀(j:Nat) (oj:Oper),ops[j]?=some oj->kd j= .e->bf i j=true->k<=st j)->
  ∃K1,Gd P ρ ops o (S i) K1 (val i) K1/\K1.next=(hp k).next/\K1.res=none/\
   (∀id x,K1.get id=some x->(hp k).get id=some x\/∃a,bf a i=true/\un k a=true/\id=base+a/\om a=some x)
 unm: ∀k a x,k<=nE->om a=some x->un k a=true->(hp k).get (base+a)=none
 nob: ∀i,kd i≠.pa->om i=none
 first:base=H0.next/\base+ops.size<=(hp 0).next/\∀id x,(hp 0).get id=some x->H0.get id=some x
section
variable {gl:bJ} {ρ:Nat->Int} {ops:Array Oper} {pW:Tr Y} {H0:Hp} (p:F9 P ρ ops pW H0)
structure F9.Inv (E0:En) (a0:Act) (w0:World) (L:Nat->Prop) (a:Act) (w:World):Prop where
 defers:a.defers=a0.defers
 size:a.tmps.size=a0.tmps.size
 closed: ∀i j,p.bf i j=true->L j->L i
 ex: ∃(E:En) (Hc:Hp) (k:Nat),k<=p.nE/\(∀(j:Nat) (o:Oper),ops[j]?=some o->p.kd j= .e->(L j↔p.st j<k))/\E.ρ=ρ/\Tb E0 H0 w0 E Hc w/\bS E Hc w/\Hc.next=(p.hp k).next/\Hc.res=none/\
  p.base+ops.size<=Hc.next/\(∀id,E.dm id->E0.dm id\/H0.next<=id)/\(∀(i:Nat) (o:Oper),ops[i]?=some o->¬L i->¬E.dm (p.base+i))/\
  (∀id x,(p.hp k).get id=some x->Hc.get id=some x)/\(∀b x,L b->p.un k b=true->p.om b=some x->Hc.get (p.base+b)=some x)/\
  (∀t x,pW.get t=some x->(∀(j:Nat) (oj:Oper),ops[j]?=some oj->oj.dst=some t->¬L j)->∃u,a.tmps[t]?=some u/\VR E w.heap x u)/\
  (∀(j:Nat) (oj:Oper) (t:Nat),L j->ops[j]?=some oj->oj.dst=some t->∃u,a.tmps[t]?=some u/\VR E w.heap (p.val j) u)
theorem Ee {a:Act} {d:Option Nat} {u:Value} {t:Nat} (h:d≠some t):(a.put d u).tmps[t]?=a.tmps[t]?:=by
 cases d with
 |none=>rfl
 |some x=>
  simp only [Act.put]
  grind
theorem U? {a:Act} {u:Value} {t:Nat} (h:t<a.tmps.size):(a.put (some t) u).tmps[t]?=some u:=by simp [Act.put,h]
theorem F9.ajy: ∀(j i:Nat),p.bf i j=true->i<j/\j<ops.size:=by
 intro j
 induction j using Nat.strongRecOn with
 |_ j ih=>
  intro i h;obtain⟨o,e,g1,g2,g3,g4⟩:=p.gen i j h;have gu:=p.back j o g1 e g2 g3
  grind
theorem F9.adA {i j:Nat} (h:p.bf i j=true): ∃o:Oper,ops[i]?=some o:=by have:=p.ajy j i h;exact⟨ops[i]'J,ad⟩
theorem F9.step {E0:En} {a0:Act} {w0:World} {L:Nat->Prop} {a:Act} {w:World} (hd: ∀o∈ops.toList,∀d,o.dst=some d->d<a0.tmps.size) (inv:p.Inv E0 a0 w0 L a w) {i:Nat} {o:Oper} (ho:ops[i]?=some o) (hL: ¬L i)
 (hr: ∀e∈o.after,Region.binds .any e=true->L e.on) {K:Act->World->Prop} {Q:Exit->Act->World->Prop} (hk: ∀a' w',p.Inv E0 a0 w0 (fun j=>j=i\/L j) a' w'->K a' w'):wpOp P ops Q i K a w:=by
 obtain⟨U,Z,Dr,E,Hc,k,C!,Dp,hρ,Ll,rel,hnx,yz,ld,uO,hun,hhp,nS,xL,hs1⟩:=inv
 have hbf: ∀j,p.bf j i=true->L j:=by
  intro j hj;obtain⟨o',e,g1,g2,g3,g4⟩:=p.gen j i hj;rw [ho] at g1;simp at g1;subst g1;have:=hr e g2 g3;rcases g4 with rfl|g4
  ·exact this
  ·exact Dr j e.on g4 this
 have hii:p.bf i i≠true:=fun h=>hL (hbf i h);have AU:i<ops.size:=(amD.1 ho).1
 have sr:SR E w.heap (p.S i) a:=by
  intro t x ht;rcases p.bG i o ho t x ht with ⟨j,oj,g1,g2,g3,g4⟩|⟨g1,g2⟩
  ·subst g4;exact hs1 j oj t (hbf j g1) g2 g3
  ·exact xL t x g1 fun j oj hj hjt hLj=>hL (Dr i j (g2 j oj hj hjt) hLj)
 have JG: ∀x j,p.bf x j=true->(j=i\/L j)->(x=i\/L x):=by
  intro x j hx hj;rcases hj with rfl|hj
  ·exact .inr (hbf x hx)
  ·exact .inr (Dr x j hx hj)
 have fin: ∀(u:Value) (E':En) (NU:Hp) (w':World) (k':Nat),Tb E Hc w E' NU w'->bS E' NU w'->VR E' w'.heap (p.val i) u->k'<=p.nE->(∀(j:Nat) (o:Oper),ops[j]?=some o->p.kd j= .e->((j=i\/L j)↔p.st j<k'))->
  NU.next=(p.hp k').next->NU.res=none->Hc.next<=NU.next->(∀id,E'.dm id->E.dm id\/Hc.next<=id\/id=p.base+i)->(∀id x,(p.hp k').get id=some x->NU.get id=some x)->
  (∀b x,(b=i\/L b)->p.un k' b=true->p.om b=some x->NU.get (p.base+b)=some x)->K (a.put o.dst u) w':=by
  intro u E' NU w' k' q1 q2 q3 q4 q5 q6 q7 q8 q9 q10 q11;have kp:=q1.keeps rel;refine hk _ _ ⟨by rw [As.put_defers]; exact U,by rw [Ed]; exact Z,JG,E',NU,k',q4,q5,q1.ρ.trans hρ,Ll.trans q1,q2,q6,q7,bq ld q8,?_,?_,q10,q11,?_,?_⟩
  ·intro id h;rcases q9 id h with h|h|h
   ·exact uO id h
   ·right;have:=p.first.1;omega
   ·right;have:=p.first.1;omega
  ·intro j oj hj hn hdj;have hj2:=(amD.1 hj).1;rcases q9 _ hdj with h|h|h
   ·exact hun j oj hj (fun h'=>hn (.inr h')) h
   ·omega
   ·exact hn (.inl J)
  ·intro t x ht tW;obtain⟨y,g1,g2⟩:=xL t x ht fun j oj hj hjt h'=>tW j oj hj hjt (.inr h');exact⟨y,by rw [Ee (fun e=>tW i o ho e (.inl rfl))]; exact g1,VR.cD kp _ _ g2⟩
  ·intro j oj t hj pJ ht;by_cases hji:j=i
   ·subst hji;rw [ho] at pJ;simp at pJ;subst pJ;rw [ht];exact⟨u,U? (by rw [Z]; exact hd o (Array.mem_toList_iff.2 (an3 ho)) t ht),q3⟩
   ·obtain⟨y,g1,g2⟩:=hs1 j oj t (hj.resolve_left hji) pJ ht;refine⟨y,?_,VR.cD kp _ _ g2⟩;rw [Ee]
    ·exact g1
    ·intro h;exact hji (p.dst j i oj o t pJ ho ht h)
 cases yT:p.kd i with
 |pa=>
  obtain⟨HA,N,g1,g2,g3,g4⟩:=p.pa i o ho yT;have hN:=g4 k C!;have aky:=hun i o ho hL
  have r1:bS E ⟨.nil,N,some (p.base+i)⟩ w:=rel.part (by intro id x h; simp [Hp.get,Tr.get] at h) (by show Hc.next<=N; omega) (by
   intro q hq;simp at hq;subst hq
   exact⟨by show p.base+i<N; omega,aky⟩)
  refine g1.wpOp hρ r1 sr ho fun u E' w' st r' hv=>?_
  have hdn: ∀id,E'.dm id->E.dm id\/id=p.base+i:=by
   intro id h;rcases st.D? id h with h|h|h
   ·exact .inl h
   ·have h':N<=id/\id<HA.next:=h;omega
   ·have h':some (p.base+i)=some id:=h;simp at h';exact .inr h'.symm
  obtain⟨NU,f1,f2,f3,f4,f5,f6⟩:=frame rel (by intro id x h; simp [Hp.get,Tr.get] at h) st r' Hc.next (fun id hid h=>by
   rcases hdn id h with h|h
   ·exact rel.fresh id hid h
   ·omega)
  refine fin u E' NU w' k f6 f5 hv C! ?_ (by rw [f1,hnx]) f2 J (fun id h=>(hdn id h).elim .inl fun h=> .inr (.inr h)) ?_ ?_
  ·intro j oj pJ hj;rw [<- Dp j oj pJ hj];constructor
   ·intro h;rcases h with rfl|h
    ·rw [yT] at hj; simp at hj
    ·exact h
   ·exact .inr
  ·intro id x h;exact f4 id x (hhp id x h) (by simp [Hp.get,Tr.get])
  ·intro b x hb hu hx;by_cases hbi:b=i
   ·subst hbi;rw [hx] at g3;exact f3 _ _ g3.symm
   ·exact f4 _ x (nS b x (hb.resolve_left hbi) hu hx) (by simp [Hp.get,Tr.get])
 |e=>
  obtain⟨K1,g1,g2,g3,g4,g5⟩:=p.ev i o ho yT
  have UA:k<=p.st i:=by
   rcases bg (p.st i) k with h|h
   ·exact absurd ((Dp i o ho yT).2 h) hL
   ·exact h
  have hsk:p.st i=k:=by
   rcases bg k (p.st i) with h|h
   ·obtain⟨j,e1,e2,e3⟩:=p.ahH i o ho yT k h;have hj:=hbf j e3;obtain⟨oj,pJ⟩:=p.adA e3;have:=(Dp j oj pJ e1).1 hj;omega
   ·omega
  rw [hsk] at g1 g2 g4 g5;have hkE:=p.stl i o ho yT
  have oC: ∀id x,K1.get id=some x->Hc.get id=some x:=by
   intro id x h;rcases g4 id x h with h|⟨b,e1,e2,rfl,e4⟩
   ·exact hhp id x h
   ·exact nS b x (hbf b e1) e2 e4
  have r1:bS E K1 w:=rel.part oC J (by rw [g3]; simp);refine g1.wpOp hρ r1 sr ho fun u E' w' st r' hv=>?_
  have hdn: ∀id,E'.dm id->E.dm id\/Hc.next<=id:=by
   intro id h;rcases st.D? id h with h|h|h
   ·exact .inl h
   ·right; omega
   ·rw [g3] at h; simp at h
  obtain⟨NU,f1,f2,f3,f4,f5,f6⟩:=frame rel oC st r' (p.hp (k+1)).next (fun id hid h=>r'.fresh id hid h)
  have alY:=st.Rj;refine fin u E' NU w' (k+1) f6 f5 hv J ?_ f1 f2 J (fun id h=>(hdn id h).elim .inl fun h=> .inr (.inl h)) f3 ?_
  ·intro j oj pJ hj;constructor
   ·intro h;rcases h with rfl|h
    ·omega
    ·have:=(Dp j oj pJ hj).1 h;omega
   ·intro h;rcases bg (p.st j) k with h'|h'
    ·exact .inr ((Dp j oj pJ hj).2 h')
    ·exact .inl (p.inj j i hj yT J)
  ·intro b x hb hu hx;obtain⟨e1,e2⟩:=g5 b hu;by_cases hbi:b=i
   ·subst hbi;rw [p.nob b (by rw [yT]; simp)] at hx;simp at hx
   ·refine f4 _ x (nS b x (hb.resolve_left hbi) e1 hx) ?_
    cases hy:K1.get (p.base+b) with
    |none=>rfl
    |some y=>
     exfalso;rcases g4 _ y hy with h|⟨c,c1,c2,c3,c4⟩
     ·rw [p.unm k b x C! hx e1] at h;simp at h
     ·have:c=b:=J
      subst this;rw [e2] at c1;simp at c1
 |r=>
  have nI: ∀j,p.kd j= .e->p.bf j i=true->p.st j<k:=by intro j hj hb;obtain⟨oj,pJ⟩:=p.adA hb;exact (Dp j oj pJ hj).1 (hbf j hb)
  have Cu: ∀(j:Nat) (oj:Oper),ops[j]?=some oj->p.kd j= .e->p.bf i j=true->k<=p.st j:=by
   intro j oj pJ hj hb;rcases bg (p.st j) k with h|h
   ·exact absurd (Dr i j hb ((Dp j oj pJ hj).2 h)) hL
   ·exact h
  obtain⟨K1,g1,g2,g3,g4⟩:=p.rd i o ho yT k C! nI Cu
  have oC: ∀id x,K1.get id=some x->Hc.get id=some x:=by
   intro id x h;rcases g4 id x h with h|⟨b,e1,e2,rfl,e4⟩
   ·exact hhp id x h
   ·exact nS b x (hbf b e1) e2 e4
  have r1:bS E K1 w:=rel.part oC J (by rw [g3]; simp);refine g1.wpOp hρ r1 sr ho fun u E' w' st r' hv=>?_
  have hdn: ∀id,E'.dm id->E.dm id:=by
   intro id h;rcases st.D? id h with h|h|h
   ·exact h
   ·omega
   ·rw [g3] at h; simp at h
  obtain⟨NU,f1,f2,f3,f4,f5,f6⟩:=frame rel oC st r' Hc.next (fun id hid h=>rel.fresh id hid (hdn id h))
  have BA: ∀id x,Hc.get id=some x->NU.get id=some x:=by
   intro id x h
   cases h':K1.get id with
   |none=>exact f4 id x h h'
   |some y=> have:=oC id y h';rw [h] at this;simp at this;subst this;exact f3 id x h'
  refine fin u E' NU w' k f6 f5 hv C! ?_ (by rw [f1,hnx]) f2 J (fun id h=> .inl (hdn id h)) (fun id x h=>BA id x (hhp id x h)) ?_
  ·intro j oj pJ hj;rw [<- Dp j oj pJ hj];constructor
   ·intro h;rcases h with rfl|h
    ·rw [yT] at hj; simp at hj
    ·exact h
   ·exact .inr
  ·intro b x hb hu hx;by_cases hbi:b=i
   ·subst hbi;rw [p.nob b (by rw [yT]; simp)] at hx;simp at hx
   ·exact BA _ x (nS b x (hb.resolve_left hbi) hu hx)
def left (l:Nat->Bool):Nat->Nat
 |0=>0
 |n+1=>left l n+(if l n then 0 else 1)
theorem Rx {l l':Nat->Bool} (h: ∀j,l j=true->l' j=true): ∀n,left l' n<=left l n
 |0=>ay _
 |n+1=>by
  have:=Rx h n;simp only [left]
  grind
theorem Rw {l l':Nat->Bool} (h: ∀j,l j=true->l' j=true) {i:Nat} (U:l i=false) (Z:l' i=true): ∀n,i<n->left l' n<left l n
 |0,hi=>by omega
 |n+1,hi=>by
  have hle:=Rx h n;simp only [left];by_cases AU:i=n
  ·grind
  ·have:=Rw h U Z n J
   grind
theorem Bq {l:Nat->Bool}: ∀n,left l n=0->∀i,i<n->l i=true
 |0,_,i,hi=>by omega
 |n+1,h,i,hi=>by
  simp only [left] at h;by_cases AU:i=n
  ·grind
  ·exact Bq n J i J
theorem F9.T6 (q:F9 P ρ ops pW H0) {listed:Array Bool} (iW:listed.size=ops.size) (h:Region.ready .any ops listed= []): ∀i,i<ops.size->listed[i]?=some true:=by
 intro i
 induction i using Nat.strongRecOn with
 |_ i ih=>
  intro hi
  cases W:listed[i]? with
  |none=>rw [aom] at W; omega
  |some b=>
   cases b with
   |true=>rfl
   |false=>
    exfalso;have ho:ops[i]?=some ops[i]:=by simp [hi]
    have:i∈Region.ready .any ops listed:=by rw [mem_ready];refine⟨by simp [W],ops[i],ho,fun e he hb=>?_⟩;have gu:=q.back i _ ho e he hb;simp [ih e.on gu J]
    grind
theorem F9.any {E0:En} {a0:Act} {w0:World} (hd: ∀o∈ops.toList,∀d,o.dst=some d->d<a0.tmps.size) {Q:Exit->Act->World->Prop} (hq: ∀a w,p.Inv E0 a0 w0 (fun i=>i<ops.size) a w->Q .normal a w) :
 ∀(fuel:Nat) (listed:Array Bool) (a:Act) (w:World),listed.size=ops.size->left (fun i=>listed.getD i true) ops.size<=fuel->p.Inv E0 a0 w0 (fun i=>listed[i]?=some true) a w->wpAny P .any ops Q fuel listed a w:=by
 have YF: ∀(listed:Array Bool) (a:Act) (w:World),listed.size=ops.size->p.Inv E0 a0 w0 (fun i=>listed[i]?=some true) a w->Region.ready .any ops listed= []->Q .normal a w:=by
  intro listed a w iW inv lg;have BA:=p.T6 iW lg;refine hq a w ?_
  have:(fun i=>listed[i]?=some true)=(fun i=>i<ops.size):=by
   grind
  grind
 intro fuel
 induction fuel with
 |zero=>
  intro listed a w iW RR inv;have BA:=Bq (l:=fun i=>listed.getD i true) ops.size J
  have lg:Region.ready .any ops listed= []:=by
   rw [anE];intro i hi;rw [mem_ready] at hi
   grind
  exact⟨lg,YF listed a w iW inv lg⟩
 |succ fuel ih=>
  intro listed a w iW RR inv;refine⟨YF listed a w iW inv,fun i hi=>?_⟩;rw [mem_ready] at hi;obtain⟨U,o,Z,h3⟩:=hi;have AU:=(amD.1 Z).1
  have rP:listed[i]?=some false:=by simp_all
  refine p.step hd inv Z (by rw [rP]; simp) (fun e he hb=>?_) fun a' w' al4=>?_
  ·have:=h3 e he hb
   cases hc:listed[e.on]? with
   |none=>simp [hc] at this
   |some b=>simp [hc] at this; rw [this]
  ·refine ih _ a' w' (by simpa using iW) ?_ ?_
   ·have:=Rw (l:=fun j=>listed.getD j true) (l':=fun j=>(listed.setIfInBounds i true).getD j true) (i:=i) (fun j hj=>?_) U ?_ ops.size AU
    ·omega
    ·by_cases hij:i=j
     all_goals simp_all
    simp_all
   grind
theorem F9.start {E0:En} {s0:St} {a0:Act} {w0:World} (hs:s0.bG=pW) (hh:s0.h=H0) (hρ:E0.ρ=ρ) (fit:Fit E0 s0 a0 w0) (listed:Array Bool) (W: ∀(i:Nat),listed[i]?≠some true):p.Inv E0 a0 w0 (fun i=>listed[i]?=some true) a0 w0:=by
 subst hs hh;obtain⟨U,Z,h3⟩:=p.first;have rel:=fit.rel;have r1:bS E0 ⟨s0.h.m,(p.hp 0).next,none⟩ w0:=rel.part (fun id x h=>h) (by show s0.h.next<=(p.hp 0).next; omega) ad;refine⟨rfl,rfl,fun i j _ h=>absurd h (W j),E0,⟨s0.h.m,(p.hp 0).next,none⟩,0,amR _,fun j o _ _=> ⟨fun h=>absurd h (W j),fun h=>by omega⟩,hρ,?_,r1,rfl,rfl,Z,fun id h=> .inl h,?_,fun id x h=>h3 id x h,fun b x h=>absurd h (W b),?_,fun j oj t h=>absurd h (W j)⟩
 ·have:=(fj.refl E0 s0.h w0).ajP;exact⟨this.ρ,this.dm,this.θ,this.κ,this.ro,this.sO,this.os,this.tape,this.output,this.size,this.cD,this.own,this.hd⟩
 ·intro i o _ _ uO;exact rel.fresh _ J uO
 ·intro t x ht _;exact fit.sr t x ht
theorem F9.finish {E0:En} {s0 s':St} {a0 a:Act} {w0 w:World} (hh:s0.h=H0) (inv:p.Inv E0 a0 w0 (fun i=>i<ops.size) a w) (hpc:ca ρ s'.pc)
 (akB: ∀t x,s'.bG.get t=some x->(∃(j:Nat) (oj:Oper),ops[j]?=some oj/\oj.dst=some t/\p.val j=x)\/(pW.get t=some x/\∀(j:Nat) (oj:Oper),ops[j]?=some oj->oj.dst≠some t))
 (alZ: ∀id x,s'.h.get id=some x->(p.hp p.nE).get id=some x\/∃b,b<ops.size/\p.un p.nE b=true/\id=p.base+b/\p.om b=some x)
 (ach:(p.hp p.nE).next=s'.h.next) (yz:s'.h.res=none) (BA: ∀(m:Nat),m<p.nE->∃(j:Nat) (o:Oper),ops[j]?=some o/\p.kd j= .e/\p.st j=m):nG E0 s0 a0 w0 s' a w:=by
 subst hh;obtain⟨U,Z,Dr,E,Hc,k,C!,Dp,hρ,Ll,rel,hnx,OU,ld,uO,hun,hhp,nS,xL,hs1⟩:=inv
 have hk:k=p.nE:=by
  rcases bg k p.nE with h|h
  all_goals grind
 subst hk
 have oC: ∀id x,s'.h.get id=some x->Hc.get id=some x:=by
  intro id x h
  grind
 have hf:=p.first.1;refine⟨U,Z,E,?_,rel.part oC J (by rw [yz]; simp),?_,by rw [hρ]; exact hpc⟩
 ·refine Tb.Xg ⟨Ll.ρ,Ll.dm,Ll.θ,Ll.κ,Ll.ro,Ll.sO,Ll.os,Ll.tape,Ll.output,Ll.size,Ll.cD,fun id o h=>Ll.own id o (oC id o h),Ll.hd⟩ J yz fun id h=>?_;rcases uO id h with g|g
  ·grind
  ·right;refine⟨g,?_⟩;rcases bg id s'.h.next with g'|g'
   ·exact g'
   ·exact absurd h (rel.fresh id J)
 ·intro t x ht
  grind
end
end
end Go.As
end
section
namespace Go.As
noncomputable section
mutual
def eR:Y->Y->Bool
 | .bool a,.bool b=>oW a b
 | .int k a,.int l b=>decide (k=l)&&fm a b
 | .str a,.str b=>decide (a=b)
 | .ptr i o,.ptr j p=>decide (i=j)&&decide (o=p)
 | .u9,.u9=>true
 | .nQ a,.nQ b=>jd a b
 | .slice i o l c,.slice j p m d=>decide (i=j)&&decide (o=p)&&decide (l=m)&&decide (c=d)
 | .gL,.gL=>true
 | .ro a n f,.ro b m g=>jd a b&&decide (n=m)&&decide (f=g)
 | .map i,.map j=>decide (i=j)
 | .tI,.tI=>true
 | .func f a b,.func g c d=>decide (f=g)&&jd a c&&jd b d
 | .xp,.xp=>true
 | .iface t v,.iface u x=>decide (t=u)&&eR v x
 | .yn,.yn=>true
 | .agg a,.agg b=>jd a b
 | .tuple a,.tuple b=>jd a b
 | .LI i,.LI j=>decide (i=j)
 | .xK i a,.xK j b=>decide (i=j)&&decide (a=b)
 | .emp,.emp=>true
 | .eD a t,.eD b u=>fm a b&&Nat.beq t u
 | .kG a,.kG b=>fm a b
 | .pV i n t,.pV j m u=>Nat.beq i j&&fm n m&&Nat.beq t u
 | .Ax i a x o,.Ax j b y p=>Nat.beq i j&&Nat.beq a b&&fm x y&&Nat.beq o p
 | .u5 i l n t,.u5 j k m u=>Nat.beq i j&&fm l k&&fm n m&&Nat.beq t u
 | .any,.any=>true
 | .xU a t,.xU b u=>fm a b&&Nat.beq t u
 |_,_=>false
def jd:List Y->List Y->Bool
 |[],[]=>true
 |x::xs,y::ys=>eR x y&&jd xs ys
 |_,_=>false
end
mutual
theorem kx: ∀(x y:Y),eR x y=true->x=y
 | .bool a,y,h=>by cases y<;>simp [eR] at h<;>rw [sK _ _ h]
 | .int k a,y,h=>by cases y<;>simp [eR] at h<;>rw [h.1,cX _ _ h.2]
 | .str a,y,h=>by cases y<;>simp [eR] at h<;>simp [h]
 | .ptr i o,y,h=>by cases y<;>simp [eR] at h<;>simp [h]
 | .u9,y,h=>by cases y<;>simp [eR] at h<;>rfl
 | .nQ a,y,h=>by cases y<;>simp [eR] at h; rw [ga _ _ h]
 | .slice i o l c,y,h=>by cases y<;>simp [eR] at h<;>simp [h]
 | .gL,y,h=>by cases y<;>simp [eR] at h<;>rfl
 | .ro a n f,y,h=>by cases y<;>simp [eR] at h; rw [ga _ _ h.1.1,h.1.2,h.2]
 | .map i,y,h=>by cases y<;>simp [eR] at h<;>simp [h]
 | .tI,y,h=>by cases y<;>simp [eR] at h<;>rfl
 | .func f a b,y,h=>by cases y<;>simp [eR] at h; rw [h.1.1,ga _ _ h.1.2,ga _ _ h.2]
 | .xp,y,h=>by cases y<;>simp [eR] at h<;>rfl
 | .iface t v,y,h=>by cases y<;>simp [eR] at h; rw [h.1,kx _ _ h.2]
 | .yn,y,h=>by cases y<;>simp [eR] at h<;>rfl
 | .agg a,y,h=>by cases y<;>simp [eR] at h; rw [ga _ _ h]
 | .tuple a,y,h=>by cases y<;>simp [eR] at h; rw [ga _ _ h]
 | .LI i,y,h=>by cases y<;>simp [eR] at h<;>simp [h]
 | .xK i a,y,h=>by cases y<;>simp [eR] at h<;>simp [h]
 | .emp,y,h=>by cases y<;>simp [eR] at h<;>rfl
 | .eD a t,y,h=>by cases y<;>simp [eR] at h<;>rw [h.2,cX _ _ h.1]
 | .kG a,y,h=>by cases y<;>simp [eR] at h<;>rw [cX _ _ h]
 | .pV i n t,y,h=>by cases y<;>simp [eR] at h<;>rw [h.1.1,cX _ _ h.1.2,h.2]
 | .Ax i a x o,y,h=>by cases y<;>simp [eR] at h<;>rw [h.1.1.1,h.1.1.2,cX _ _ h.1.2,h.2]
 | .u5 i l n t,y,h=>by cases y<;>simp [eR] at h<;>rw [h.1.1.1,cX _ _ h.1.1.2,cX _ _ h.1.2,h.2]
 | .any,y,h=>by cases y<;>simp [eR] at h<;>rfl
 | .xU a t,y,h=>by cases y<;>simp [eR] at h<;>rw [h.2,cX _ _ h.1]
theorem ga: ∀(xs ys:List Y),jd xs ys=true->xs=ys
 |[],ys,h=>by cases ys<;>simp [jd] at h; rfl
 |x::xs,ys,h=>by
  cases ys with
  |nil=>simp [jd] at h
  |cons y ys=>simp [jd] at h; rw [kx _ _ h.1,ga _ _ h.2]
end
def Es (o:Op):List Nat:=o.operands.toList.filterMap fun
 | .tmp t=>some t
 |_=>none
def reads (all:List Oper) (o:Oper):List Nat:=match o.guard with
 |none=>Es o.op
 |some (j,_)=>match fu all j with
  |some oj=>match oj.dst with
   |some d=>d::Es o.op
   |none=>Es o.op
  |none=>Es o.op
def kindOf (tt:TT):Op->Kind
 | .load _ _=> .r
 | .lookup _ _ _ _=> .r
 | .call c=>match c.callee with
   | .builtin b=>match b with
     | .len=> .r
     | .min=> .pa
     | .max=> .pa
     |_=> .e
   |_=> .e
 | .store _ _ _=> .e
 | .insert _ _ _ _=> .e
 | .mapUpdate _ _ _ _=> .e
 | .next _ _=> .e
 | .range _ _=> .e
 | .convert t u _=>match tt t with
   |some i=>match i.kind with
    | .slice _=>match tt u with
      |some j=>match j.kind with
       | .string=> .r
       |_=> .e
      |none=> .e
    |_=> .pa
   |none=> .e
 | .panic _=> .e
 |_=> .pa
def oK (ms:List Nat):List Edge->Nat
 |[]=>0
 |e::es=>if Region.binds .any e then ((1 <<<e.on)|||ms.getD e.on 0)|||oK ms es else oK ms es
def qZ:List Oper->List Nat->List Nat
 |[],ms=>ms
 |o::os,ms=>qZ os (ms++ [oK ms o.after.toList])
structure Item where
 i:Nat
 o:Oper
 m:Nat
 k:Kind
 st:Nat
 rd:List Nat
def items (tt:TT) (all:List Oper) (ms:List Nat):List Oper->Nat->Nat->List Item
 |[],_,_=>[]
 |o::os,i,n=> ⟨i,o,ms.getD i 0,kindOf tt o.op,n,reads all o⟩ ::items tt all ms os (i+1) (match kindOf tt o.op with | .e=>n+1|_=>n)
def Kind.isE:Kind->Bool
 | .e=>true
 |_=>false
def Kind.isR:Kind->Bool
 | .r=>true
 |_=>false
def yl (ms:List Nat) (is:List Item) (x:Item):Bool:=
 x.o.after.toList.all (fun e=>!Region.binds .any e||decide (e.on<x.i))&&
 decide (x.m=oK ms x.o.after.toList)&&
 x.rd.all (fun t=>is.all fun y=>decide (y.o.dst≠some t)||x.m.testBit y.i||(!x.k.isR&&y.m.testBit x.i))&&
 is.all (fun y=>decide (y.i=x.i)||(match y.o.dst with |some d=>decide (x.o.dst≠some d)|none=>true))&&
 (!x.k.isE||is.all fun y=>!y.k.isE||!decide (y.i<x.i)||x.m.testBit y.i)
def A4 (is:List Item) (n:Nat) (x:Item):List Nat:=
 (List.range (n+1)).filter fun k=>is.all fun y=>!y.k.isE||((!x.m.testBit y.i||decide (y.st<k))&&(!y.m.testBit x.i||decide (k<=y.st)))
structure Stat where
 is:List Item
 nE:Nat
 rs:List (Item×List Nat)
def kH:List Item->Nat
 |[]=>0
 |x::xs=>match x.k with | .e=>kH xs+1|_=>kH xs
def stat (tt:TT) (all:List Oper):Option Stat:=
 let ms:=qZ all [];let is:=items tt all ms all 0 0
 if is.all (yl ms is) then
  some ⟨is,kH is,(is.filter (·.k.isR)).map fun x=>(x,A4 is (kH is) x)⟩
 else none
def only (bG:Tr Y):List Nat->Tr Y
 |[]=> .nil
 |t::ts=>match bG.get t with
  |some v=>(only bG ts).put t (some v)
  |none=>only bG ts
structure P6 where
 bG:Tr Y
 mN:List (Hp×Nat)
 iO:List (Nat×dX)
 Cj:List (Option dX)
 vs:List Y
def fR (base bm mm:Nat):List (Nat×dX)->Hp->Hp
 |[],h=>h
 |(a,x)::r,h=>if bm.testBit a&&!mm.testBit a then (fR base bm mm r h).put (base+a) x else fR base bm mm r h
def So (tt:TT) (call:eB) (all:List Oper) (o:Oper) (s:St):T (Y×St):=
 wM all s o fun s b=>if b then J5 tt call s o.op else .ret (Y.undef,s)
def vn (bG:Tr Y) (d:Option Nat) (v:Y):Tr Y:=match d with
 |some t=>bG.put t (some v)
 |none=>bG
def h_ (tt:TT) (call:eB) (all:List Oper) (base N:Nat) (pc:List (SB×Bool)) (x:Item) (d:P6):T P6:=
 match d.mN with
 |[]=> .fail
 |(h,mm)::rest=>
  match x.k with
  | .pa=>(So tt call all x.o ⟨only d.bG x.rd,⟨.nil,N,some (base+x.i)⟩,pc⟩).bind fun (v,s')=>
    if s'.h.next=N then
     .ret ⟨vn d.bG x.o.dst v,d.mN,match s'.h.get (base+x.i) with |some b=>(x.i,b)::d.iO|none=>d.iO,s'.h.get (base+x.i)::d.Cj,v::d.vs⟩
    else .fail
  | .e=>(So tt call all x.o ⟨only d.bG x.rd,fR base x.m mm d.iO h,pc⟩).bind fun (v,s')=>
    if s'.h.next<=N/\s'.h.res=none then
     .ret ⟨vn d.bG x.o.dst v,(s'.h,mm|||x.m)::(h,mm)::rest,d.iO,none::d.Cj,v::d.vs⟩
    else .fail
  | .r=>(So tt call all x.o ⟨only d.bG x.rd,fR base x.m mm d.iO h,pc⟩).bind fun (v,_)=>
    .ret ⟨vn d.bG x.o.dst v,d.mN,d.iO,none::d.Cj,v::d.vs⟩
def T.AM {α β:Type} (pc:List (SB×Bool)) (f:List (SB×Bool)->α->T β):T α->T β
 | .fail=> .fail
 | .ret a=>f pc a
 | .split c x y=>match kO pc c with
   |some true=>T.AM pc f x
   |some false=>T.AM pc f y
   |none=> .split c (T.AM ((c,true)::pc) f x) (T.AM ((c,false)::pc) f y)
def UW (tt:TT) (call:eB) (all:List Oper) (base N:Nat):List Item->List (SB×Bool)->P6->T (List (SB×Bool)×P6)
 |[],pc,d=> .ret (pc,d)
 |x::xs,pc,d=>(h_ tt call all base N pc x d).AM pc (UW tt call all base N xs)
def Dc (tt:TT) (call:eB) (all:List Oper) (base:Nat) (pc:List (SB×Bool)) (x:Item) (v:Y) (S:Tr Y) (iO:List (Nat×dX)) (mN:List (Hp×Nat)):List Nat->T Unit
 |[]=> .ret ()
 |k::ks=>match fu mN k with
  |some (h,mm)=>(So tt call all x.o ⟨S,fR base x.m mm iO h,pc⟩).bind fun (u,_)=>
   if eR u v then Dc tt call all base pc x v S iO mN ks else .fail
  |none=> .fail
def I8 (tt:TT) (call:eB) (all:List Oper) (base:Nat) (d:P6) (mN:List (Hp×Nat)) (vs:List Y):List (Item×List Nat)->List (SB×Bool)->T (List (SB×Bool))
 |[],pc=> .ret pc
 |(x,ks)::r,pc=>match fu vs x.i with
  |some v=>(Dc tt call all base pc x v (only d.bG x.rd) d.iO mN ks).AM pc fun pc _=>I8 tt call all base d mN vs r pc
  |none=> .fail
def IM (base:Nat) (iO:List (Nat×dX)) (mN:List (Hp×Nat)):Bool:=
 iO.all fun (a,_)=>mN.all fun (h,mm)=>mm.testBit a||(h.get (base+a)).isNone
def FB (tt:TT) (call:eB) (all:List Oper) (q:Stat) (s:St):T St:=
 match s.h.res with
 |some _=> .fail
 |none=>
 let base:=s.h.next;let n:=all.length;let N:=base+n+1099511627776
 (UW tt call all base N q.is s.pc ⟨s.bG,[(⟨s.h.m,base+n,none⟩,0)],[],[],[]⟩).bind fun (pc,d)=>
  match d.mN with
  |[]=> .fail
  |(h,mm)::_=>
   (I8 tt call all base d d.mN.reverse d.vs.reverse q.rs pc).bind fun pc=>
    if IM base d.iO d.mN then .ret ⟨d.bG,fR base ((1 <<<n)-1) mm d.iO h,pc⟩ else .fail
def draw (tt:TT) (call:eB) (all:List Oper) (s:St):T St:=
 match stat tt all with
 |none=> .fail
 |some q=>FB tt call all q s
end
end Go.As
end
section
namespace Go.As
section
variable {P:Program}
theorem Kk [bJ] {tt:TT} (cV:eJ P tt) {call:eB} (hc:iY P call) {ops:Array Oper} {o:Oper} {s s':St} {v:Y} {ρ:Nat->Int} (hp:ca ρ s.pc) (h:(So tt call ops.toList o s).leaf ρ=some (v,s')) :
 Gd P ρ ops o s.bG s.h v s'.h:=by
 intro E a w hρ r sr;subst hρ;unfold So at h;obtain⟨ew,fQ,U⟩:=Eu ⟨r,sr,hp⟩ h;cases hw:Region.wanted o (yielded ops a.tmps)<;>rw [hw] at U
 ·grind [bE]
 ·simp only [if_true] at U;obtain⟨_,_,q3⟩:=Sm cV hc (s:={ s with pc:=ew }) (o:=o) r sr fQ U;exact .inr ⟨rfl,q3⟩
theorem je {α:Type} {ρ:Nat->Int} {s:St} {c:SB} {f:St->Bool->T α} {r:α} (h:(kB s c f).leaf ρ=some r): ∃ew b,(f { s with pc:=ew } b).leaf ρ=some r:=by
 unfold kB at h;split at h
 ·rename_i b _; exact⟨s.pc,b,h⟩
 grind [T.leaf]
theorem Jh {α:Type} {ρ:Nat->Int} {s:St} {all:List Oper} {o:Oper} {f:St->Bool->T α} {r:α} (h:(wM all s o f).leaf ρ=some r): ∃ew b,(f { s with pc:=ew } b).leaf ρ=some r:=by
 unfold wM at h;split at h
 ·exact⟨s.pc,true,h⟩
 ·split at h
  ·split at h
   ·split at h
    ·obtain⟨ew,b,U⟩:=je h; exact⟨ew,_,U⟩
    ·exact⟨s.pc,_,h⟩
    grind [T.leaf]
   grind [T.leaf]
  grind [T.leaf]
theorem Ev {ρ:Nat->Int} {s:St} {x:Operand} {f:Y->T (Y×St)} {r:Y×St} (h:(AS s x f).leaf ρ=some r): ∃v,(f v).leaf ρ=some r:=by
 grind [AS,T.leaf]
theorem wH {ρ:Nat->Int} {s s':St} {x:Option Y} {v:Y} (h:(qQ s x).leaf ρ=some (v,s')):s'=s:=by
 unfold qQ at h
 grind [bE,T.leaf]
theorem aeU {tt:TT} {op:Op} (h:kindOf tt op= .r):(∃t x,op= .load t x)\/(∃t x i ok,op= .lookup t x i ok)\/(∃c:Call,op= .call c/\c.callee= .builtin .len)\/∃t u x i j e,op= .convert t u x/\tt t=some i/\i.kind= .slice e/\tt u=some j/\j.kind= .string:=by
 unfold kindOf at h;split at h<;>try (simp at h; done)
 all_goals grind
theorem Ho {α:Type} {ρ:Nat->Int} {s:St} {i n:V} {f:St->T α} {r:α} (h:(zy s i n f).leaf ρ=some r): ∃ew,(f { s with pc:=ew }).leaf ρ=some r:=by
 unfold zy at h;obtain⟨fW,b1,U⟩:=je h;split at U
 ·grind [T.leaf]
 ·obtain⟨kz,b2,Z⟩:=je U
  grind [T.leaf]
theorem uB {α:Type} {ρ:Nat->Int} {kk:TK} {k:Y} {r:α} {f:St->T α}: ∀{es:List (Y×Y×Nat)} {s:St},(uC kk k es s f).leaf ρ=some r->∃ew,(f { s with pc:=ew }).leaf ρ=some r
 |[],s,h=> ⟨s.pc,h⟩
 |(k',v,b)::es,s,h=>by
  simp only [uC] at h;split at h
  ·split at h
   ·exact⟨s.pc,h⟩
   ·exact uB h
  ·split at h
   ·obtain⟨fW,b1,U⟩:=je h;split at U
    ·grind
    ·obtain⟨kz,Z⟩:=uB U
     grind
   ·exact⟨s.pc,h⟩
theorem Gn {α:Type} {ρ:Nat->Int} {tt:TT} {t:Nat} {m k:Y} {r:α} {f:St->T α} {s:St} (h:(oo tt t m k s f).leaf ρ=some r): ∃ew,(f { s with pc:=ew }).leaf ρ=some r:=by
 unfold oo at h;split at h
 ·split at h
  ·split at h
   ·split at h
    ·exact uB h
    ·exact⟨s.pc,h⟩
   ·exact⟨s.pc,h⟩
  ·exact⟨s.pc,h⟩
 ·exact⟨s.pc,h⟩
theorem aaE {s s':St} {cs:List Y} {e:V} {v:Y} {ρ:Nat->Int} (h:(Ic s cs e).leaf ρ=some (v,s')):s'.h=s.h:=by
 grind [Ic,T.leaf,Ho,bE]
theorem UO {tt:TT} {s s':St} {ty t:Nat} {k:Y} {ok:Bool} {e:V} {v:Y} {ρ:Nat->Int} (h:(Ap tt ty k ok e t s).leaf ρ=some (v,s')):s'.h=s.h:=by
 unfold Ap at h;split at h
 ·grind [T.leaf]
 ·split at h
  ·grind [T.leaf]
  ·obtain⟨ew,b,U⟩:=je h
   grind [bE]
theorem B1 {α:Type} {ρ:Nat->Int} {i:V} {r:α}: ∀{ov:List (V×List Y)} {s:St} {k:St->T α},(vf i ov s k).leaf ρ=some r->∃ew,(k { s with pc:=ew }).leaf ρ=some r
 |[],s,k,h=> ⟨s.pc,h⟩
 |(j,c)::l,s,k,h=>by
  simp only [vf] at h;split at h
  ·exact⟨s.pc,h⟩
  ·obtain⟨fW,b1,U⟩:=je h;split at U
   ·grind
   ·obtain⟨kz,Z⟩:=B1 U
    grind
theorem UP {tt:TT} {s s':St} {ty id es off:Nat} {i:V} {v:Y} {ρ:Nat->Int} (h:(Aq tt s ty id es i off).leaf ρ=some (v,s')):s'.h=s.h:=by
 unfold Aq at h;split at h
 ·split at h
  ·grind [T.leaf,aaE]
  ·split at h
   all_goals grind [Ho,B1,wH,T.leaf]
  grind [T.leaf]
 grind [T.leaf]
theorem Aj {α:Type} {ρ:Nat->Int} {x:V} {r:α}: ∀{ov:List (V×Y)} {s:St} {k:Option Y->St->T α},(uh x ov s k).leaf ρ=some r->∃o ew,(k o { s with pc:=ew }).leaf ρ=some r
 |[],s,k,h=> ⟨none,s.pc,h⟩
 |(j,c)::l,s,k,h=>by
  simp only [uh] at h;split at h
  ·exact⟨_,s.pc,h⟩
  ·obtain⟨fW,b1,U⟩:=je h;split at U
   ·exact⟨_,fW,U⟩
   ·obtain⟨o,kz,Z⟩:=Aj U;exact⟨o,kz,Z⟩
theorem UN {tt:TT} {ty:Nat} {k:Y} {ok:Bool} {e:V} {ov:List (V×Y)} {s s':St} {v:Y} {ρ:Nat->Int} (h:(Ao tt ty k ok e ov s).leaf ρ=some (v,s')):s'.h=s.h:=by
 unfold Ao at h;split at h
 ·simp [T.leaf] at h
 ·split at h
  ·simp [T.leaf] at h
  ·obtain⟨o,fW,U⟩:=Aj h;split at U
   ·have:=bE U;simp only [aq] at this;rw [<- this.2]
   ·obtain⟨kz,b2,Z⟩:=je U;split at Z
    ·have:=bE Z;simp only [aq] at this;rw [<- this.2]
    ·simp [T.leaf] at Z
theorem afL {tt:TT} {call:eB} {op:Op} {s s':St} {v:Y} {ρ:Nat->Int} (hk:kindOf tt op= .r) (h:(J5 tt call s op).leaf ρ=some (v,s')):s'.h=s.h:=by
 rcases aeU hk with ⟨t,x,rfl⟩|⟨t,x,i,ok,rfl⟩|⟨c,rfl,hc⟩|⟨t,u,x,i,j,e,rfl,hi,he,hj,hs⟩
 ·grind [J5,Ev,UP,wH]
 ·grind [J5,Ev,UO,UN,Gn,wH,T.leaf]
 ·simp only [J5,Ke] at h;split at h
  ·grind [T.leaf]
  ·rw [hc] at h;simp only [w9] at h
   grind [wH,T.leaf]
 ·simp only [J5] at h;obtain⟨p,U⟩:=Ev h;split at U
  ·grind [Dy,T.leaf]
  obtain⟨H,e1,rfl⟩:=pZ U;unfold pM at e1;rw [hi,hj] at e1;simp only [hs,he] at e1;split at e1
  ·grind
  ·split at e1
   ·split at e1
    ·grind
    ·split at e1
     ·rw [aZ] at e1
      grind
     grind
    grind
   grind
theorem ajd {tt:TT} {call:eB} {all:List Oper} {o:Oper} {s s':St} {v:Y} {ρ:Nat->Int} (hk:kindOf tt o.op= .r) (h:(So tt call all o s).leaf ρ=some (v,s')):s'.h=s.h:=by
 unfold So at h;obtain⟨ew,b,U⟩:=Jh h;cases b
 ·grind [bE]
 ·simp only [if_true] at U;exact afL (s:={ s with pc:=ew }) hk U
theorem oO {base bm mm:Nat}: ∀{l:List (Nat×dX)} {h:Hp} {id:Nat} {x:dX},(fR base bm mm l h).get id=some x->h.get id=some x\/∃a,(a,x)∈l/\bm.testBit a=true/\mm.testBit a=false/\id=base+a
 |[],h,id,x,hh=> .inl hh
 |(a,y)::r,h,id,x,hh=>by
  simp only [fR] at hh;split at hh
  ·rename_i hb;rw [Hp.bU] at hh;split at hh
   ·rename_i e
    grind
   ·rcases oO hh with U|⟨b,U,Z⟩
    all_goals grind
  ·rcases oO hh with U|⟨b,U,Z⟩
   all_goals grind
theorem j9 {base bm mm:Nat}: ∀(l:List (Nat×dX)) (h:Hp),(fR base bm mm l h).next=h.next/\(fR base bm mm l h).res=h.res
 |[],h=> ⟨rfl,rfl⟩
 |(a,y)::r,h=>by
  have:=j9 (base:=base) (bm:=bm) (mm:=mm) r h;simp only [fR];split
  ·exact this
  grind
theorem zx {bG:Tr Y}: ∀{ts:List Nat} {t:Nat} {x:Y},(only bG ts).get t=some x->t∈ts/\bG.get t=some x
 |[],t,x,h=>by simp [only,Tr.get] at h
 |u::us,t,x,h=>by
  simp only [only] at h;split at h
  ·rename_i v hv;rw [Tr.bU] at h;split at h
   ·rename_i e
    grind
   ·have:=zx h
    grind
  ·have:=zx h
   grind
theorem wE {bG:Tr Y} {d:Option Nat} {v:Y} {t:Nat}:(vn bG d v).get t=if d=some t then some v else bG.get t:=by
 cases d with
 |none=>simp [vn]
 |some u=>
  grind [vn,Tr.bU]
theorem pB {ms:List Nat} {i:Nat}: ∀{es:List Edge},(oK ms es).testBit i=true->∃e∈es,Region.binds .any e=true/\(e.on=i\/(ms.getD e.on 0).testBit i=true)
 |[],h=>by simp [oK] at h
 |e::es,h=>by
  simp only [oK] at h;split at h
  ·rename_i hb;simp only [Nat.testBit_or,amY] at h;rcases h with (h|h)|h
   ·rw [Nat.shiftLeft_eq,am2,Nat.testBit_two_pow] at h
    grind
   ·grind
   ·obtain⟨e',U,Z⟩:=pB h
    grind
  ·obtain⟨e',U,Z⟩:=pB h
   grind
def j8 (tt:TT):List Oper->Nat
 |[]=>0
 |o::os=>(match kindOf tt o.op with | .e=>1|_=>0)+j8 tt os
theorem kA {tt:TT} {all:List Oper} {ms:List Nat}: ∀(os:List Oper) (i n j:Nat),(items tt all ms os i n)[j]?=(os[j]?).map fun o=> ⟨i+j,o,ms.getD (i+j) 0,kindOf tt o.op,n+j8 tt (os.take j),reads all o⟩
 |[],i,n,j=>by simp [items]
 |o::os,i,n,j=>by
  simp only [items]
  cases j with
  |zero=>simp [j8]
  |succ j=>
   rw [aM,kA os]
   grind [j8]
theorem tM {tt:TT} {all:List Oper} {ms:List Nat}: ∀(os:List Oper) (i n:Nat),(items tt all ms os i n).length=os.length
 |[],i,n=>rfl
 |o::os,i,n=>by simp [items,tM os]
theorem nA {tt:TT} {all:List Oper} {ms:List Nat}: ∀(os:List Oper) (i n:Nat),kH (items tt all ms os i n)=j8 tt os
 |[],i,n=>rfl
 |o::os,i,n=>by
  simp only [items,kH,j8,nA os]
  grind
end
section
variable {P:Program}
def F7 [bJ] (P:Program) (ρ:Nat->Int) (ops:Array Oper) (base N:Nat) (x:Item) (d:P6) (v:Y) (ob:Option dX) (d1:P6):Prop:=
 ∃h mm rest,d.mN=(h,mm)::rest/\match x.k with
  | .pa=>d1.mN=d.mN/\∃HA,Gd P ρ ops x.o (only d.bG x.rd) ⟨.nil,N,some (base+x.i)⟩ v HA/\HA.next=N/\ob=HA.get (base+x.i)
  | .e=>ob=none/\∃hn,d1.mN=(hn,mm|||x.m)::d.mN/\hn.next<=N/\hn.res=none/\Gd P ρ ops x.o (only d.bG x.rd) (fR base x.m mm d.iO h) v hn
  | .r=>ob=none/\d1.mN=d.mN
theorem g! [bJ] {tt:TT} (cV:eJ P tt) {call:eB} (hc:iY P call) {ops:Array Oper} {base N:Nat} {pc:List (SB×Bool)} {ρ:Nat->Int} (hp:ca ρ pc) {x:Item} {d d1:P6} (h:(h_ tt call ops.toList base N pc x d).leaf ρ=some d1) :
 ∃v ob,d1.bG=vn d.bG x.o.dst v/\d1.vs=v::d.vs/\d1.Cj=ob::d.Cj/\d1.iO=(match ob with |some b=>(x.i,b)::d.iO|none=>d.iO)/\F7 P ρ ops base N x d v ob d1:=by
 unfold h_ at h;split at h
 ·grind [T.leaf]
 ·rename_i h0 mm rest hs;split at h
  ·rename_i hk;obtain⟨⟨v,s'⟩,U,Z⟩:=T.fD h;have ha:=Kk cV hc (s:=⟨only d.bG x.rd,⟨.nil,N,some (base+x.i)⟩,pc⟩) hp U;simp only at Z;split at Z
   ·rename_i hn;have:=bE Z;subst this;refine⟨v,s'.h.get (base+x.i),rfl,rfl,rfl,?_,h0,mm,rest,hs,?_⟩
    all_goals grind
   grind [T.leaf]
  ·rename_i hk;obtain⟨⟨v,s'⟩,U,Z⟩:=T.fD h;have ha:=Kk cV hc (s:=⟨only d.bG x.rd,fR base x.m mm d.iO h0,pc⟩) hp U;simp only at Z;split at Z
   ·rename_i hn;have:=bE Z;subst this;refine⟨v,none,rfl,rfl,rfl,rfl,h0,mm,rest,hs,?_⟩
    grind
   ·simp [T.leaf] at Z
  ·rename_i hk;obtain⟨⟨v,s'⟩,U,Z⟩:=T.fD h;have:=bE Z;subst this;refine⟨v,none,rfl,rfl,rfl,rfl,h0,mm,rest,hs,?_⟩
   grind
theorem F7.mN [bJ] {ρ:Nat->Int} {ops:Array Oper} {base N:Nat} {x:Item} {d d1:P6} {v:Y} {ob:Option dX} (h:F7 P ρ ops base N x d v ob d1): ∃pre,d1.mN=pre++d.mN/\pre.length=kH [x]:=by
 obtain⟨h0,mm,rest,hs,U⟩:=h;cases hk:x.k<;>rw [hk] at U
 ·simp_all [kH]
 ·obtain⟨_,hn,Z,_⟩:=U;exact⟨[(hn,mm|||x.m)],by rw [Z]; rfl,by simp [kH,hk]⟩
 simp_all [kH]
theorem F7.nxt [bJ] {ρ:Nat->Int} {ops:Array Oper} {base N:Nat} {x:Item} {d d1:P6} {v:Y} {ob:Option dX} (h:F7 P ρ ops base N x d v ob d1) (hh: ∀q∈d.mN,q.1.next<=N/\q.1.res=none): ∀q∈d1.mN,q.1.next<=N/\q.1.res=none:=by
 obtain⟨h0,mm,rest,hs,U⟩:=h
 grind
structure ajG [bJ] (P:Program) (ρ:Nat->Int) (ops:Array Oper) (base N:Nat) (xs:List Item) (d d':P6):Prop where
 vs: ∃pre,d'.vs=pre++d.vs/\pre.length=xs.length
 Cj: ∃pre,d'.Cj=pre++d.Cj/\pre.length=xs.length
 mN: ∃pre,d'.mN=pre++d.mN/\pre.length=kH xs
 om: ∀a b,(a,b)∈d'.iO->(a,b)∈d.iO\/∃p x,xs[p]?=some x/\x.i=a/\d'.Cj.reverse[d.Cj.length+p]?=some (some b)
 alG: ∀p x b,xs[p]?=some x->d'.Cj.reverse[d.Cj.length+p]?=some (some b)->(x.i,b)∈d'.iO
 amj: ∀q,q∈d.iO->q∈d'.iO
 slot: ∀t x,d'.bG.get t=some x->(∃p y,xs[p]?=some y/\y.o.dst=some t/\d'.vs.reverse[d.vs.length+p]?=some x)\/(d.bG.get t=some x/\∀y∈xs,y.o.dst≠some t)
 same: ∀t,(∀y∈xs,y.o.dst≠some t)->d'.bG.get t=d.bG.get t
 nxt:(∀q∈d.mN,q.1.next<=N/\q.1.res=none)->∀q∈d'.mN,q.1.next<=N/\q.1.res=none
 at_: ∀p x,xs[p]?=some x->∃dp UU v ob pre,F7 P ρ ops base N x dp v ob UU/\d'.vs.reverse[d.vs.length+p]?=some v/\d'.Cj.reverse[d.Cj.length+p]?=some ob/\d'.mN=pre++UU.mN/\dp.mN.length=d.mN.length+kH (xs.take p)/\
  (∀q,q∈dp.iO->q∈d'.iO)/\(∀t,(∀y∈xs.drop p,y.o.dst≠some t)->d'.bG.get t=dp.bG.get t)/\
  (∀t z,dp.bG.get t=some z->(∃p' y,p'<p/\xs[p']?=some y/\y.o.dst=some t/\d'.vs.reverse[d.vs.length+p']?=some z)\/(d.bG.get t=some z/\∀y∈xs.take p,y.o.dst≠some t))
theorem Xy {α:Type} {l pre l0:List α} {v:α} (h:l=pre++v::l0):l.reverse[l0.length]?=some v:=by
 grind
theorem CI (x:Item) (xs:List Item):kH (x::xs)=kH [x]+kH xs:=by
 grind [kH]
theorem T.mC {α β:Type} {ρ:Nat->Int} {f:List (SB×Bool)->α->T β} {r:β}: ∀{x:T α} {pc:List (SB×Bool)},ca ρ pc->(x.AM pc f).leaf ρ=some r->∃a ew,x.leaf ρ=some a/\ca ρ ew/\(f ew a).leaf ρ=some r
 | .fail,pc,_,h=>by simp [T.AM,T.leaf] at h
 | .ret a,pc,hp,h=> ⟨a,pc,rfl,hp,h⟩
 | .split c x y,pc,hp,h=>by
   simp only [T.AM] at h
   cases hd:kO pc c with
   |some b=>
    rw [hd] at h;have hb:=gW hp hd;simp only [T.leaf,hb]
    cases b with
    |true=>exact T.mC hp h
    |false=>exact T.mC hp h
   |none=>
    rw [hd] at h;simp only [T.leaf] at h ⊢
    cases hb:c.den ρ with
    |true=>
     rw [hb] at h
     exact T.mC (x:=x) (pc:=(c,true)::pc) (fun c' b' hm=>by
      rcases aF.1 hm with he|hm
      ·simp only [aq] at he; rw [he.1,he.2]; exact hb
      ·exact hp c' b' hm) h
    |false=>
     rw [hb] at h
     exact T.mC (x:=y) (pc:=(c,false)::pc) (fun c' b' hm=>by
      rcases aF.1 hm with he|hm
      ·simp only [aq] at he; rw [he.1,he.2]; exact hb
      ·exact hp c' b' hm) h
theorem Sy {tt:TT} {call:eB} {all:List Oper} {base N:Nat} {ρ:Nat->Int}: ∀(xs:List Item) {pc ew:List (SB×Bool)} {d d':P6},ca ρ pc->(UW tt call all base N xs pc d).leaf ρ=some (ew,d')->ca ρ ew
 |[],pc,ew,d,d',hp,h=>by
  have:=bE h
  grind
 |x::xs,pc,ew,d,d',hp,h=>by simp only [UW] at h;obtain⟨d1,fW,_,fL,Z⟩:=T.mC hp h;exact Sy xs fL Z
theorem Sz [bJ] {tt:TT} (cV:eJ P tt) {call:eB} (hc:iY P call) {ops:Array Oper} {base N:Nat} {ρ:Nat->Int}: ∀(xs:List Item) {pc ew:List (SB×Bool)} {d d':P6},ca ρ pc->(UW tt call ops.toList base N xs pc d).leaf ρ=some (ew,d')->ajG P ρ ops base N xs d d'
 |[],pc,ew,d,d',hp,h=>by have:=bE h;simp only [aq] at this;obtain⟨_,rfl⟩:=this;exact⟨⟨[],rfl,rfl⟩,⟨[],rfl,rfl⟩,⟨[],rfl,rfl⟩,fun a b h=> .inl h,fun p x b hh=>by simp at hh,fun q h=>h,fun t x h=> .inr ⟨h,ad⟩,fun t _=>rfl,fun h=>h,fun p x hh=>by simp at hh⟩
 |x::xs,pc,ew,d,d',hp,h=>by
  simp only [UW] at h;obtain⟨d1,fW,U,fL,Z⟩:=T.mC hp h;obtain⟨v,ob,e1,e2,e3,e4,hF⟩:=g! cV hc hp U;obtain⟨⟨pv,v1,v2⟩,⟨po,o1,o2⟩,⟨ps,s1,s2⟩,b1,b2,b3,sl,sm,nx,hD⟩:=Sz cV hc xs fL Z;obtain⟨qs,t1,t2⟩:=hF.mN;have hv0:d'.vs.reverse[d.vs.length]?=some v:=Xy (by rw [v1,e2]);have ho0:d'.Cj.reverse[d.Cj.length]?=some ob:=Xy (by rw [o1,e3]);have hvl:d1.vs.length=d.vs.length+1:=by rw [e2]; rfl
  have hol:d1.Cj.length=d.Cj.length+1:=by rw [e3]; rfl
  have ss: ∀q,q∈d.iO->q∈d1.iO:=by
   intro q hq
   grind
  have yR: ∀(p n:Nat),n+1+p=n+(p+1):=by intro p n; omega
  refine⟨⟨pv++ [v],by rw [v1,e2]; simp,by simp [v2]⟩,⟨po++ [ob],by rw [o1,e3]; simp,by simp [o2]⟩,⟨ps++qs,by rw [s1,t1]; simp,by rw [a8,CI,s2,t2]; omega⟩,?_,?_,fun q hq=>b3 q (ss q hq),?_,?_,fun hh=>nx (hF.nxt hh),?_⟩
  ·intro a b Vw;rcases b1 a b Vw with hh|⟨p,y,g1,g2,g3⟩
   ·rw [e4] at hh
    cases ob with
    |none=>exact .inl hh
    |some c=>
     simp only [aF,aq] at hh;rcases hh with ⟨rfl,rfl⟩|hh
     ·exact .inr ⟨0,x,rfl,rfl,ho0⟩
     ·exact .inl hh
   ·exact .inr ⟨p+1,y,by simpa using g1,g2,by rw [<- yR,<- hol]; exact g3⟩
  ·intro p y b hy hb
   cases p with
   |zero=> simp at hy;subst hy;rw [bw,ho0] at hb;simp at hb;subst hb;exact b3 _ (by rw [e4]; simp)
   |succ p=> refine b2 p y b (by simpa using hy) ?_;rw [hol,yR];exact hb
  ·intro t y hy;rcases sl t y hy with ⟨p,z,g1,g2,g3⟩|⟨g1,g2⟩
   ·exact .inl ⟨p+1,z,by simpa using g1,g2,by rw [<- yR,<- hvl]; exact g3⟩
   ·rw [e1,wE] at g1;split at g1
    ·rename_i hd;simp at g1;subst g1;exact .inl ⟨0,x,rfl,hd,hv0⟩
    ·rename_i hd;refine .inr ⟨g1,fun z hz=>?_⟩;rcases aF.1 hz with rfl|hz
     ·exact hd
     ·exact g2 z hz
  ·intro t ht;rw [sm t fun y hy=>ht y (by simp [hy]),e1,wE,ah (ht x ad)]
  ·intro p y hy
   cases p with
   |zero=> simp at hy;subst hy;refine⟨d,d1,v,ob,ps,hF,hv0,ho0,s1,by simp [kH],fun q hq=>b3 q (ss q hq),fun t ht=>?_,fun t z hz=> .inr ⟨hz,ad⟩⟩;rw [sm t fun y hy=>ht y (by simp [hy]),e1,wE,ah (ht x ad)]
   |succ p=>
    obtain⟨dp,UU,v',ob',pre,g1,g2,g3,g4,g5,g6,g7,g8⟩:=hD p y (by simpa using hy);refine⟨dp,UU,v',ob',pre,g1,by rw [<- yR,<- hvl]; exact g2,by rw [<- yR,<- hol]; exact g3,g4,?_,g6,fun t ht=>g7 t (by simpa using ht),fun t z hz=>?_⟩
    ·rw [g5,amQ,CI,t1,a8,t2];omega
    ·rcases g8 t z hz with ⟨p',y',q1,q2,q3,q4⟩|⟨q1,q2⟩
     ·exact .inl ⟨p'+1,y',J,by simpa using q2,q3,by rw [<- yR,<- hvl]; exact q4⟩
     ·rw [e1,wE] at q1;split at q1
      ·rename_i hd;simp at q1;subst q1;exact .inl ⟨0,x,J,rfl,hd,hv0⟩
      ·rename_i hd;refine .inr ⟨q1,fun u hu=>?_⟩;rw [amQ] at hu;rcases aF.1 hu with rfl|hu
       ·exact hd
       ·exact q2 u hu
end
section
variable {P:Program}
theorem xe {tt:TT}: ∀{l:List Oper} {i:Nat} {o:Oper},l[i]?=some o->j8 tt (l.take (i+1))=j8 tt (l.take i)+(match kindOf tt o.op with | .e=>1|_=>0)
 |[],i,o,h=>by simp at h
 |x::xs,0,o,h=>by
  simp at h;subst h;simp only [aK,amQ,List.take_zero,j8]
  grind
 |x::xs,i+1,o,h=>by simp only [amQ,j8];rw [xe (l:=xs) (by simpa using h)];omega
theorem MY {tt:TT} {l:List Oper} {i:Nat} (h:l[i]?=none):j8 tt (l.take (i+1))=j8 tt (l.take i):=by have:=anj.1 h;rw [am6 J,am6 J]
theorem Iw {tt:TT} {l:List Oper} {i:Nat}: ∀{j:Nat},i<=j->j8 tt (l.take i)<=j8 tt (l.take j)
 |0,h=>by
  grind
 |j+1,h=>by
  by_cases e:i=j+1
  ·grind
  ·have:=Iw (tt:=tt) (l:=l) (i:=i) (j:=j) J
   cases ho:l[j]? with
   |none=>rw [MY ho]; exact this
   |some o=>rw [xe ho]; omega
theorem Kz {tt:TT} {l:List Oper} {i j:Nat} {o:Oper} (ho:l[i]?=some o) (hk:kindOf tt o.op= .e) (h:i<j):j8 tt (l.take i)<j8 tt (l.take j):=by
 have U:=xe (tt:=tt) ho;rw [hk] at U;have Z:=Iw (tt:=tt) (l:=l) (i:=i+1) (j:=j) h
 grind
theorem xd {tt:TT} {l:List Oper} {m:Nat}: ∀{j:Nat},m<j8 tt (l.take j)->∃i o,i<j/\l[i]?=some o/\kindOf tt o.op= .e/\j8 tt (l.take i)=m
 |0,h=>by simp [j8] at h
 |j+1,h=>by
  cases ho:l[j]? with
  |none=>
   rw [MY ho] at h;obtain⟨i,o,U,Z⟩:=xd h
   grind
  |some o=>
   rw [xe ho] at h;rcases bg m (j8 tt (l.take j)) with h'|h'
   ·obtain⟨i,o,U,Z⟩:=xd h'
    grind
   grind
def AT (tt:TT) (all:List Oper) (ms:List Nat) (j:Nat) (o:Oper):Item:=⟨j,o,ms.getD j 0,kindOf tt o.op,j8 tt (all.take j),reads all o⟩
theorem ji {tt:TT} {all:List Oper} {ms:List Nat} {j:Nat} {o:Oper} (h:all[j]?=some o):(items tt all ms all 0 0)[j]?=some (AT tt all ms j o):=by rw [kA,h];simp [AT]
theorem HH {tt:TT} {all:List Oper} {ms:List Nat} {x:Item} (h:x∈items tt all ms all 0 0): ∃j o,all[j]?=some o/\x=AT tt all ms j o:=by
 obtain⟨j,hj⟩:=anF h
 cases ho:all[j]? with
 |none=>rw [kA,ho] at hj; simp at hj
 |some o=>
  rw [ji ho] at hj
  grind
structure adC (tt:TT) (all:List Oper) (ms:List Nat):Prop where
 back: ∀(j:Nat) (o:Oper),all[j]?=some o->∀e∈o.after,Region.binds .any e=true->e.on<j
 mask: ∀(j:Nat) (o:Oper),all[j]?=some o->ms.getD j 0=oK ms o.after.toList
 rd: ∀(j:Nat) (o:Oper),all[j]?=some o->∀t∈reads all o,∀(i:Nat) (oi:Oper),all[i]?=some oi->oi.dst=some t->(ms.getD j 0).testBit i=true\/(kindOf tt o.op≠.r/\(ms.getD i 0).testBit j=true)
 dst: ∀(i j:Nat) (oi oj:Oper) (d:Nat),all[i]?=some oi->all[j]?=some oj->oi.dst=some d->oj.dst=some d->i=j
 tot: ∀(i j:Nat) (oi oj:Oper),all[i]?=some oi->all[j]?=some oj->kindOf tt oi.op= .e->kindOf tt oj.op= .e->i<j->(ms.getD j 0).testBit i=true
theorem Q_ {tt:TT} {all:List Oper} {q:Stat} (h:stat tt all=some q): ∃ms,q.is=items tt all ms all 0 0/\q.nE=j8 tt all/\q.rs=((q.is.filter (·.k.isR)).map fun x=>(x,A4 q.is q.nE x))/\adC tt all ms:=by
 unfold stat at h;simp only at h;split at h
 ·rename_i pI;simp at h;subst h;refine⟨qZ all [],rfl,nA _ _ _,rfl,?_⟩;have key: ∀(j:Nat) (o:Oper),all[j]?=some o->yl (qZ all []) (items tt all (qZ all []) all 0 0) (AT tt all (qZ all []) j o)=true:=fun j o ho=>bj.1 pI _ (amm (ji ho));have mem: ∀(j:Nat) (o:Oper),all[j]?=some o->AT tt all (qZ all []) j o∈items tt all (qZ all []) all 0 0:=fun j o ho=>amm (ji ho);refine⟨?_,?_,?_,?_,?_⟩
  ·intro j o ho e he hb;have:=key j o ho;simp only [yl,au,bj] at this;have:=this.1.1.1.1 e (by simpa [AT] using he);simpa [hb,AT] using this
  ·intro j o ho;have:=key j o ho;simp only [yl,au] at this;have:=this.1.1.1.2;simpa [AT] using this
  ·intro j o ho t ht i oi hoi hd;have:=key j o ho;simp only [yl,au,bj] at this;have:=this.1.1.2 t ht _ (mem i oi hoi);simp only [AT,hd,ne_eq,not_true_eq_false,decide_false,anm,amY,au,amJ] at this;rcases this with h|⟨U,Z⟩
   ·grind
   ·refine .inr ⟨fun hk=>?_,Z⟩;rw [hk] at U;simp [Kind.isR] at U
  ·intro i j oi oj d hi hj hdi hdj;have:=key i oi hi;simp only [yl,au,bj] at this;have:=this.1.2 _ (mem j oj hj);simp [AT,hdi,hdj] at this
   grind
  ·intro i j oi oj hi hj C? hkj gu;have:=key j oj hj;simp only [yl,au,bj] at this;have:=this.2;simp only [AT,hkj,Kind.isE,anG,anm,bj] at this;have:=this _ (mem i oi hi);simpa [AT,C?,Kind.isE,gu] using this
 grind
theorem Eb [bJ] {tt:TT} (cV:eJ P tt) {call:eB} (hc:iY P call) {ops:Array Oper} {base:Nat} {pc:List (SB×Bool)} {ρ:Nat->Int} (hp:ca ρ pc) {x:Item} (hk:kindOf tt x.o.op= .r) {v:Y} {S:Tr Y} {iO:List (Nat×dX)} {mN:List (Hp×Nat)}: ∀(ks:List Nat),(Dc tt call ops.toList base pc x v S iO mN ks).leaf ρ=some ()->
 ∀k∈ks,∃h mm,mN[k]?=some (h,mm)/\Gd P ρ ops x.o S (fR base x.m mm iO h) v (fR base x.m mm iO h)
 |[],_=>by simp
 |k::ks,h=>by
  simp only [Dc] at h;split at h
  ·rename_i h0 mm hn;obtain⟨⟨u,s'⟩,U,Z⟩:=T.fD h;simp only at Z;split at Z
   ·rename_i hs;have ha:=Kk cV hc (s:=⟨S,fR base x.m mm iO h0,pc⟩) hp U;have hr:=ajd hk U;rw [hr,kx _ _ hs] at ha;intro k' Gg;rcases aF.1 Gg with rfl|Gg
    ·exact⟨h0,mm,by rw [<- dC]; exact hn,ha⟩
    ·exact Eb cV hc hp hk ks Z k' Gg
   ·simp [T.leaf] at Z
  ·simp [T.leaf] at h
theorem Ha [bJ] {tt:TT} (cV:eJ P tt) {call:eB} (hc:iY P call) {ops:Array Oper} {base:Nat} {ρ:Nat->Int} {d:P6} {mN:List (Hp×Nat)} {vs:List Y}: ∀(rs:List (Item×List Nat)) {pc ew:List (SB×Bool)},ca ρ pc->(∀r∈rs,kindOf tt r.1.o.op= .r)->(I8 tt call ops.toList base d mN vs rs pc).leaf ρ=some ew->
 ca ρ ew/\∀r∈rs,∃v,vs[r.1.i]?=some v/\∀k∈r.2,∃h mm,mN[k]?=some (h,mm)/\Gd P ρ ops r.1.o (only d.bG r.1.rd) (fR base r.1.m mm d.iO h) v (fR base r.1.m mm d.iO h)
 |[],pc,ew,hp,_,h=>by
  have:=bE h
  grind
 |(x,ks)::rs,pc,ew,hp,hk,h=>by
  simp only [I8] at h;split at h
  ·rename_i v hv;obtain⟨⟨⟩,fW,U,fL,Z⟩:=T.mC hp h;obtain⟨kg,ih⟩:=Ha cV hc rs fL (fun r hr=>hk r (by simp [hr])) Z;refine⟨kg,fun r hr=>?_⟩;rcases aF.1 hr with rfl|hr
   ·exact⟨v,by rw [<- dC]; exact hv,Eb cV hc hp (hk _ ad) ks U⟩
   grind
  ·simp [T.leaf] at h
end
section
variable {P:Program}
theorem U_ {α:Type} {l pre:List α} {a b:α} {l0:List α} (h:l=pre++a::b::l0):l.reverse[l0.length]?=some b/\l.reverse[l0.length+1]?=some a:=by
 grind
theorem TR {n b:Nat} (h:((1 <<<n)-1).testBit b=true):b<n:=by
 rw [Nat.shiftLeft_eq,am2,Nat.testBit_two_pow_sub_one] at h
 grind
theorem V_ [bJ] {tt:TT} {ops:Array Oper} {ms:List Nat} {ρ:Nat->Int} {pW:Tr Y} {H0:Hp} {base N:Nat} {d:P6} (sf:adC tt ops.toList ms) (hb:base=H0.next) (hN:base+ops.size<=N)
 (rf:ajG P ρ ops base N (items tt ops.toList ms ops.toList 0 0) ⟨pW,[(⟨H0.m,base+ops.size,none⟩,0)],[],[],[]⟩ d)
 (OU: ∀r∈((items tt ops.toList ms ops.toList 0 0).filter (·.k.isR)).map fun x=>(x,A4 (items tt ops.toList ms ops.toList 0 0) (j8 tt ops.toList) x),∃v,d.vs.reverse[r.1.i]?=some v/\∀k∈r.2,∃h mm,d.mN.reverse[k]?=some (h,mm)/\Gd P ρ ops r.1.o (only d.bG r.1.rd) (fR base r.1.m mm d.iO h) v (fR base r.1.m mm d.iO h))
 (hun:IM base d.iO d.mN=true) :
 ∃p:F9 P ρ ops pW H0,p.base=base/\p.nE=j8 tt ops.toList/\(∀i,p.val i=(d.vs.reverse[i]?).getD .u9)/\(∀k h mm,d.mN.reverse[k]?=some (h,mm)->p.hp k=h/\∀a,p.un k a=!mm.testBit a)/\(∀i,p.om i=(d.Cj.reverse[i]?).getD none)/\
  (∀(m:Nat),m<p.nE->∃(j:Nat) (o:Oper),ops[j]?=some o/\p.kd j= .e/\p.st j=m):=by
 have iW: ∀(j:Nat),ops.toList[j]?=ops[j]?:=fun j=>amp;have gu: ∀{j:Nat} {o:Oper},ops[j]?=some o->j<ops.size:=fun h=>(amD.1 h).1;have hci:kH (items tt ops.toList ms ops.toList 0 0)=j8 tt ops.toList:=nA _ _ _;have HP:j8 tt ops.toList=j8 tt (ops.toList.take ops.size):=by rw [am6 ad]
 obtain⟨ps,s1,s2⟩:=rf.mN;rw [hci] at s2;have al8:d.mN.length=j8 tt ops.toList+1:=by rw [s1,a8,s2]; rfl
 have akA:d.mN.reverse[0]?=some (⟨H0.m,base+ops.size,none⟩,0):=by rw [s1]; simp
 have ait: ∀k,k<=j8 tt ops.toList->∃h mm,d.mN.reverse[k]?=some (h,mm):=by
  intro k hk;have:k<d.mN.reverse.length:=by rw [an4]; omega
  exact⟨d.mN.reverse[k].1,d.mN.reverse[k].2,aT this⟩
 have hnx:=rf.nxt (by
  intro q hq;simp only [aF,amw,or_false] at hq;subst hq
  exact⟨hN,rfl⟩)
 have ae8: ∀(k:Nat) (h:Hp) (mm:Nat),d.mN.reverse[k]?=some (h,mm)->h.next<=N/\h.res=none:=by intro k h mm hh;exact hnx (h,mm) (by have:=amm hh; simpa using this)
 let hpf:Nat->Hp:=fun k=>((d.mN.reverse[k]?).map (·.1)).getD ⟨.nil,0,none⟩
 let unf:Nat->Nat->Bool:=fun k a=>match d.mN.reverse[k]? with |some q=>!q.2.testBit a|none=>false
 let bff:Nat->Nat->Bool:=fun i j=>match ops[j]? with |some _=>(ms.getD j 0).testBit i|none=>false
 let kdf:Nat->Kind:=fun i=>match ops[i]? with |some o=>kindOf tt o.op|none=> .pa
 let KB:Nat->Option dX:=fun i=>(d.Cj.reverse[i]?).getD none
 have Vs: ∀k h mm,d.mN.reverse[k]?=some (h,mm)->hpf k=h/\∀a,unf k a=!mm.testBit a:=by intro k h mm hh;refine⟨by simp only [hpf,hh]; rfl,fun a=>by simp only [unf,hh]⟩
 have n!: ∀{i j:Nat} {o:Oper},ops[j]?=some o->bff i j=(ms.getD j 0).testBit i:=by intro i j o ho;simp only [bff,ho]
 have Yd: ∀{j:Nat} {o:Oper},ops[j]?=some o->kdf j=kindOf tt o.op:=by intro j o ho;simp only [kdf,ho]
 have kdE: ∀{j:Nat},kdf j= .e->∃o,ops[j]?=some o/\kindOf tt o.op= .e:=by
  intro j hj
  cases ho:ops[j]? with
  |none=>simp only [kdf,ho] at hj; simp at hj
  |some o=>exact⟨o,rfl,by rw [<- Yd ho]; exact hj⟩
 have YJ: ∀(k:Nat),∀(o':Oper),ops[k]?=some o'->∀b,(ms.getD k 0).testBit b=true->b<k:=by
  intro k
  induction k using Nat.strongRecOn with
  |_ k ih=>
   intro o' zQ b JI;rw [sf.mask k o' (by rw [iW]; exact zQ)] at JI;obtain⟨e,e1,e2,e3⟩:=pB JI;have kT:e∈o'.after:=by simpa using e1
   have ae9:=sf.back k o' (by rw [iW]; exact zQ) e kT e2;rcases e3 with rfl|e3
   ·exact ae9
   ·have:=gu zQ;have:=ih e.on ae9 (ops[e.on]'J) ad b e3;omega
 have ak7: ∀(i:Nat),∃S:Tr Y,∀(o:Oper),ops[i]?=some o->∃dp UU v ob pre,dp.bG=S/\F7 P ρ ops base N (AT tt ops.toList ms i o) dp v ob UU/\d.vs.reverse[i]?=some v/\d.Cj.reverse[i]?=some ob/\d.mN=pre++UU.mN/\dp.mN.length=1+j8 tt (ops.toList.take i)/\
  (∀q,q∈dp.iO->q∈d.iO)/\(∀t x,S.get t=some x->(∃p oj,p<i/\ops[p]?=some oj/\oj.dst=some t/\d.vs.reverse[p]?=some x)\/(pW.get t=some x/\∀(p:Nat) (oj:Oper),p<i->ops[p]?=some oj->oj.dst≠some t)):=by
  intro i
  cases hoi:ops[i]? with
  |none=>exact⟨.nil,fun o h=>by simp at h⟩
  |some o0=>
   have hx:(items tt ops.toList ms ops.toList 0 0)[i]?=some (AT tt ops.toList ms i o0):=ji (by rw [iW]; exact hoi);obtain⟨dp,UU,v,ob,pre,g1,g2,g3,g4,g5,g6,g7,g8⟩:=rf.at_ i _ hx;refine⟨dp.bG,fun o ho=>?_⟩;simp only [an] at ho;subst ho;refine⟨dp,UU,v,ob,pre,rfl,g1,by simpa using g2,by simpa using g3,g4,?_,g6,?_⟩
   ·rw [g5];congr 1
    have:(items tt ops.toList ms ops.toList 0 0).take i=items tt ops.toList ms (ops.toList.take i) 0 0:=by
     apply anu;intro j;rw [amW,kA,kA,amW];split
     ·rename_i hj;rw [ann,an5 J]
     ·rfl
    rw [this,nA]
   ·intro t x ht;rcases g8 t x ht with ⟨p,y,q1,q2,q3,q4⟩|⟨q1,q2⟩
    ·cases pJ:ops.toList[p]? with
     |none=>rw [kA,pJ] at q2; simp at q2
     |some oj=> rw [ji pJ] at q2;simp at q2;subst q2;exact .inl ⟨p,oj,q1,by rw [<- iW]; exact pJ,q3,by simpa using q4⟩
    ·refine .inr ⟨q1,fun p oj hp pJ=>?_⟩
     have hm:AT tt ops.toList ms p oj∈(items tt ops.toList ms ops.toList 0 0).take i:=by refine amm (i:=p) ?_;rw [amW,ak hp];exact ji (by rw [iW]; exact pJ)
     exact q2 _ hm
 obtain⟨Sd,hD⟩:=Classical.skolem.1 ak7
 let Sf:Nat->Tr Y:=fun i=>match ops[i]? with
  |some o=>(match kindOf tt o.op with
   | .r=>only d.bG (reads ops.toList o)
   |_=>only (Sd i) (reads ops.toList o))
  |none=> .nil
 have SfR: ∀{i:Nat} {o:Oper},ops[i]?=some o->kindOf tt o.op= .r->Sf i=only d.bG (reads ops.toList o):=by intro i o ho hk;simp only [Sf,ho,hk]
 have SfN: ∀{i:Nat} {o:Oper},ops[i]?=some o->kindOf tt o.op≠.r->Sf i=only (Sd i) (reads ops.toList o):=by
  intro i o ho hk;have:Sf i=(match kindOf tt o.op with | .r=>only d.bG (reads ops.toList o)|_=>only (Sd i) (reads ops.toList o)):=by simp only [Sf,ho]
  rw [this]
  cases hh:kindOf tt o.op with
  |r=>exact absurd hh hk
  |pa=>rfl
  |e=>rfl
 have aap: ∀a b,(a,b)∈d.iO->KB a=some b:=by
  intro a b Vw;rcases rf.om a b Vw with h|⟨p,x,g1,g2,g3⟩
  ·simp at h
  ·cases ho:ops.toList[p]? with
   |none=>rw [kA,ho] at g1; simp at g1
   |some o=> rw [ji ho] at g1;simp at g1;subst g1;have:p=a:=g2;subst this;simp only [aA,aK] at g3;simp only [KB,g3,ax]
 have aiP: ∀a b,KB a=some b->(a,b)∈d.iO:=by
  intro a b Vw
  have Gf:d.Cj.reverse[a]?=some (some b):=by
   simp only [KB] at Vw
   cases hh:d.Cj.reverse[a]? with
   |none=>rw [hh] at Vw; simp at Vw
   |some x=>rw [hh] at Vw; simp at Vw; rw [Vw]
  obtain⟨po,o1,o2⟩:=rf.Cj
  have Vv:a<ops.size:=by have U:=(bk.1 Gf).1;rw [an4,o1,amy,o2,tM] at U;simpa using U
  have hx:(items tt ops.toList ms ops.toList 0 0)[a]?=some (AT tt ops.toList ms a ops[a]):=ji (by rw [iW]; simp [Vv]);exact rf.alG a _ b hx (by simpa using Gf)
 refine⟨{
  base:=base,bf:=bff,kd:=kdf,S:=Sf,val:=fun i=>(d.vs.reverse[i]?).getD .u9,st:=fun i=>j8 tt (ops.toList.take i),nE:=j8 tt ops.toList,hp:=hpf,un:=unf,om:=KB,
  gen:=?_,back:=?_,dst:=?_,bG:=?_,stl:=?_,inj:=?_,ahH:=?_,pa:=?_,ev:=?_,rd:=?_,unm:=?_,nob:=?_,first:=?_ },rfl,rfl,fun i=>rfl,Vs,fun i=>rfl,?_⟩
 ·intro i j h
  cases ho:ops[j]? with
  |none=>simp only [bff,ho] at h; simp at h
  |some o=>
   rw [n! ho,sf.mask j o (by rw [iW]; exact ho)] at h;obtain⟨e,e1,e2,e3⟩:=pB h;have kT:e∈o.after:=by simpa using e1
   refine⟨o,e,rfl,kT,e2,e3.imp id fun h3=>?_⟩;have W:=sf.back j o (by rw [iW]; exact ho) e kT e2;have hj:=gu ho;rw [n! (o:=ops[e.on]'J) ad];exact h3
 ·intro j o ho e he JI;exact sf.back j o (by rw [iW]; exact ho) e he JI
 ·intro i j oi oj dd hi hj U Z;exact sf.dst i j oi oj dd (by rw [iW]; exact hi) (by rw [iW]; exact hj) U Z
 ·intro i o ho t x ht
  cases hk:kindOf tt o.op with
  |r=>
   rw [SfR ho hk] at ht;obtain⟨U,Z⟩:=zx ht;rcases rf.slot t x Z with ⟨p,y,g1,g2,g3⟩|⟨g1,g2⟩
   ·cases pJ:ops.toList[p]? with
    |none=>rw [kA,pJ] at g1; simp at g1
    |some oj=>
     rw [ji pJ] at g1;simp at g1;subst g1;have hp:ops[p]?=some oj:=by rw [<- iW]; exact pJ
     refine .inl ⟨p,oj,?_,hp,g2,?_⟩
     ·rw [n! ho];rcases sf.rd i o (by rw [iW]; exact ho) t U p oj pJ g2 with h|⟨h,_⟩
      ·exact h
      ·exact absurd hk h
     ·simp only [aA,aK] at g3;simp only [g3,ax]
   ·refine .inr ⟨g1,fun j oj pJ hd=>?_⟩;exact absurd hd (g2 _ (amm (ji (by rw [iW]; exact pJ))))
  |_=>
   rw [SfN ho (by rw [hk]; simp)] at ht;obtain⟨U,Z⟩:=zx ht;obtain⟨dp,UU,v,ob,pre,_,_,_,_,_,_,_,g8⟩:=hD i o ho;rcases g8 t x Z with ⟨p,oj,q1,q2,q3,q4⟩|⟨q1,q2⟩
   ·refine .inl ⟨p,oj,?_,q2,q3,by rw [q4]; rfl⟩;rw [n! ho];rcases sf.rd i o (by rw [iW]; exact ho) t U p oj (by rw [iW]; exact q2) q3 with h|⟨_,h⟩
    ·exact h
    ·have:=YJ p oj q2 i h;omega
   ·refine .inr ⟨q1,fun j oj pJ hd=>?_⟩;rw [n! pJ];rcases sf.rd i o (by rw [iW]; exact ho) t U j oj (by rw [iW]; exact pJ) hd with h|⟨_,h⟩
    ·exact absurd hd (q2 j oj (YJ i o ho j h) pJ)
    ·exact h
 ·intro j o ho hk;rw [Yd ho] at hk;rw [HP];exact Kz (by rw [iW]; exact ho) hk (gu ho)
 ·intro i j hi hj he;obtain⟨oi,hoi,C?⟩:=kdE hi;obtain⟨oj,pJ,hkj⟩:=kdE hj;rcases an1 i j with h|h|h
  ·have:=Kz (tt:=tt) (l:=ops.toList) (by rw [iW]; exact hoi) C? h;omega
  ·exact h
  ·have:=Kz (tt:=tt) (l:=ops.toList) (by rw [iW]; exact pJ) hkj h;omega
 ·intro j o ho hk m hm;obtain⟨i,oi,U,Z,h3,h4⟩:=xd hm;rw [Yd ho] at hk;have h2':ops[i]?=some oi:=by rw [<- iW]; exact Z
  refine⟨i,by rw [Yd h2']; exact h3,h4,?_⟩;rw [n! ho];exact sf.tot i j oi o Z (by rw [iW]; exact ho) h3 hk U
 ·intro i o ho hk;rw [Yd ho] at hk;obtain⟨dp,UU,v,ob,pre,hdp,hF,g2,g3,g4,g5,g6,g7⟩:=hD i o ho;obtain⟨h0,mm,rest,hs,hF⟩:=hF;simp only [AT,hk] at hF;obtain⟨_,HA,f1,f2,f3⟩:=hF;rw [hdp] at f1;refine⟨HA,N,?_,f2,?_,?_⟩
  ·rw [SfN ho (by rw [hk]; simp)];simp only [g2,ax];exact f1
  ·simp only [KB,g3,ax];exact f3
  ·intro k Cu;obtain⟨Z,mm2,hh⟩:=ait k Cu;rw [(Vs _ _ _ hh).1];exact (ae8 _ _ _ hh).1
 ·intro j o ho hk;rw [Yd ho] at hk;obtain⟨dp,UU,v,ob,pre,hdp,hF,g2,g3,g4,g5,g6,g7⟩:=hD j o ho;obtain⟨h0,mm,rest,hs,hF⟩:=hF;simp only [AT,hk] at hF;obtain⟨_,hn,f1,f2,f3,f4⟩:=hF;rw [hdp] at f4;rw [f1,hs] at g4;have Vr:rest.length=j8 tt (ops.toList.take j):=by rw [hs] at g5; simp at g5; omega
  obtain⟨r1,r2⟩:=U_ g4;rw [Vr] at r1 r2;obtain⟨p1,p2⟩:=Vs _ _ _ r1;obtain⟨p3,p4⟩:=Vs _ _ _ r2;refine⟨fR base (ms.getD j 0) mm dp.iO h0,?_,?_,?_,?_,?_⟩
  ·rw [SfN ho (by rw [hk]; simp)];simp only [g2,ax,p3];exact f4
  ·rw [(j9 _ _).1,p1]
  ·rw [(j9 _ _).2];exact (ae8 _ _ _ r1).2
  ·intro id x hx;rcases oO hx with h|⟨a,a1,a2,a3,a4⟩
   ·left; rw [p1]; exact h
   ·right;exact⟨a,by rw [n! ho]; exact a2,by rw [p2,a3]; rfl,a4,aap a x (g6 _ a1)⟩
  ·intro a ha;rw [p4] at ha;simp only [Nat.testBit_or,Bool.not_or,au,amJ] at ha;refine⟨by rw [p2,ha.1]; rfl,?_⟩;rw [n! ho];exact ha.2
 ·intro i o ho hk k C! U Z;rw [Yd ho] at hk;have Bw:AT tt ops.toList ms i o∈items tt ops.toList ms ops.toList 0 0:=amm (ji (by rw [iW]; exact ho))
  obtain⟨v,g1,g2⟩:=OU (AT tt ops.toList ms i o,A4 (items tt ops.toList ms ops.toList 0 0) (j8 tt ops.toList) (AT tt ops.toList ms i o)) (by
   rw [bd]
   exact⟨_,amM.2 ⟨Bw,by simp [AT,hk,Kind.isR]⟩,rfl⟩)
  have Mc:k∈A4 (items tt ops.toList ms ops.toList 0 0) (j8 tt ops.toList) (AT tt ops.toList ms i o):=by
   unfold A4;rw [amM,amB];refine⟨J,bj.2 fun y hy=>?_⟩;obtain⟨j,oj,pJ,rfl⟩:=HH hy;have aao:ops[j]?=some oj:=by rw [<- iW]; exact pJ
   cases hkj:kindOf tt oj.op with
   |pa=>simp [AT,hkj,Kind.isE]
   |r=>simp [AT,hkj,Kind.isE]
   |e=>
    simp only [AT,hkj,Kind.isE,anG,anm,au,amY,amJ,decide_eq_true_eq];constructor
    ·cases afg:(ms.getD i 0).testBit j with
     |false=>exact .inl rfl
     |true=>exact .inr (U j (by rw [Yd aao]; exact hkj) (by rw [n! ho]; exact afg))
    ·cases afg:(ms.getD j 0).testBit i with
     |false=>exact .inl rfl
     |true=>exact .inr (Z j oj aao (by rw [Yd aao]; exact hkj) (by rw [n! aao]; exact afg))
  obtain⟨h0,mm,g3,g4⟩:=g2 k Mc;obtain⟨p1,p2⟩:=Vs _ _ _ g3;refine⟨fR base (ms.getD i 0) mm d.iO h0,?_,?_,?_,?_⟩
  ·have R6:d.vs.reverse[i]?=some v:=g1;rw [SfR ho hk];simp only [R6,ax];exact g4
  ·rw [(j9 _ _).1,p1]
  ·rw [(j9 _ _).2];exact (ae8 _ _ _ g3).2
  ·intro id x hx;rcases oO hx with h|⟨a,a1,a2,a3,a4⟩
   ·left; rw [p1]; exact h
   ·right;exact⟨a,by rw [n! ho]; exact a2,by rw [p2,a3]; rfl,a4,aap a x a1⟩
 ·intro k a x hk hx hu;obtain⟨h0,mm,hh⟩:=ait k hk;obtain⟨p1,p2⟩:=Vs _ _ _ hh;rw [p1];rw [p2] at hu;unfold IM at hun;have:=bj.1 hun _ (aiP a x hx)
  have:=bj.1 this (h0,mm) (by
   have:=amm hh
   simpa using this)
  simp only [amY,Option.isNone_iff_eq_none] at this;simp only [amJ] at hu;rcases this with h|h
  ·rw [hu] at h; simp at h
  ·exact h
 ·intro i hk
  cases ho:ops[i]? with
  |none=>
   obtain⟨po,o1,o2⟩:=rf.Cj
   have RP:d.Cj.reverse[i]?=none:=by rw [anj,an4,o1,amy,o2,tM];have:=aom.1 ho;simpa using this
   simp only [KB,RP,aR]
  |some o=>
   obtain⟨dp,UU,v,ob,pre,hdp,hF,g2,g3,g4,g5,g6,g7⟩:=hD i o ho;obtain⟨h0,mm,rest,hs,hF⟩:=hF;rw [Yd ho] at hk
   cases xu:kindOf tt o.op with
   |pa=>exact absurd xu hk
   |e=> simp only [AT,xu] at hF;simp only [KB,g3,ax,hF.1]
   |r=> simp only [AT,xu] at hF;simp only [KB,g3,ax,hF.1]
 ·have:=(Vs 0 _ _ akA).1;refine⟨hb,by rw [this]; exact ay _,fun id x h=>?_⟩;rw [this] at h;exact h
 ·intro m hm;have hm':m<j8 tt (ops.toList.take ops.size):=by rw [<- HP]; exact hm
  obtain⟨i,oi,U,Z,h3,h4⟩:=xd hm';have h2':ops[i]?=some oi:=by rw [<- iW]; exact Z
  exact⟨i,oi,h2',by show kdf i=_; rw [Yd h2']; exact h3,h4⟩
end
section
variable {P:Program}
theorem FA [bJ] {tt:TT} (cV:eJ P tt) {call:eB} (hc:iY P call) {ops:Array Oper} {E:En} {s s':St} {a:Act} {w:World} {Q:Exit->Act->World->Prop}
 (hd: ∀o∈ops.toList,∀d,o.dst=some d->d<a.tmps.size) (fit:Fit E s a w) (h:(draw tt call ops.toList s).leaf E.ρ=some s') (hq: ∀a' w',nG E s a w s' a' w'->Q .normal a' w') :
 wpAny P .any ops Q ops.size (Array.replicate ops.size false) a { w with drawn:=w.drawn+1 }:=by
 unfold draw FB at h;split at h
 ·simp [T.leaf] at h
 ·rename_i q hq0;split at h
  ·simp [T.leaf] at h
  ·rename_i yz;simp only at h;obtain⟨⟨fW,d⟩,U,Z⟩:=T.fD h;simp only at Z;obtain⟨ms,e1,e2,e3,sf⟩:=Q_ hq0;rw [e1,] at U;have rf:=Sz cV hc _ fit.pc U;have fL:=Sy _ fit.pc U;split at Z
   ·simp [T.leaf] at Z
   ·rename_i h0 mm rest akz;obtain⟨kz,h3,h4⟩:=T.fD Z;split at h4
    ·rename_i hun;have:=bE h4;subst this
     have aiv:=Ha cV hc q.rs fL (by
      intro r hr;rw [e3,bd] at hr;obtain⟨x,hx,rfl⟩:=hr;rw [amM,e1] at hx;obtain⟨j,o,ho,rfl⟩:=HH hx.1;have h5:(kindOf tt o.op).isR=true:=hx.2;show kindOf tt o.op= .r;revert h5
      cases kindOf tt o.op<;>simp [Kind.isR]) h3
     have kg:=aiv.1;have OU:=aiv.2;rw [e3,e1,e2] at OU;obtain⟨p,p1,p2,p3,p4,p5,p6⟩:=V_ sf (base:=s.h.next) (H0:=s.h) rfl (Nat.le_add_right _ _) rf OU hun;have iW: ∀(j:Nat),ops.toList[j]?=ops[j]?:=fun j=>amp;let w1:World:={ w with drawn:=w.drawn+1 };have ald:Fit E s a w1:=⟨⟨fit.rel.fresh,fit.rel.res,fit.rel.live,fit.rel.inj,fit.rel.sq,fit.rel.ku,fit.rel.hid⟩,fit.sr,fit.pc⟩
     have aiG: ∀(i:Nat),(Array.replicate ops.size false)[i]?≠some true:=by
      intro i hh
      grind
     refine p.any (E0:=E) (a0:=a) (w0:=w1) hd ?_ ops.size _ a w1 ad ?_ (p.start rfl rfl rfl ald _ aiG)
     ·intro a' w' inv;obtain⟨ps,s1,s2⟩:=rf.mN;rw [nA] at s2
      have hlen:rest.length=j8 tt ops.toList:=by
       have:d.mN.length=j8 tt ops.toList+1:=by rw [s1,a8,s2]; rfl
       grind
      have ack:d.mN.reverse[j8 tt ops.toList]?=some (h0,mm):=by
       grind
      obtain⟨q1,q2⟩:=p4 _ _ _ ack
      have hnx:=rf.nxt (by
       intro q hq;simp only [aF,amw,or_false] at hq;subst hq
       exact⟨Nat.le_add_right _ _,rfl⟩) (h0,mm) (by rw [akz]; simp)
      have ht:=p.finish (s0:=s) (s':=⟨d.bG,fR s.h.next ((1 <<<ops.toList.length)-1) mm d.iO h0,kz⟩) (w0:=w1) rfl inv kg ?_ ?_ ?_ ?_ p6
      ·refine hq a' w' ⟨ht.defers,ht.size,?_⟩;obtain⟨E',st,f'⟩:=ht.step;exact⟨E',⟨st.ρ,st.dm,st.θ,st.κ,st.ro,st.sO,st.Rj,st.rsm,st.D?,st.os,st.tape,st.output,st.size,st.cD,st.own,st.hd⟩,f'⟩
      ·intro t x ht;rcases rf.slot t x ht with ⟨j,y,g1,g2,g3⟩|⟨g1,g2⟩
       ·cases pJ:ops.toList[j]? with
        |none=>rw [kA,pJ] at g1; simp at g1
        |some oj=>
         rw [ji pJ] at g1;simp at g1;subst g1;refine .inl ⟨j,oj,by rw [<- iW]; exact pJ,g2,?_⟩
         grind
       ·refine .inr ⟨g1,fun j oj pJ=>?_⟩;exact g2 _ (amm (ji (by rw [iW]; exact pJ)))
      ·intro id x hx;rw [p2,q1,p1];rcases oO hx with h|⟨b,b1,b2,b3,b4⟩
       ·grind
       ·right
        have gu:b<ops.size:=by
         have:=TR b2
         grind
        refine⟨b,gu,by rw [q2,b3]; rfl,b4,?_⟩;rcases rf.om b x b1 with h|⟨j,y,g1,g2,g3⟩
        ·grind
        ·cases pJ:ops.toList[j]? with
         |none=>rw [kA,pJ] at g1; simp at g1
         |some oj=>
          rw [ji pJ] at g1;simp at g1;subst g1;have:j=b:=g2
          grind
      ·rw [p2,q1];exact (j9 _ _).1.symm
      ·show (fR s.h.next ((1 <<<ops.toList.length)-1) mm d.iO h0).res=none;rw [(j9 _ _).2]
       grind
     ·have: ∀(l:Nat->Bool) (n:Nat),left l n<=n:=by
       intro l n
       induction n with
       |zero=>exact ay _
       |succ n ih=>simp only [left]; split<;>omega
      grind
    ·simp [T.leaf] at h4
theorem aaR [bJ] {tt:TT} (cV:eJ P tt) (hm:P.follows .mixedOrders=true) {call:eB} (hc:iY P call):abd P (draw tt call):=by intro id ops E s s' a w Q hd fit h hq;exact wp_region_any hm (FA cV hc hd fit h hq)
end
end Go.As
end
section
namespace Go.As
noncomputable section
open Go.RowKit
section
variable {P:Program}
def En.zero (ρ:Nat->Int) (ro:Nat->Prop):En:={ ρ:=ρ,θ:=fun _=>(0,0),κ:=fun _=>0,dm:=fun _=>False,ro:=ro }
def Hp.zero:Hp:=⟨.nil,0,none⟩
theorem K5 [bJ] (ρ:Nat->Int) (ro:Nat->Prop) (w:World) (h: ∀b,ro b->b<w.heap.size) (hg:bJ.ok ρ ro w.heap):bS (En.zero ρ ro) Hp.zero w:=
 ⟨fun _ _ h=>h,by simp [Hp.zero],fun id o h=>by simp [Hp.zero,Hp.get,Tr.get] at h,fun id _ o _ h=>by simp [Hp.zero,Hp.get,Tr.get] at h,h,hg,fun _ _ h=>by simp [En.zero] at h⟩
theorem fj.below {E E':En} {H':Hp} {w w':World} (s:fj E Hp.zero w E' H' w'):Below w.heap.size w w':=
 ⟨s.os,s.tape,s.output,s.size,fun k hk=>s.cD k hk fun id o h=>by simp [Hp.zero,Hp.get,Tr.get] at h⟩
theorem AH [bJ] {g:FuncId} {f:List Y->St->T (Y×St)} (hf:kR P g f) {fn:Func} (vc:P.funcs[g]?=some fn) (mi:(fn.name == "runtime.NumGoroutine")=false) {c:Code} (rQ:fn.body=some c)
 {ρ:Nat->Int} {ro:Nat->Prop} {w:World} (lZ: ∀b,ro b->b<w.heap.size) (hg:bJ.ok ρ ro w.heap) {args:List Y} {vals:List Value} (hv:cJ (En.zero ρ ro) w.heap args vals) {v:Y} {s':St}
 (h:(f args ⟨.nil,Hp.zero,[]⟩).leaf ρ=some (v,s')):Calls P g vals.toArray w fun e w'=> ∃u E',e= .returned u/\VR E' w'.heap v u/\E'.ρ=ρ/\Below w.heap.size w w':=by
 obtain⟨_,_,h3⟩:=hf args ⟨.nil,Hp.zero,[]⟩ (En.zero ρ ro) w vals v s' (K5 ρ ro w lZ hg) hv (by simp [ca]) h
 have mD:(callFunc g vals.toArray).run P w= .ok (.enter g vals.toArray) w:=by unfold callFunc;simp [vc,rQ,by simpa using mi]
 unfold mr oQ at h3;rw [mD] at h3;exact Calls.mono h3 fun e w' ⟨u,he,E',st,_,hv⟩=> ⟨u,E',he,hv,st.ρ,st.below⟩
end
end
end Go.As
end
section
namespace Go.As
noncomputable section
open Go.RowKit
mutual
def iM:Y->Bool
 | .bool (.lit _)=>true
 | .int _ (.lit _)=>true
 | .str _=>true
 | .u9=>true
 | .gL=>true
 | .tI=>true
 | .xp=>true
 | .yn=>true
 | .iface _ v=>iM v
 | .agg cs=>oL cs
 | .tuple cs=>oL cs
 | .func _ fs cs=>oL fs&&oL cs
 |_=>false
def oL:List Y->Bool
 |[]=>true
 |x::xs=>iM x&&oL xs
end
section
variable {P:Program}
mutual
theorem xf {E E':En} {h h':Array Obj}: ∀(x:Y) (u:Value),iM x=true->VR E h x u->VR E' h' x u
 | .bool b,u,hc,hv=>by cases b<;>simp [iM] at hc; simpa [VR,SB.den] using hv
 | .int k e,u,hc,hv=>by cases e<;>simp [iM] at hc; simpa [VR,V.den] using hv
 | .str s,u,_,hv=>by simp only [VR] at *; exact hv
 | .u9,u,_,hv=>by simp only [VR] at *; exact hv
 | .gL,u,_,hv=>by simp only [VR] at *; exact hv
 | .tI,u,_,hv=>by simp only [VR] at *; exact hv
 | .xp,u,_,hv=>by simp only [VR] at *; exact hv
 | .yn,u,_,hv=>by simp only [VR] at *; exact hv
 | .iface t x,u,hc,hv=>by simp only [VR,iM] at *;obtain⟨y,U,Z⟩:=hv;exact⟨y,U,xf x y hc Z⟩
 | .agg cs,u,hc,hv=>by simp only [VR,iM] at *;obtain⟨us,U,Z⟩:=hv;exact⟨us,U,nX cs us hc Z⟩
 | .tuple cs,u,hc,hv=>by simp only [VR,iM] at *;obtain⟨us,U,Z⟩:=hv;exact⟨us,U,nX cs us hc Z⟩
 | .func fn fs cs,u,hc,hv=>by simp only [VR,iM,au] at *;obtain⟨us,ws,U,Z,h3⟩:=hv;exact⟨us,ws,U,nX fs us hc.1 Z,nX cs ws hc.2 h3⟩
 | .ptr _ _,_,hc,_=>by simp [iM] at hc
 | .nQ _,_,hc,_=>by simp [iM] at hc
 | .slice _ _ _ _,_,hc,_=>by simp [iM] at hc
 | .ro _ _ _,_,hc,_=>by simp [iM] at hc
 | .map _,_,hc,_=>by simp [iM] at hc
 | .LI _,_,hc,_=>by simp [iM] at hc
 | .xK _ _,_,hc,_=>by simp [iM] at hc
theorem nX {E E':En} {h h':Array Obj}: ∀(xs:List Y) (us:List Value),oL xs=true->cJ E h xs us->cJ E' h' xs us
 |[],us,_,hv=>by simp only [cJ] at *; exact hv
 |x::xs,us,hc,hv=>by simp only [cJ,oL,au] at *;obtain⟨u,vs,U,Z,h3⟩:=hv;exact⟨u,vs,U,xf x u hc.1 Z,nX xs vs hc.2 h3⟩
end
theorem xj [bJ] {E:En} {H:Hp} {w w':World} (r:bS E H w) (b:Below w.heap.size w w'):fj E H w E H w'/\bS E H w':=by have hk:fU E w.heap E w'.heap:=⟨rfl,fun _ h=>h,fun _ _=>rfl,fun _ _=>rfl,fun _ h=>h,fun x hx=>b.block x (r.sq x hx)⟩;refine⟨⟨rfl,fun _ h=>h,fun _ _=>rfl,fun _ _=>rfl,fun _ h=>h,fun _ h=> .inl h,ay _,.inr rfl,fun _ h=> .inl h,b.os,b.tape,b.output,b.size,fun x hx _=>b.block x hx,fun id o h _=> ⟨id,o,h,rfl⟩,rfl⟩,r.fresh,r.res,fun id o h=>?_,r.inj,fun x hx=>amH (r.sq x hx) b.size,bJ.cD r.ku hk.ro hk.Cb,r.Ux rfl b.size (fun _ h=> .inl h) fun id o h _=> ⟨id,o,h,rfl⟩⟩;obtain⟨U,Z,h3⟩:=r.live id o h;exact⟨U,Z.cD hk U (b.block _ (gx r h)) (r.Vt rfl (fun x hx _=>b.block x hx) _),h3⟩
def Gr (args:List Y) (v:Y):List Y->St->T (Y×St):=fun aml s=>if jd aml args then .ret (v,s) else .fail
def HS (args:List Y) (v:Y) (f:List Y->St->T (Y×St)):Bool:=
 oL args&&iM v&&(match f args ⟨.nil,Hp.zero,[]⟩ with | .ret (u,_)=>eR u v|_=>false)
theorem Dk [bJ] {g:FuncId} {f:List Y->St->T (Y×St)} (hf:kR P g f) {fn:Func} (vc:P.funcs[g]?=some fn) (mi:(fn.name == "runtime.NumGoroutine")=false) {c:Code} (hb:fn.body=some c)
 {args:List Y} {v:Y} (h:HS args v f=true):kR P g (Gr args v):=by
 intro aml s E w vals u s' r hv hp W;unfold Gr at W;split at W
 ·rename_i hs;have:=bE W;simp only [aq] at this;obtain⟨rfl,rfl⟩:=this;rw [ga _ _ hs] at hv;unfold HS at h;simp only [au] at h;obtain⟨⟨U,Z⟩,h3⟩:=h;split at h3
  ·rename_i u' s1 mD;have hu:=kx _ _ h3;subst hu;have hc:=AH hf vc mi hb (ρ:=E.ρ) (ro:=E.ro) (w:=w) r.sq r.ku (nX args vals U hv) (v:=u') (s':=s1) (by rw [mD]; rfl);refine⟨rfl,hp,?_⟩
   have mD:(callFunc g vals.toArray).run P w= .ok (.enter g vals.toArray) w:=by unfold callFunc;simp [vc,hb,by simpa using mi]
   unfold mr oQ;rw [mD];exact Calls.mono hc fun e w' ⟨x,E',he,hx,_,nS⟩=> ⟨x,he,E,(xj r nS).1,(xj r nS).2,xf u' x Z hx⟩
  grind
 ·simp [T.leaf] at W
def orElse (f g:List Y->St->T (Y×St)):List Y->St->T (Y×St):=fun aml s=>match f aml s with | .fail=>g aml s|x=>x
theorem wL [bJ] {id:FuncId} {f g:List Y->St->T (Y×St)} (hf:kR P id f) (hg:kR P id g):kR P id (orElse f g):=by
 intro aml s E w vals u s' r hv hp W;unfold orElse at W;split at W
 ·exact hg aml s E w vals u s' r hv hp W
 ·exact hf aml s E w vals u s' r hv hp W
end
end
end Go.As
end

import Derived.Test.YtaahpkjohjnjmaaGreatDoorAsZP0
set_option linter.unusedSectionVars false
set_option linter.unusedVariables false
set_option linter.unusedSimpArgs false
section
namespace Go.As
theorem kY.rd {ro:Nat->Prop} {h:Array Obj} {c:CK} {d:D} {u:Value} (r:kY ro h c d u) (wf:vU c d):Rd ro h c d u:=by
 cases c with
 |int k=> simp only [kY,vU] at r wf;rw [wf,r];exact .int k d.n
 |bool=>
  simp only [kY,vU] at r wf;subst r;rcases wf with rfl|rfl
  ·exact .bool false
  ·exact .bool true
 |str=>exact r
 |sl t=>exact r
theorem dK.get {ro:Nat->Prop} {h:Array Obj} {d:D}: ∀{cs:List CK} {j:Nat} {us:List Value},dK ro h cs j d us->∀{k:Nat} {c:CK},cs[k]?=some c->∃u,us[k]?=some u/\kY ro h c (d.hd (j+k)) u
 |[],_,_,_,k,c,hk=>by simp at hk
 |c0::cs,j,us,hh,k,c,hk=>by
  simp only [dK] at hh;obtain⟨u,vs,rfl,h1,h2⟩:=hh
  cases k with
  |zero=>
   grind
  |succ k=>
   obtain⟨x,h3,h4⟩:=h2.get (by simpa using hk)
   grind
theorem dK.length {ro:Nat->Prop} {h:Array Obj} {d:D}: ∀{cs:List CK} {j:Nat} {us:List Value},dK ro h cs j d us->us.length=cs.length
 |[],_,us,hh=>by simp only [dK] at hh; subst hh; rfl
 |c::cs,j,us,hh=>by simp only [dK] at hh;obtain⟨u,vs,rfl,_,h2⟩:=hh;simp [h2.length]
theorem dK.shift {ro:Nat->Prop} {h:Array Obj} {a b:D}: ∀{cs:List CK} {j:Nat} {us:List Value},dK ro h cs (j+1) (.p a b) us↔dK ro h cs j b us
 |[],_,us=>by simp only [dK]
 |c::cs,j,us=>by
  simp only [dK,Gf];constructor
  ·rintro⟨u,vs,rfl,h1,h2⟩;exact⟨u,vs,rfl,h1,dK.shift.1 h2⟩
  ·rintro⟨u,vs,rfl,h1,h2⟩;exact⟨u,vs,rfl,h1,dK.shift.2 h2⟩
section
variable {P:Program} {E:En} {w:World}
theorem rE {ρ:Nat->Int} {c:CK} {v:AV} {a:SE} (h:qM c v=some a):vU c (dec (a.den ρ)):=by
 unfold qM at h;split at h
 ·split at h
  ·split at h
   ·simp only [aCJ] at h;subst h;simp only [vU,nZ,aA,D.n]
   grind
  grind
 ·split at h
  ·split at h
   ·rename_i b;simp only [aCJ] at h;subst h;simp only [vU,SE.den,aA]
    grind
   ·split at h
    ·split at h
     ·split at h
      ·simp only [aCJ] at h;subst h;simp only [vU,SE.den,gB.den,aA]
       grind
      grind
     grind
    grind
   grind
  grind
 ·trivial
 ·trivial
theorem nI {h:Array Obj} {c:CK} {v:AV} {u:Value} {a:SE} (hv:VR E h v u) (hc:qM c v=some a):kY E.ro h c (dec (a.den E.ρ)) u:=by
 unfold qM at hc;split at hc
 ·split at hc
  ·split at hc
   ·rename_i hk;subst hk;simp only [aCJ] at hc;subst hc;simp only [VR] at hv;simp only [kY,nZ,aA,D.n];exact hv
   grind
  grind
 ·split at hc
  ·split at hc
   ·rename_i b;simp only [aCJ] at hc;subst hc;simp only [VR,SB.den] at hv;subst hv;simp only [kY,SE.den,aA];cases b<;>rfl
   ·split at hc
    ·split at hc
     ·split at hc
      ·rename_i x n hn;subst hn;simp only [aCJ] at hc;subst hc;simp only [VR,SB.den,SE.den] at hv;subst hv;simp only [kY,SE.den,gB.den,nZ,aA,D.n];congr 2
       grind
      grind
     grind
    grind
   grind
  grind
 ·obtain⟨s,rfl,hs⟩:=Fe hv hc;simp only [kY,hs];exact .str s
 ·split at hc
  ·split at hc
   ·rename_i ht;subst ht;simp only [aCJ] at hc;subst hc;exact hv
   grind
  ·simp only [aCJ] at hc;subst hc;simp only [VR] at hv;subst hv;simp only [kY,SE.den,aA];exact .nil _
  ·split at hc
   ·rename_i ht;subst ht;simp only [aCJ] at hc;subst hc;simp only [VR] at hv;exact hv.2
   grind
  ·split at hc
   ·simp only [aCJ] at hc;subst hc;simp only [VR] at hv;obtain⟨_,a,cap,rfl,_⟩:=hv;simp only [kY,SE.den,aA];exact .non _ _ _
   grind
  grind
theorem GX {ρ:Nat->Int}: ∀{cs:List CK} {vs:List AV} {x:SE},codeCells cs vs=some x->UJ cs (dec (x.den ρ))
 |[],[],x,h=>by
  simp only [codeCells,aCJ] at h;subst h;refine⟨?_,?_,?_⟩
  ·simp only [SE.den,aA]; rfl
  ·simp only [SE.den,aA]; rfl
  grind
 |[],_::_,x,h=>by simp [codeCells] at h
 |_::_,[],x,h=>by simp [codeCells] at h
 |c::cs,v::vs,x,h=>by
  simp only [codeCells] at h;split at h
  ·grind
  ·rename_i a ha;split at h
   ·grind
   ·rename_i b hb;simp only [aCJ] at h;subst h;obtain⟨h1,h2,h3⟩:=GX (ρ:=ρ) hb;refine⟨?_,?_,?_⟩
    ·simp only [dV,SE.den,gB.den,aA,D.l,dL]
     grind
    ·simp only [dV,SE.den,gB.den,aA,D.l,aCW,h2]
    ·intro j c' y hj hy;simp only [dV,SE.den,gB.den,aA,D.l] at hy
     cases j with
     |zero=> simp only [aC6,aCJ] at hj hy;subst hj hy;exact rE ha
     |succ j=>exact h3 j c' y (by simpa using hj) (by simpa using hy)
theorem GY {h:Array Obj}: ∀{cs:List CK} {vs:List AV} {us:List Value} {x:SE},bC E h vs us->codeCells cs vs=some x->dK E.ro h cs 0 (dec (x.den E.ρ)) us
 |[],[],us,x,hv,hc=>by simp only [bC] at hv; subst hv; simp [dK]
 |[],_::_,_,x,_,hc=>by simp [codeCells] at hc
 |_::_,[],_,x,_,hc=>by simp [codeCells] at hc
 |c::cs,v::vs,us,x,hv,hc=>by
  simp only [codeCells] at hc;rw [aT] at hv;obtain⟨u,us',rfl,h1,h2⟩:=hv;split at hc
  ·grind
  ·rename_i a ha;split at hc
   ·grind
   ·rename_i b hb;simp only [aCJ] at hc;subst hc;simp only [dK,dV,SE.den,gB.den,aA];refine⟨u,us',rfl,by rw [F9]; exact nI h1 ha,?_⟩;rw [dK.shift];exact GY h2 hb
theorem Ar {ρ:Nat->Int} {r:Row} {cs:List AV} {x:SE} (h:codeRow r cs=some x):vT r (dec (x.den ρ)):=by
 unfold codeRow at h;split at h
 ·split at h
  ·exact rE h
  grind
 ·exact GX h
theorem Au {h:Array Obj} {r:Row} {cs:List AV} {us:List Value} {x:SE} (hv:bC E h cs us) (hc:codeRow r cs=some x):DY E.ro h r (dec (x.den E.ρ)) us:=by
 unfold codeRow at hc;split at hc
 ·split at hc
  ·rw [aT] at hv;obtain⟨u,us',rfl,h1,h2⟩:=hv;rw [jI] at h2;subst h2;exact⟨u,rfl,nI h1 hc⟩
  grind
 ·exact GY hv hc
theorem wP {ρ:Nat->Int} {r:Row}: ∀(m:Nat) {e e1:SE} {news:List AV},mQ r e m news=some e1->
 ∃ds:List D,ds.length=m/\(dec (e1.den ρ)).l=(dec (e.den ρ)).l++ds/\(dec (e.den ρ)=dL (dec (e.den ρ)).l->dec (e1.den ρ)=dL (dec (e1.den ρ)).l)/\(∀d∈ds,vT r d)/\
  ∀(E':En) (h:Array Obj) (us:List Value) (j:Nat),E'.ρ=ρ->bC E' h news us->bC E' h (aF ρ r [] ds j) us
 |0,e,e1,[],h=>by simp only [mQ,aCJ] at h;subst h;exact⟨[],rfl,by simp,id,by simp,fun E' h us j _ hv=>by simpa [aF] using hv⟩
 |0,e,e1,_::_,h=>by simp [mQ] at h
 |m+1,e,e1,news,h=>by
  simp only [mQ] at h;split at h
  ·grind
  ·rename_i x hx;obtain⟨ds,h1,h2,h3,h4,h5⟩:=wP (ρ:=ρ) m h;have hs:dec ((SE.op .snoc e x).den ρ)=dL ((dec (e.den ρ)).l++ [dec (x.den ρ)]):=by simp only [SE.den,gB.den,aA]
   refine⟨dec (x.den ρ)::ds,by simp [h1],?_,fun _=>h3 (by rw [hs,aY]),?_,?_⟩
   ·rw [h2,hs,aY]; simp
   ·intro d hd;rcases aCP.1 hd with rfl|hd
    ·exact Ar hx
    grind
   ·intro E' h us j hρ hv;rw [<- aDD r.es news] at hv;obtain⟨a,b,rfl,a1,a2⟩:=hv.split;simp only [aF,dM];refine bC.append ?_ (h5 E' h b (j+1) hρ a2);rw [iH];simp only [SE.den,aA];have:=Au a1 hx
    grind
theorem Y7 {h:Array Obj} {id:Nat} {e:SE} {t:Nat} {ty:TypeId} {ro:Nat->Prop} (hro: ∀b,E.ro b->ro b) (hb:ro (E.θ id).1) (ho:OR E h id (.vec e t ty [])) {k cap:Nat} {a:Addr} (hk:k=(dec (e.den E.ρ)).l.length) (hcap:k<=cap)
 (hc:0<k->a=⟨(E.θ id).1,(E.θ id).2,none⟩):Rd ro h (.sl t) (dec (e.den E.ρ)) (.slice (some a) k cap):=by
 obtain⟨⟨hov,hwf⟩,hcl⟩:=OR.tV.1 ho;obtain⟨us,h1,h2,h3⟩:=Ef hcl;obtain⟨w1,w2,w3⟩:=hwf;rcases aDO k with h0|hpos
 ·subst h0;exact absurd (aDq hk.symm) w3
 ·have ha:a=⟨(E.θ id).1,(E.θ id).2,none⟩:=hc hpos;subst ha;subst hk
  have hrow: ∀(i:Nat) (x:D),(dec (e.den E.ρ)).l[i]?=some x->∃rs,DY ro h (rowOf t) x rs/\∀j u,rs[j]?=some u->us[i*(rowOf t).es+j]?=some u:=by
   intro i x hx;obtain⟨c1,c2⟩:=lC (ρ:=E.ρ) hov (j:=0) hx;unfold bH at h1;rw [c1] at h1;obtain⟨p,q,rfl,p1,p2⟩:=h1.split;obtain⟨q1,q2,rfl,r1,r2⟩:=p2.split;have hp:=p1.length;rw [c2] at hp;refine⟨q1,?_,?_⟩
   ·have r1':bC E h (iV (rowOf t) (.dat x)) q1:=r1;rw [iH] at r1';simp only [SE.den,aA] at r1'
    have mono: ∀c d u,kY E.ro h c d u->kY ro h c d u:=by
     intro c d u hh
     cases c with
     |int k=>exact hh
     |bool=>exact hh
     |str=>exact Rd.keep hro (fun _ _=>rfl) hh
     |sl t=>exact Rd.keep hro (fun _ _=>rfl) hh
    have azS: ∀(cs:List CK) (j:Nat) (d:D) (us:List Value),dK E.ro h cs j d us->dK ro h cs j d us:=by
     intro cs
     induction cs with
     |nil=>intro j d us hh; exact hh
     |cons c cs ih=> intro j d us hh;obtain⟨u,vs,rfl,g1,g2⟩:=hh;exact⟨u,vs,rfl,mono _ _ _ g1,ih _ _ _ g2⟩
    cases hr:rowOf t with
    |one c=> rw [hr] at r1';obtain⟨u,rfl,g1⟩:=r1';exact⟨u,rfl,mono _ _ _ g1⟩
    |many cs=> rw [hr] at r1';exact azS _ _ _ _ r1'
   ·intro j u hj;rw [aEJ (by omega),hp];rw [show i*(rowOf t).es+j-i*(rowOf t).es=j by omega];have:=(aC1.1 hj).1;rw [aE3 this];exact hj
  rw [w1];simp only [aY] at hrow ⊢;generalize hL:(dec (e.den E.ρ)).l=L at *
  cases hr:rowOf t with
  |one c=>
   refine .one t c _ _ cap L (fun i=>(us[i]?).getD undef) hr hcap hb ?_ ?_
   ·intro i d hd;obtain⟨rs,g1,g2⟩:=hrow i d hd;rw [hr] at g1;obtain⟨u,rfl,g3⟩:=g1;have:=g2 0 u rfl;rw [hr] at this;simp only [Row.es,aEo,aDf] at this;rw [this];exact h2 i u this
   ·intro i d hd;obtain⟨rs,g1,g2⟩:=hrow i d hd;rw [hr] at g1;obtain⟨u,rfl,g3⟩:=g1;have:=g2 0 u rfl;rw [hr] at this;simp only [Row.es,aEo,aDf] at this;rw [this];have hw:=w2 d (aDi hd);rw [hr] at hw;exact g3.rd hw
  |many cs=>
   have hwr: ∀d∈L,UJ cs d:=by intro d hd;have:=w2 d hd;rw [hr] at this;exact this
   have hLm:L=(L.map D.l).map dL:=by rw [aDT];have:L.map (dL ∘ D.l)=L.map (fun d=>d):=aEj fun d hd=>(hwr d hd).1.symm;rw [this,List.map_id']
   have hlen:(L.map D.l).length=L.length:=by simp
   have hcap':(L.map D.l).length<=cap:=by rw [hlen]; exact hcap
   have goal:Rd ro h (.sl t) (dL ((L.map D.l).map dL)) (.slice (some ⟨(E.θ id).1,(E.θ id).2,none⟩) (L.map D.l).length cap):=by
    refine .many t cs _ _ cap (L.map D.l) (fun i j=>(us[i*cs.length+j]?).getD undef) hr hcap' hb ?_ ?_ ?_
    ·intro r hrm;rw [aC4] at hrm;obtain⟨d,hd,rfl⟩:=hrm;exact (hwr d hd).2.1
    ·intro i r j d hi hj;rw [aDd,aCX] at hi;obtain⟨x,hx,rfl⟩:=hi;obtain⟨rs,g1,g2⟩:=hrow i x hx;rw [hr] at g1;have hjl:j<cs.length:=by rw [<- (hwr x (aDi hx)).2.1]; exact (aC1.1 hj).1
     obtain⟨u,g3,g4⟩:=dK.get g1 (aCV hjl);have:=g2 j u g3;rw [hr] at this;simp only [Row.es] at this;rw [this,aDl];exact h2 _ u this
    ·intro i r j d c hi hj hcj;rw [aDd,aCX] at hi;obtain⟨x,hx,rfl⟩:=hi;obtain⟨rs,g1,g2⟩:=hrow i x hx;rw [hr] at g1;obtain⟨u,g3,g4⟩:=dK.get g1 hcj;have:=g2 j u g3;rw [hr] at this;simp only [Row.es] at this;rw [this];rw [aCR] at g4;have hd:x.hd j=d:=by simp [D.hd,hj]
     rw [hd] at g4;exact g4.rd ((hwr x (aDi hx)).2.2 j c d hcj hj)
   rw [<- hLm,hlen] at goal;exact goal
theorem aeA {h:Array Obj} {id:Nat} {e:SE} {t:Nat} {ty:TypeId} {ro:Nat->Prop} (hro: ∀b,E.ro b->ro b) (hb:ro (E.θ id).1) (ho:OR E h id (.vec e t ty [])) {k cap:Nat} {a:Addr} (hk:k=(dec (e.den E.ρ)).l.length) (hcap:k<=cap)
 (hc:eX E id 0 k a cap (.rest (rowOf t).es)):Rd ro h (.sl t) (dec (e.den E.ρ)) (.slice (some a) k cap):=by
 refine Y7 hro hb ho hk hcap fun hpos=>?_;simp only [eX] at hc
 grind
structure Sub (H' H:Hp):Prop where
 get: ∀j o,H'.get j=some o->H.get j=some o
 next:H'.next=H.next
 res:H'.res=H.res
theorem Sub.refl (H:Hp):Sub H H:=⟨fun _ _ h=>h,rfl,rfl⟩
theorem Sub.trans {A B C:Hp} (a:Sub B A) (b:Sub C B):Sub C A:=⟨fun j o h=>a.get j o (b.get j o h),b.next.trans a.next,b.res.trans a.res⟩
theorem Sub.drop (H:Hp) (id:Nat):Sub (H.drop id) H:=by
 refine⟨fun j o hj=>?_,rfl,rfl⟩
 grind [Hp.mM]
theorem Uu [Glob] {H:Hp} (r:aO E H w) {id:Nat} {o:dG} (hl:H.get id=some o) :
 Keeps E w.heap { E with ro:=fun b=>E.ro b\/b=(E.θ id).1 } w.heap/\Stp E H w { E with ro:=fun b=>E.ro b\/b=(E.θ id).1 } (H.drop id) w/\aO { E with ro:=fun b=>E.ro b\/b=(E.θ id).1 } (H.drop id) w:=by
 have hk:Keeps E w.heap { E with ro:=fun b=>E.ro b\/b=(E.θ id).1 } w.heap:=⟨rfl,fun _ h=>h,fun _ _=>rfl,fun _ _=>rfl,fun _ h=> .inl h,fun _ _=>rfl⟩
 have hg: ∀j o,(H.drop id).get j=some o->H.get j=some o/\j≠id:=by
  intro j o hj
  grind [Hp.mM]
 refine⟨hk,⟨rfl,fun _ h=>h,fun _ _=>rfl,fun _ _=>rfl,fun _ h=> .inl h,?_,aCN _,.inr rfl,fun _ h=> .inl h,rfl,rfl,rfl,aCN _,fun _ _ _=>rfl,fun j o hj _=> ⟨j,o,(hg j o hj).1,rfl⟩,rfl⟩,
  ⟨r.fresh,r.res,?_,?_,?_,Glob.keep r.glob (fun _ h=> .inl h) (fun _ _=>rfl),fun b x hb=> ⟨(r.hid b x hb).1,fun h=>h.elim (r.hid b x hb).2.1 fun e=>(r.hid b x hb).2.2 id o hl e.symm,fun j o hj=>(r.hid b x hb).2.2 j o (hg j o hj).1⟩⟩⟩
 ·intro b hb
  grind
 ·intro j o hj;obtain⟨h1,h2⟩:=hg j o hj;obtain⟨g1,g2,g3⟩:=r.live j o h1;refine⟨g1,g2.keep hk g1 rfl (fun _ _ _ h=> ⟨h,rfl⟩),?_⟩;rintro (hb|hb)
  ·grind
  ·exact h2 (r.inj j id o _ h1 hl hb)
 ·intro i j x y hi hj he;exact r.inj i j x y (hg i x hi).1 (hg j y hj).1 he
 ·intro b hb;rcases hb with hb|rfl
  ·exact r.xC b hb
  ·exact iD r hl
theorem avH [Glob] {H H':Hp} (r:aO E H w) {v v':AV} (h:frz v H=(v',H')) :
 ∃E',E'.ρ=E.ρ/\Stp E H w E' H' w/\aO E' H' w/\(∀u,VR E w.heap v u->VR E' w.heap v' u)/\Sub H' H:=by
 have same:(v,H)=(v',H')->∃E',E'.ρ=E.ρ/\Stp E H w E' H' w/\aO E' H' w/\(∀u,VR E w.heap v u->VR E' w.heap v' u)/\Sub H' H:=by
  intro he;simp only [aCK] at he
  grind [Stp.refl,Sub.refl]
 unfold frz at h;split at h
 ·rename_i id n t;split at h
  ·rename_i o hl;split at h
   ·rename_i e t' ty ov;split at h
    ·split at h
     ·rename_i ht;split at h
      ·rename_i hn;simp only [aCK] at h;obtain⟨rfl,rfl⟩:=h;have ht:=aCO ht;have hn:=bI _ _ hn;subst ht hn;have hlive:=r.live id _ hl;obtain⟨hk,s1,r1⟩:=Uu r hl;refine⟨{ E with ro:=fun b=>E.ro b\/b=(E.θ id).1 },rfl,s1,r1,fun u hv=>?_,Sub.drop _ _⟩;simp only [VR] at hv ⊢
       grind [bD,aeA]
      grind
     grind
    grind
   grind
  grind
 ·simp only [aCK] at h;obtain⟨rfl,rfl⟩:=h;exact⟨E,rfl,Stp.refl _ _ _,r,fun u hu=>by simp only [VR] at hu ⊢; exact hu.2,Sub.refl _⟩
 grind
end
section
variable {P:Program} {E:En} {w:World}
theorem Rd.part {ro:Nat->Prop} {h:Array Obj} {t:Nat} {d:D} {b o n cap l k:Nat} (r:Rd ro h (.sl t) d (.slice (some ⟨b,o,none⟩) n cap)) (hl:l<=k) (hk:k<=n) (hn:n<=cap) :
 Rd ro h (.sl t) (gW d ((d.l.take k).drop l)) (.slice (some (if cap=l then⟨b,o,none⟩ else⟨b,o+l*(rowOf t).es,none⟩)) (k-l) (cap-l)):=by
 by_cases h0:k-l=0
 ·have:(d.l.take k).drop l= []:=by
   apply aE4
   grind
  have hd:d≠.i 1:=by
   intro q
   grind [PD]
  rw [this,h0];simp only [gW];rw [aCI hd];exact .non _ _ _
 ·rw [aCI (by omega)]
  have hne:(d.l.take k).drop l≠[]:=by
   intro q;have:=congrArg List.length q;obtain⟨x,cap',hv,_⟩:=r.slice
   grind
  rw [Cb hne];generalize hc:CK.sl t=c at r;generalize hv:Value.slice (some ⟨b,o,none⟩) n cap=v at r
  cases r with
  |int k n=>simp at hc
  |bool b=>simp at hc
  |str s=>simp at hc
  |nil t=>simp at hv
  |non t a cap=>
   grind
  |one t' c b' o' cap' ds f hr hcp hb h1 h2=>
   simp only [CK.sl.injEq] at hc;subst hc;simp only [Value.slice.injEq,aCJ,Addr.mk.injEq] at hv;obtain⟨⟨rfl,rfl,_⟩,rfl,rfl⟩:=hv;rw [aY];have hlen:((ds.take k).drop l).length=k-l:=by rw [aDg,aDa]; omega
   have hget: ∀i d,((ds.take k).drop l)[i]?=some d->ds[l+i]?=some d:=by
    intro i d hd
    grind
   rw [<- hlen];refine .one t c b (o+l*(rowOf t).es) (cap-l) ((ds.take k).drop l) (fun i=>f (l+i)) hr (by rw [hlen]; omega) hb ?_ ?_
   ·intro i d hd;have:=h1 (l+i) d (hget i d hd);rw [hr,show o+l*(Row.one c).es+i=o+(l+i) by simp only [Row.es]; omega]
    grind
   grind
  |many t' cs b' o' cap' rows f hr hcp hb hll h1 h2=>
   simp only [CK.sl.injEq] at hc;subst hc;simp only [Value.slice.injEq,aCJ,Addr.mk.injEq] at hv;obtain⟨⟨rfl,rfl,_⟩,rfl,rfl⟩:=hv;rw [aY];have hlen:((rows.take k).drop l).length=k-l:=by rw [aDg,aDa]; omega
   have hget: ∀i d,((rows.take k).drop l)[i]?=some d->rows[l+i]?=some d:=by
    intro i d hd
    grind
   rw [<- hlen,<- aED,<- aEE];refine .many t cs b (o+l*(rowOf t).es) (cap-l) ((rows.take k).drop l) (fun i=>f (l+i)) hr (by rw [hlen]; omega) hb (fun r hrm=>hll r (aDn (aDh hrm))) ?_ ?_
   ·intro i r j d hi hj;have:=h1 (l+i) r j d (hget i r hi) hj;rw [hr,show o+l*(Row.many cs).es+i*cs.length+j=o+(l+i)*cs.length+j by simp only [Row.es,aDs]; omega]
    grind
   grind
theorem Rd.azM {ro:Nat->Prop} {h:Array Obj} {t:Nat} {d:D} {x:Option Addr} {n cap l k:Nat} (r:Rd ro h (.sl t) d (.slice x n cap)) (hl:l<=k) (hk:k<=n) (hn:n<=cap) :
 Rd ro h (.sl t) (gW d ((d.l.take k).drop l)) (.slice (match x with |some a=>some (if cap=l then a else a.add (l*(rowOf t).es))|none=>none) (k-l) (cap-l)):=by
 have hx:(∃b o,x=some ⟨b,o,none⟩)\/(d= .i 1/\x=none/\n=0/\cap=0)\/(d= .i 2/\n=0/\∃a,x=some a):=by
  generalize hc:CK.sl t=c at r;generalize hv:Value.slice x n cap=v at r
  cases r with
  |int k n=>simp at hc
  |bool b=>simp at hc
  |str s=>simp at hc
  |nil t=>simp only [Value.slice.injEq] at hv; exact .inr (.inl ⟨rfl,hv.1,hv.2.1,hv.2.2⟩)
  |non t a cap=>simp only [Value.slice.injEq] at hv; exact .inr (.inr ⟨rfl,hv.2.1,a,hv.1⟩)
  |one t' c b' o' cap' ds f hr hcp hb h1 h2=>simp only [Value.slice.injEq] at hv; exact .inl ⟨_,_,hv.1⟩
  |many t' cs b' o' cap' rows f hr hcp hb hll h1 h2=>simp only [Value.slice.injEq] at hv; exact .inl ⟨_,_,hv.1⟩
 rcases hx with ⟨b,o,rfl⟩|⟨rfl,rfl,rfl,rfl⟩|⟨rfl,rfl,a,rfl⟩
 ·have:=r.part hl hk hn;simp only [fE]
  grind
 ·obtain rfl:k=0:=by omega
  obtain rfl:l=0:=by omega
  exact .nil _
 ·obtain rfl:k=0:=by omega
  obtain rfl:l=0:=by omega
  exact .non _ _ _
theorem akH (l:List D):dL l≠.i 1:=by cases l<;>simp [dL]
theorem Rd.empty0 {ro:Nat->Prop} {h:Array Obj} {t:Nat} {d:D} {x:Option Addr} {n cap:Nat} (r:Rd ro h (.sl t) d (.slice x n cap)):Rd ro h (.sl t) (gW d []) (.slice x 0 0):=by
 generalize hc:CK.sl t=c at r;generalize hv:Value.slice x n cap=v at r
 cases r with
 |int k n=>simp at hc
 |bool b=>simp at hc
 |str s=>simp at hc
 |nil t=> simp only [Value.slice.injEq] at hv;obtain⟨rfl,_,_⟩:=hv;exact .nil _
 |non t a cap=> simp only [Value.slice.injEq] at hv;obtain⟨rfl,_,_⟩:=hv;exact .non _ _ _
 |one t' c b' o' cap' ds f hr hcp hb h1 h2=> simp only [Value.slice.injEq] at hv;obtain⟨rfl,_,_⟩:=hv;rw [uS (akH _)];exact .non _ _ _
 |many t' cs b' o' cap' rows f hr hcp hb hll h1 h2=> simp only [Value.slice.injEq] at hv;obtain⟨rfl,_,_⟩:=hv;rw [uS (akH _)];exact .non _ _ _
theorem Yx [Glob] {tt:TT} (htt:dU P tt) {s s':St} (hp:aW E.ρ s.pc) {ty t:Nat} {e:SE} {lo hi mx:Option AV} {lo' hi' mx':Option Value} {v:AV} {u:Value} (hx:VR E w.heap (.dat e t) u)
 (hlo:iK E w.heap lo lo') (hhi:iK E w.heap hi hi') (hmx:iK E w.heap mx mx') (h:(Ue tt s ty t e lo hi mx).leaf E.ρ=some (v,s')) :
 s'.slots=s.slots/\s'.h=s.h/\aW E.ρ s'.pc/\∃r,(Instr.sliceAt ty u lo' hi' mx').run P w= .ok r w/\VR E w.heap v r:=by
 unfold Ue at h;split at h
 ·rename_i m;split at h
  ·rename_i hm;split at h
   ·simp [T.leaf] at h
   ·rename_i z hz;split at h
    ·split at h
     ·rename_i hv;split at h
      ·rename_i hh;have:=aC h;simp only [aCK] at this;obtain⟨rfl,rfl⟩:=this;refine⟨rfl,rfl,hp,?_⟩;obtain⟨el,ie,hu,hie,rfl⟩:=rD htt hz;have hsz:=dS (htt el ie hie);simp only [VR] at hx;obtain⟨x,cap,rfl,hcap⟩:=hx.slice
       have zb: ∀(a:AV),JQ a=true->∀d y,bnd (some a) d y=some 0:=by
        intro a ha d y;unfold JQ at ha;unfold bnd;split at ha
        ·rename_i n hn;have:=Dq ha;subst this;simp only [hn];rw [aCL (aDP y)]
        ·simp at ha
       obtain⟨e1,e2⟩:=gU (P:=P) (w:=w) (isSlice:=true) (len:=(dec (e.den E.ρ)).l.length) (cap:=cap) (m0:=cap) (d:=0) (m:=0) (h0:=0) (h:=0) (l:=0) hlo hhi hmx (fun _=>rfl) (.inr ⟨m,rfl,zb m hm _ _,aCN _⟩) (zb hv hh _ _) ⟨fun q=>by simp at q,fun _=>rfl⟩ (by simp [bnd]);refine⟨.slice x 0 0,?_,?_⟩
       rotate_left
       ·simp only [VR];refine⟨⟨x,rfl⟩,?_⟩;simp only [SE.den,gB.den,aA];exact hx.empty0
       cases x with
       |none=>simp [Instr.sliceAt,run_underlying hu,Instr.slice,e1,hsz]
       |some a=>simp [Instr.sliceAt,run_underlying hu,Instr.slice,e1,hsz]
      ·simp [T.leaf] at h
     ·simp [T.leaf] at h
    ·simp [T.leaf] at h
  ·simp [T.leaf] at h
 ·simp only [iK] at hmx;subst hmx;split at h
  ·simp [T.leaf] at h
  ·rename_i z hz;split at h
   ·rename_i hes;obtain⟨el,ie,hu,hie,rfl⟩:=rD htt hz;have hsz:=dS (htt el ie hie);simp only [VR] at hx;obtain⟨x,cap,rfl,hcap⟩:=hx.slice
    have fin: ∀(l k:Nat) (e':SE) (lo2 hi2:Option AV),iK E w.heap lo2 lo'->iK E w.heap hi2 hi'->bnd hi2 (dec (e.den E.ρ)).l.length (dec (e.den E.ρ)).l.length=some k->bnd lo2 0 k=some l->dec (e'.den E.ρ)=gW (dec (e.den E.ρ)) (((dec (e.den E.ρ)).l.take k).drop l)->
     ∃r,(Instr.sliceAt ty (.slice x (dec (e.den E.ρ)).l.length cap) lo' hi' none).run P w= .ok r w/\VR E w.heap (.dat e' t) r:=by
     intro l k e' lo2 hi2 h1 h2 h3 h4 h5;obtain⟨e1,e2⟩:=gU (P:=P) (w:=w) (isSlice:=true) (len:=(dec (e.den E.ρ)).l.length) (cap:=cap) (m0:=cap) (d:=0) (m:=cap) h1 h2 (mx:=none) (mx':=none) (by simp [iK]) (by simp) (.inl ⟨rfl,rfl,aCN _⟩) h3 ⟨fun _=>hcap,by simp⟩ h4;have hk:=nV h3;have hrd:=hx.azM e2 hk hcap;refine⟨_,?_,by simp only [VR,h5]; exact hrd⟩
     cases x with
     |none=>simp [Instr.sliceAt,run_underlying hu,Instr.slice,e1,hsz]
     |some a=>simp [Instr.sliceAt,run_underlying hu,Instr.slice,e1,hsz,hes]<;>split<;>rfl
    have lit: ∀(k:IntKind) (n:Nat) (q:SE) (o:Option Value),q.den E.ρ=(n:Int)->iK E w.heap (some (.int k q)) o->iK E w.heap (some (.int k (.lit (Int.ofNat n)))) o:=by intro k n q o hq ho;obtain⟨y,rfl,hy⟩:=ho;refine⟨y,rfl,?_⟩;simp only [VR,SE.den] at hy ⊢;rw [hy,hq];rfl
    have bl: ∀(k:IntKind) (n d y:Nat),n<=y->bnd (some (.int k (.lit (Int.ofNat n)))) d y=some n:=by intro k n d y hn;simp [bnd,mJ,hn]
    split at h
    ·
     simp only [iK] at hhi;subst hhi;split at h
     ·rename_i kl ql;obtain⟨pc1,hp1,h1⟩:=bG hp h;split at h1
      ·simp [T.leaf] at h1
      ·rename_i t1;obtain⟨pc2,hp2,h2⟩:=bG (s:={ s with pc:=pc1 }) hp1 h1;split at h2
       ·simp [T.leaf] at h2
       ·rename_i t2;have:=aC h2;simp only [aCK] at this;obtain⟨rfl,rfl⟩:=this;rw [dJ,decide_eq_false_iff_not] at t1 t2;rw [bD] at t2;simp only [SE.den,aDN] at t1 t2;obtain⟨l,hl⟩ : ∃l:Nat,ql.den E.ρ=(l:Int):=⟨(ql.den E.ρ).toNat,by omega⟩;refine⟨rfl,rfl,hp2,fin l (dec (e.den E.ρ)).l.length _ _ none (lit kl l ql lo' hl hlo) (by simp [iK]) (by simp [bnd]) (bl _ _ _ _ (by omega)) ?_⟩;simp only [SE.den,gB.den,aA,hl,aDj,aEa]
     ·simp [T.leaf] at h
    ·rename_i kh qh;obtain⟨pc1,hp1,h1⟩:=bG hp h;split at h1
     ·simp [T.leaf] at h1
     ·rename_i t1;rw [dJ,decide_eq_false_iff_not,bD] at t1;split at h1
      ·simp only [iK] at hlo;subst hlo;obtain⟨pc2,hp2,h2⟩:=bG (s:={ s with pc:=pc1 }) hp1 h1;split at h2
       ·simp [T.leaf] at h2
       ·rename_i t2;have:=aC h2;simp only [aCK] at this;obtain⟨rfl,rfl⟩:=this;rw [dJ,decide_eq_false_iff_not] at t2;simp only [SE.den,aDN] at t2;obtain⟨k,hk⟩ : ∃k:Nat,qh.den E.ρ=(k:Int):=⟨(qh.den E.ρ).toNat,by omega⟩;refine⟨rfl,rfl,hp2,fin 0 k _ none _ (by simp [iK]) (lit kh k qh hi' hk hhi) (bl _ _ _ _ (by omega)) (by simp [bnd]) ?_⟩;simp only [SE.den,gB.den,aA,hk,aDj,aD9]
      ·rename_i kl ql;obtain⟨pc2,hp2,h2⟩:=bG (s:={ s with pc:=pc1 }) hp1 h1;split at h2
       ·simp [T.leaf] at h2
       ·rename_i t2;obtain⟨pc3,hp3,h3⟩:=bG (s:={ s with pc:=pc2 }) hp2 h2;split at h3
        ·simp [T.leaf] at h3
        ·rename_i t3;have:=aC h3;simp only [aCK] at this;obtain⟨rfl,rfl⟩:=this;rw [dJ,decide_eq_false_iff_not] at t2 t3;simp only [SE.den,aDN] at t2 t3;obtain⟨l,hl⟩ : ∃l:Nat,ql.den E.ρ=(l:Int):=⟨(ql.den E.ρ).toNat,by omega⟩;obtain⟨k,hk⟩ : ∃k:Nat,qh.den E.ρ=(k:Int):=⟨(qh.den E.ρ).toNat,by omega⟩;refine⟨rfl,rfl,hp3,fin l k _ _ _ (lit kl l ql lo' hl hlo) (lit kh k qh hi' hk hhi) (bl _ _ _ _ (by omega)) (bl _ _ _ _ (by omega)) ?_⟩;simp only [SE.den,gB.den,aA,hl,hk,aDj,iL];exact EU fun q=>by rw [q]; simp [D.l]
      ·simp [T.leaf] at h1
    ·simp [T.leaf] at h
   ·simp [T.leaf] at h
end
theorem Mc {e:SE} (h:isZ e=true):e= .lit 0:=by
 unfold isZ at h
 grind [Dq]
theorem uT (ρ:Nat->Int) (a b:SE):(yN a b).den ρ=a.den ρ+b.den ρ:=by
 unfold yN;split
 ·rename_i h;rw [Mc h];simp only [SE.den,Int.zero_add]
 ·rfl
theorem abA (ρ:Nat->Int) (a b:SE):(KU a b).den ρ=a.den ρ-b.den ρ:=by
 unfold KU;split
 ·rename_i h;rw [Mc h];simp only [SE.den,Int.sub_zero]
 ·rfl
theorem Ez {ρ:Nat->Int} {e lo n:SE} {l k:Nat} (hl:lo.den ρ=(l:Int)) (hn:n.den ρ=(k:Int)) :
 dec ((LH e lo n).den ρ)=gW (dec (e.den ρ)) (((dec (e.den ρ)).l.take (l+k)).drop l):=by
 unfold LH;split
 ·rename_i h;have h:=Mc h;subst h;simp only [SE.den] at hl;have:l=0:=by omega
  subst this;simp only [SE.den,gB.den,aA,hn,aDj,aCR,aD9]
 ·have h2:((l:Int)+(k:Int)).toNat=l+k:=by omega
  simp only [SE.den,gB.den,aA,hl,hn,h2,aDj,iL]
  grind [EU,D.l]
theorem Dj {α:Type} {ρ:Nat->Int} {e lo n:SE} {s:St} {k:St->T α} {x:α} (hp:aW ρ s.pc) (h:(EC e lo n s k).leaf ρ=some x) :
 ∃pc',aW ρ pc'/\0<=lo.den ρ/\0<=n.den ρ/\lo.den ρ+n.den ρ<=((dec (e.den ρ)).l.length:Int)/\(k { s with pc:=pc' }).leaf ρ=some x:=by
 unfold EC at h;obtain⟨pc1,hp1,h1⟩:=bG hp h;split at h1
 ·grind [T.leaf]
 ·rename_i hb1;obtain⟨pc2,hp2,h2⟩:=bG (s:={ s with pc:=pc1 }) hp1 h1;split at h2
  ·grind [T.leaf]
  ·rename_i hb2;obtain⟨pc3,hp3,h3⟩:=bG (s:={ s with pc:=pc2 }) hp2 h2;split at h3
   ·grind [T.leaf]
   ·rename_i hb3;rw [dJ,decide_eq_false_iff_not] at hb1 hb2 hb3;rw [bD,uT] at hb3;simp only [SE.den] at hb1 hb2
    grind
theorem qQ {h:Hp} {id t:Nat} {e:SE} {ty:TypeId} (hv:I7 h id t=some (e,ty)):h.get id=some (.vec e t ty []):=by
 unfold I7 at hv;split at hv
 ·rename_i o ho;split at hv
  ·split at hv
   ·split at hv
    all_goals simp_all
   grind
  grind
 grind
theorem Rd.azF {ro:Nat->Prop} {h:Array Obj} {t:Nat} {d:D} {a:Addr} {n cap cap':Nat} (r:Rd ro h (.sl t) d (.slice (some a) n cap)) (hc:n<=cap'):Rd ro h (.sl t) d (.slice (some a) n cap'):=by
 generalize hk:CK.sl t=c at r;generalize hv:Value.slice (some a) n cap=v at r
 cases r with
 |int k n=>simp at hk
 |bool b=>simp at hk
 |str s=>simp at hk
 |nil t=>simp at hv
 |non t a cap=> simp only [CK.sl.injEq] at hk;simp only [Value.slice.injEq,aCJ] at hv;obtain⟨rfl,rfl,rfl⟩:=hv;subst hk;exact .non _ _ _
 |one t' c b' o' cap' ds f hr hcp hb h1 h2=> simp only [CK.sl.injEq] at hk;simp only [Value.slice.injEq,aCJ] at hv;obtain⟨rfl,rfl,rfl⟩:=hv;subst hk;exact .one _ _ _ _ _ _ _ hr hc hb h1 h2
 |many t' cs b' o' cap' rows f hr hcp hb hll h1 h2=> simp only [CK.sl.injEq] at hk;simp only [Value.slice.injEq,aCJ] at hv;obtain⟨rfl,rfl,rfl⟩:=hv;subst hk;exact .many _ _ _ _ _ _ _ hr hc hb hll h1 h2
section
variable {P:Program} {E:En} {w:World}
theorem aeB {h:Array Obj} {id:Nat} {e:SE} {t:Nat} {ty:TypeId} {ro:Nat->Prop} (hro: ∀b,E.ro b->ro b) (hb:ro (E.θ id).1) (ho:OR E h id (.vec e t ty [])) {l k cap:Nat} {a:Addr} (hk:l+k<=(dec (e.den E.ρ)).l.length) (hcap:k<=cap)
 (hc:eX E id (l*(rowOf t).es) k a cap (.rest (rowOf t).es)):Rd ro h (.sl t) (gW (dec (e.den E.ρ)) (((dec (e.den E.ρ)).l.take (l+k)).drop l)) (.slice (some a) k cap):=by
 have hw:=(OR.tV.1 ho).1.2
 have hne:dec (e.den E.ρ)≠.i 1:=by intro q;have:=hw.2.2;rw [q] at this;exact this rfl
 rcases aDO k with h0|hpos
 ·subst h0
  have:((dec (e.den E.ρ)).l.take (l+0)).drop l= []:=by
   grind
  rw [this,uS hne];exact .non _ _ _
 ·simp only [eX] at hc
  obtain⟨rfl,_⟩ : a=⟨(E.θ id).1,(E.θ id).2+l*(rowOf t).es,none⟩/\l*(rowOf t).es+cap*(rowOf t).es=E.κ id:=by
   grind
  have r0:=Y7 hro hb ho (k:=(dec (e.den E.ρ)).l.length) (cap:=(dec (e.den E.ρ)).l.length+l+1) (a:=⟨(E.θ id).1,(E.θ id).2,none⟩) rfl (by omega) (fun _=>rfl);have r1:=r0.part (l:=l) (k:=l+k) (by omega) hk (by omega);rw [aCI (by omega),show l+k-l=k by omega] at r1;exact r1.azF hcap
structure UQ [Glob] (E:En) (w:World) (H:Hp) (E':En) (H':Hp):Prop where
 ρ:E'.ρ=E.ρ
 dX:Stp E H w E' H' w
 rel:aO E' H' w
 sub:Sub H' H
theorem UQ.refl [Glob] {H:Hp} (r:aO E H w):UQ E w H E H:=⟨rfl,Stp.refl _ _ _,r,Sub.refl _⟩
theorem UQ.trans [Glob] {E1 E2:En} {H H1 H2:Hp} (a:UQ E w H E1 H1) (b:UQ E1 w H1 E2 H2):UQ E w H E2 H2:=
 ⟨b.ρ.trans a.ρ,a.dX.trans b.dX,b.rel,a.sub.trans b.sub⟩
theorem TB [Glob] {α:Type} {ρ:Nat->Int} {v:AV} {s:St} {k:AV->St->T α} {x:α} (hρ:E.ρ=ρ) (r:aO E s.h w) (hp:aW ρ s.pc) (h:(Yc v s k).leaf ρ=some x) :
 ∃v' h' pc' E',aW ρ pc'/\UQ E w s.h E' h'/\(∀u,VR E w.heap v u->VR E' w.heap v' u)/\(k v' { s with h:=h',pc:=pc' }).leaf ρ=some x:=by
 unfold Yc at h;split at h
 ·rename_i id lo n t;split at h
  ·rename_i e ty hv;have hl:=qQ hv;obtain⟨pc',hp',h1,h2,h3,h4⟩:=Dj hp h;obtain⟨hk,s1,r1⟩:=Uu r hl;refine⟨_,_,pc',{ E with ro:=fun b=>E.ro b\/b=(E.θ id).1 },hp',⟨rfl,s1,r1,Sub.drop _ _⟩,fun u hu=>?_,h4⟩;simp only [VR] at hu ⊢;obtain⟨hid,l,m,a,cap,q1,q2,rfl,q4,q5⟩:=hu;rw [Ez q1 q2];rw [hρ] at q1 q2;have hh:=aeB (E:=E) (ro:=fun b=>E.ro b\/b=(E.θ id).1) (fun _ h=> .inl h) (.inr rfl) (r.live id _ hl).2.1 (l:=l) (k:=m) (by rw [hρ]; omega) q4 q5;exact hh
  ·exact⟨_,_,s.pc,E,hp,UQ.refl r,fun _ h=>h,h⟩
 ·cases hf:frz v s.h with
  |mk v' h'=> rw [hf] at h;obtain⟨E',q1,q2,q3,q4,q5⟩:=avH r hf;exact⟨v',h',s.pc,E',hp,⟨q1,q2,q3,q5⟩,q4,h⟩
theorem VP [Glob] {α:Type} {ρ:Nat->Int}: ∀{vs:List AV} {s:St} {E:En} {k:List AV->St->T α} {x:α},E.ρ=ρ->aO E s.h w->aW ρ s.pc->(P7 vs s k).leaf ρ=some x->
 ∃vs' h' pc' E',aW ρ pc'/\UQ E w s.h E' h'/\(∀us,bC E w.heap vs us->bC E' w.heap vs' us)/\(k vs' { s with h:=h',pc:=pc' }).leaf ρ=some x
 |[],s,E,k,x,hρ,r,hp,h=> ⟨[],s.h,s.pc,E,hp,UQ.refl r,fun _ h=>h,h⟩
 |v::vs,s,E,k,x,hρ,r,hp,h=>by simp only [P7] at h;obtain⟨v1,h1,pc1,E1,hp1,f1,q1,g1⟩:=TB hρ r hp h;obtain⟨vs1,h2,pc2,E2,hp2,f2,q2,g2⟩:=VP (s:={ s with h:=h1,pc:=pc1 }) (f1.ρ.trans hρ) f1.rel hp1 g1;refine⟨v1::vs1,h2,pc2,E2,hp2,f1.trans f2,fun us hu=>?_,g2⟩;rw [aT] at hu ⊢;obtain⟨u,us',rfl,a,b⟩:=hu;exact⟨u,us',rfl,VR.keep (f2.dX.keeps f1.rel) _ _ (q1 u a),q2 us' (bC.keep (f1.dX.keeps r) _ _ b)⟩
theorem FP {ρ:Nat->Int} {i:Nat} {j:SE} {cs:List AV}: ∀{pre:List (SE×List AV)},dM ρ i (pre++ [(j,cs)])=match dM ρ i pre with |some c=>some c|none=>if j.den ρ=(i:Int) then some cs else none
 |[]=>rfl
 |(a,b)::pre=>by
  simp only [aC8,dM];split
  ·rfl
  ·exact FP
theorem amI (ρ:Nat->Int) (e j x:SE):dec ((SE.op .set e (dV (qR j) x)).den ρ)=dL (iM (dec (e.den ρ)).l (j.den ρ) (dec (x.den ρ))):=by simp only [dV,SE.den,gB.den,aA,nZ,D.n]
theorem U7 (ds:List D) (z:Int) (x:D) (n:Nat):(iM ds z x)[n]?=if z=(n:Int)/\n<ds.length then some x else ds[n]?:=by
 grind [iM]
theorem Ed {ρ:Nat->Int} {E1 E2:En} {h:Array Obj} {r:Row} {pre:List (SE×List AV)} {j:SE} {cs:List AV} {X:D} (mono: ∀a us,bC E1 h a us->bC E2 h a us) (hX: ∀us,bC E1 h cs us->DY E2.ro h r X us) :
 ∀{L L':List D} {i:Nat} {us:List Value},L'.length=L.length->(∀n:Nat,L'[n]?=if j.den ρ=((i+n:Nat):Int)/\n<L.length then some X else L[n]?)->
  bC E1 h (aF ρ r (pre++ [(j,cs)]) L i) us->bC E2 h (aF ρ r pre L' i) us
 |[],[],i,us,_,_,hv=>by simp only [aF,bC] at *; exact hv
 |[],_::_,_,_,hl,_,_=>by simp at hl
 |_::_,[],_,_,hl,_,_=>by simp at hl
 |d::L,d'::L',i,us,hl,hg,hv=>by
  simp only [aF] at *;obtain⟨a,b,rfl,a1,a2⟩:=hv.split;have h0:=hg 0;simp only [aC6,aDf,aCW] at h0;refine bC.append ?_ (Ed mono hX (by simpa using hl) (fun n=>?_) a2)
  ·rw [FP] at a1
   cases ho:dM ρ i pre with
   |some c=>
    grind
   |none=>
    rw [ho] at a1;simp only at a1 ⊢;by_cases hj:j.den ρ=(i:Int)
    ·rw [aCL hj] at a1;rw [aCL ⟨hj,by omega⟩] at h0;simp only [aCJ] at h0;subst h0;rw [iH];simp only [SE.den,aA]
     grind
    grind
  ·have:=hg (n+1)
   grind
theorem amJ {r:Row} {ds:List D} {z:Int} {x:D} (h1: ∀d∈ds,vT r d) (h2:vT r x): ∀d∈iM ds z x,vT r d:=by
 intro d hd;obtain⟨n,hn⟩:=aD4.1 hd
 grind [U7]
theorem amK {ds:List D} {z:Int} {x:D} (h:ds≠[]):iM ds z x≠[]:=by
 intro q
 grind [kQ]
theorem Vp [Glob] {α:Type} {ρ:Nat->Int} {t:Nat}: ∀{ov:List (SE×List AV)} {e:SE} {s:St} {E:En} {k:SE->St->T α} {x:α} (pre:List (SE×List AV)),E.ρ=ρ->aO E s.h w->aW ρ s.pc->yO (rowOf t) (dec (e.den ρ))->
 (Pj t ov e s k).leaf ρ=some x->
 ∃e' h' pc' E',aW ρ pc'/\UQ E w s.h E' h'/\yO (rowOf t) (dec (e'.den ρ))/\(dec (e'.den ρ)).l.length=(dec (e.den ρ)).l.length/\
  (∀us,bC E w.heap (aF ρ (rowOf t) (pre++ov) (dec (e.den ρ)).l 0) us->bC E' w.heap (aF ρ (rowOf t) pre (dec (e'.den ρ)).l 0) us)/\(k e' { s with h:=h',pc:=pc' }).leaf ρ=some x
 |[],e,s,E,k,x,pre,hρ,r,hp,hw,h=> ⟨e,s.h,s.pc,E,hp,UQ.refl r,hw,rfl,fun us hu=>by rw [aDX] at hu; exact hu,h⟩
 |(j,cs)::ov,e,s,E,k,x,pre,hρ,r,hp,hw,h=>by
  simp only [Pj] at h;obtain⟨e1,h1,pc1,E1,hp1,f1,w1,l1,c1,g1⟩:=Vp (pre++ [(j,cs)]) hρ r hp hw h;obtain⟨cs2,h2,pc2,E2,hp2,f2,c2,g2⟩:=VP (s:={ s with h:=h1,pc:=pc1 }) (f1.ρ.trans hρ) f1.rel hp1 g1;split at g2
  ·rename_i y hy;have hρ2:E2.ρ=ρ:=f2.ρ.trans (f1.ρ.trans hρ);have hsd:=amI ρ e1 j y;refine⟨_,h2,pc2,E2,hp2,f1.trans f2,?_,?_,?_,g2⟩
   ·rw [hsd];exact⟨by rw [aY],by rw [aY]; exact amJ w1.2.1 (Ar hy),by rw [aY]; exact amK w1.2.2⟩
   ·grind [aY,kQ]
   ·intro us hu;rw [hsd,aY];have hu1:=c1 us (by rw [aD7]; exact hu);refine Ed (j:=j) (cs:=cs) (X:=dec (y.den ρ)) (fun a us ha=>bC.keep (f2.dX.keeps f1.rel) _ _ ha) (fun us hus=>?_) (kQ _ _ _) (fun n=>?_) hu1
    all_goals grind [Au,U7]
  grind [T.leaf]
theorem abY {v:AV} {h:Hp} {id t:Nat} {e:SE} {ov:List (SE×List AV)} (hv:auE v h=some (id,e,t,ov)): ∃ty,v= .qO id (dH e) t/\h.get id=some (.vec e t ty ov):=by
 unfold auE at hv;split at hv
 ·split at hv
  ·rename_i o ho;split at hv
   ·split at hv
    ·grind
    ·split at hv
     ·rename_i ht;split at hv
      ·rename_i hn;have ht:=aCO ht
       grind [bI]
      grind
     grind
   grind
  grind
 grind
theorem ZW [Glob] {α:Type} {ρ:Nat->Int} {v:AV} {s:St} {k:AV->St->T α} {x:α} (hρ:E.ρ=ρ) (r:aO E s.h w) (hp:aW ρ s.pc) (h:(acQ v s k).leaf ρ=some x) :
 ∃v' h' pc' E',aW ρ pc'/\UQ E w s.h E' h'/\(∀u,VR E w.heap v u->VR E' w.heap v' u)/\(k v' { s with h:=h',pc:=pc' }).leaf ρ=some x:=by
 unfold acQ at h;split at h
 ·rename_i id e t ov hv;obtain⟨ty,rfl,hl⟩:=abY hv;obtain⟨hid,ho,aCB⟩:=r.live id _ hl;have ho':=ho;simp only [OR] at ho';rw [hρ] at ho';obtain⟨⟨hov,hwf⟩,arr,lo,hi,us,q1,q2,q3,q4,q5,q6,q7⟩:=ho';obtain⟨e',h',pc',E',hp',f,w',l',c',g⟩:=Vp [] hρ r hp hwf h;split at g
  ·rename_i o hg;have hg':=f.sub.get _ _ hg;rw [hl] at hg';simp only [aCJ] at hg';subst hg';obtain⟨hk,s1,r1⟩:=Uu f.rel hg;have hρ':E'.ρ=ρ:=f.ρ.trans hρ;refine⟨_,_,pc',{ E' with ro:=fun b=>E'.ro b\/b=(E'.θ id).1 },hp',⟨f.ρ,f.dX.trans s1,r1,f.sub.trans (Sub.drop _ _)⟩,fun u hu=>?_,g⟩;simp only [VR] at hu ⊢;obtain⟨_,m,a,cap,p1,rfl,p3,p4⟩:=hu;rw [bD,hρ] at p1;have hθ:=f.dX.θ id hid;have hκ:=f.dX.κ id hid
   have hO:OR E' w.heap id (.vec e' t ty []):=by simp only [OR];rw [hρ',hθ,hκ];have hv':=c' us (by rw [aC2]; exact q2);refine⟨⟨fun p hp=>by simp at hp,w'⟩,arr,lo,hi,us,q1,hv',q3,?_,q5,q6,q7⟩;have e1:=hv'.length;have e2:=q2.length;omega
   have hh:=aeA (E:=E') (ro:=fun b=>E'.ro b\/b=(E'.θ id).1) (fun _ h=> .inl h) (.inr rfl) hO (k:=m) (cap:=cap) (a:=a) (by rw [hρ',l']; omega) p3 (by
    simp only [eX] at p4 ⊢;rw [hθ,hκ]
    exact p4)
   exact hh
  grind [T.leaf]
 grind [TB]
theorem vC [Glob] {α:Type} {ρ:Nat->Int}: ∀{vs:List AV} {s:St} {E:En} {k:List AV->St->T α} {x:α},E.ρ=ρ->aO E s.h w->aW ρ s.pc->(Ea vs s k).leaf ρ=some x->
 ∃vs' h' pc' E',aW ρ pc'/\UQ E w s.h E' h'/\(∀us,bC E w.heap vs us->bC E' w.heap vs' us)/\(k vs' { s with h:=h',pc:=pc' }).leaf ρ=some x
 |[],s,E,k,x,hρ,r,hp,h=> ⟨[],s.h,s.pc,E,hp,UQ.refl r,fun _ h=>h,h⟩
 |v::vs,s,E,k,x,hρ,r,hp,h=>by simp only [Ea] at h;obtain⟨v1,h1,pc1,E1,hp1,f1,q1,g1⟩:=ZW hρ r hp h;obtain⟨vs1,h2,pc2,E2,hp2,f2,q2,g2⟩:=vC (s:={ s with h:=h1,pc:=pc1 }) (f1.ρ.trans hρ) f1.rel hp1 g1;refine⟨v1::vs1,h2,pc2,E2,hp2,f1.trans f2,fun us hu=>?_,g2⟩;rw [aT] at hu ⊢;obtain⟨u,us',rfl,a,b⟩:=hu;exact⟨u,us',rfl,VR.keep (f2.dX.keeps f1.rel) _ _ (q1 u a),q2 us' (bC.keep (f1.dX.keeps r) _ _ b)⟩
end
section
variable {P:Program} {E:En} {w:World}
theorem nY: ∀{cs vs l:List AV} {o:Nat},splice cs o vs=some l->l.length=cs.length
 |cs,[],l,0,h=>by simp only [splice,aCJ] at h; rw [h]
 |[],v::vs,l,0,h=>by simp [splice] at h
 |c::cs,v::vs,l,0,h=>by
  simp only [splice] at h;split at h
  ·rename_i l' hl;simp only [aCJ] at h;subst h;simp [nY hl]
  grind
 |[],vs,l,o+1,h=>by simp [splice] at h
 |c::cs,vs,l,o+1,h=>by
  simp only [splice] at h;split at h
  ·rename_i l' hl;simp only [aCJ] at h;subst h;simp [nY hl]
  grind
theorem rX: ∀{cs vs l:List AV} {o:Nat} (m:List AV),splice cs o vs=some l->splice (cs++m) o vs=some (l++m)
 |cs,[],l,0,m,h=>by simp only [splice,aCJ] at h ⊢; rw [h]
 |[],v::vs,l,0,m,h=>by simp [splice] at h
 |c::cs,v::vs,l,0,m,h=>by
  simp only [splice,aC8] at h ⊢;split at h
  ·rename_i l' hl;simp only [aCJ] at h;subst h;rw [rX m hl];rfl
  grind
 |[],vs,l,o+1,m,h=>by simp [splice] at h
 |c::cs,vs,l,o+1,m,h=>by
  simp only [splice,aC8] at h ⊢;split at h
  ·rename_i l' hl;simp only [aCJ] at h;subst h;rw [rX m hl];rfl
  grind
theorem yV: ∀{cs vs l:List AV} {o:Nat} (p:List AV),splice cs o vs=some l->splice (p++cs) (p.length+o) vs=some (p++l)
 |cs,vs,l,o,[],h=>by simpa using h
 |cs,vs,l,o,x::p,h=>by have:=yV p h;rw [aC8,aCW,show p.length+1+o=(p.length+o)+1 by omega];simp only [splice,this,aC8]
theorem xM: ∀{cs vs l:List AV} {o:Nat},splice cs o vs=some l->∀j:Nat,l[j]?=if o<=j/\j<o+vs.length then vs[j-o]? else cs[j]?
 |cs,[],l,0,h,j=>by
  simp only [splice,aCJ] at h
  grind
 |[],v::vs,l,0,h,j=>by simp [splice] at h
 |c::cs,v::vs,l,0,h,j=>by
  simp only [splice] at h;split at h
  ·rename_i l' hl;simp only [aCJ] at h;subst h
   cases j with
   |zero=>simp
   |succ j=>
    have:=xM hl j
    grind
  grind
 |[],vs,l,o+1,h,j=>by simp [splice] at h
 |c::cs,vs,l,o+1,h,j=>by
  simp only [splice] at h;split at h
  ·rename_i l' hl;simp only [aCJ] at h;subst h
   cases j with
   |zero=>rw [aCI (by omega)]; rfl
   |succ j=>
    have:=xM hl j
    grind
  grind
theorem GZ (x:SE): ∀(cs:List CK) (j k:Nat),(kV cs j x)[k]?=(cs[k]?).map fun c=>wZ c (kR (j+k) x)
 |[],j,k=>by simp [kV]
 |c::cs,j,0=>by simp [kV]
 |c::cs,j,k+1=>by
  simp only [kV,aC7,GZ x cs (j+1) k]
  grind
theorem Ja {ρ:Nat->Int} {ks:List CK}: ∀{vs:List AV} {off:Nat} {x x':SE},setCells ks off vs x=some x'->off+vs.length<=(dec (x.den ρ)).l.length->
 (dec (x'.den ρ)).l.length=(dec (x.den ρ)).l.length/\(dec (x.den ρ)=dL (dec (x.den ρ)).l->dec (x'.den ρ)=dL (dec (x'.den ρ)).l)/\
 ∀j,(j<off\/off+vs.length<=j)/\(dec (x'.den ρ)).l[j]?=(dec (x.den ρ)).l[j]?\/∃c v a,off<=j/\vs[j-off]?=some v/\ks[j]?=some c/\qM c v=some a/\(dec (x'.den ρ)).l[j]?=some (dec (a.den ρ))
 |[],off,x,x',h,_=>by
  simp only [setCells,aCJ] at h
  grind
 |v::vs,off,x,x',h,hle=>by
  simp only [setCells] at h;split at h
  ·rename_i c hc;split at h
   ·rename_i a ha;simp only [aCW] at hle
    have hs:dec ((SE.op .set x (dV (.dat (.i (Int.ofNat off))) a)).den ρ)=dL ((dec (x.den ρ)).l.set off (dec (a.den ρ))):=by simp only [dV,SE.den,gB.den,aA,D.n];rfl
    obtain⟨h1,h2,h3⟩:=Ja (ρ:=ρ) h (by rw [hs,aY,aEp]; omega);rw [hs,aY,aEp] at h1;rw [hs] at h2 h3;simp only [aY] at h2 h3;rw [bW] at hc
    grind
   grind
  grind
theorem dK.mk {ro:Nat->Prop} {h:Array Obj} {d:D}: ∀{cs:List CK} {j:Nat} {us:List Value},us.length=cs.length->(∀k c u,cs[k]?=some c->us[k]?=some u->kY ro h c (d.hd (j+k)) u)->dK ro h cs j d us
 |[],j,us,hl,_=>by
  simp only [dK]
  grind
 |c::cs,j,[],hl,_=>by simp at hl
 |c::cs,j,u::us,hl,hh=>by
  simp only [dK];refine⟨u,us,rfl,by simpa using hh 0 c u rfl rfl,dK.mk (by simpa using hl) fun k c' u' h1 h2=>?_⟩;have:=hh (k+1) c' u' (by simpa using h1) (by simpa using h2)
  grind
theorem YN {r:Row} {e e' i:SE} {off k:Nat} {vs:List AV} {x:D} (hc:Uz r e i off vs=some e') (hi:i.den E.ρ=(k:Int)) (hx:(dec (e.den E.ρ)).l[k]?=some x) (hwf:vT r x) (hle:off+vs.length<=r.es) :
 ∃x',dec (e'.den E.ρ)=dL ((dec (e.den E.ρ)).l.set k x')/\vT r x'/\∀(h:Array Obj) (us':List Value),us'.length=r.es->(∀j v u,off<=j->vs[j-off]?=some v->us'[j]?=some u->VR E h v u)->
  (∀j a u,(j<off\/off+vs.length<=j)->(iV r (.op .at e i))[j]?=some a->us'[j]?=some u->VR E h a u)->DY E.ro h r x' us':=by
 unfold Uz at hc;split at hc
 ·rename_i c;split at hc
  ·split at hc
   ·rename_i v;split at hc
    ·rename_i a ha;simp only [aCJ] at hc;subst hc;refine⟨dec (a.den E.ρ),?_,rE ha,?_⟩
     ·simp only [dV,SE.den,gB.den,aA,nZ,D.n,hi,xP]
     ·intro h us' h1 h2 _
      cases us' with
      |nil=>simp [Row.es] at h1
      |cons y ys=>
       have:ys= []:=by
        grind [Row.es]
       subst this;exact⟨y,rfl,nI (h2 0 v y (aCN _) rfl rfl) ha⟩
    grind
   grind
  grind
 ·rename_i ks;split at hc
  ·rename_i x' hx';simp only [aCJ] at hc;subst hc;have hat:=IZ E.ρ e i hi hx;obtain⟨w1,w2,w3⟩:=hwf;obtain⟨g1,g2,g3⟩:=Ja (ρ:=E.ρ) hx' (by rw [hat,w2]; exact hle);rw [hat] at g1 g2 g3;refine⟨dec (x'.den E.ρ),?_,⟨g2 w1,by rw [g1,w2],?_⟩,?_⟩
   ·simp only [dV,SE.den,gB.den,aA,nZ,D.n,hi,xP]
   ·intro j c y hj hy;rcases g3 j with ⟨_,q2⟩|⟨c',v',a',_,_,q3,q4,q5⟩
    ·grind
    ·rw [q5] at hy;rw [hj] at q3;simp only [aCJ] at hy q3;subst hy q3;exact rE q4
   ·intro h us' h1 h2 h3;show dK E.ro h ks 0 (dec (x'.den E.ρ)) us';refine dK.mk h1 fun j c u hj hu=>?_;rw [aCR];rcases g3 j with ⟨q1,q2⟩|⟨c',v',a',q1,q2,q3,q4,q5⟩
    ·have p2:=h3 j (wZ c (kR j (.op .at e i))) u q1 (by simp only [iV,GZ,hj,aDo,aCR]) hu;rw [rG,uV,hat] at p2;have:(dec (x'.den E.ρ)).hd j=x.hd j:=by simp only [D.hd,q2]
     grind
    ·rw [hj] at q3;simp only [aCJ] at q3;subst q3;have:(dec (x'.den E.ρ)).hd j=dec (a'.den E.ρ):=by simp only [D.hd,q5,aCT]
     rw [this];exact nI (h2 j v' u q1 q2 hu) q4
  grind
theorem mP {ρ:Nat->Int} {r:Row} {ov kJ:List (SE×List AV)}: ∀(ds:List D) (i:Nat),(∀j,i<=j->j<i+ds.length->dM ρ j ov=dM ρ j kJ)->aF ρ r ov ds i=aF ρ r kJ ds i
 |[],_,_=>rfl
 |d::ds,i,h=>by simp only [aF];rw [h i (aCN _) (by simp),mP ds (i+1) fun j h1 h2=>h j (by omega) (by simp only [aCW]; omega)]
theorem LD {ρ:Nat->Int} {pc:List (SB×Bool)} (hp:aW ρ pc) {i:SE} {k:Nat} (hi:i.den ρ=(k:Int)) {cs':List AV} {r:Row} (hcs:cs'.length=r.es): ∀{ov kJ:List (SE×List AV)},O6 pc i cs' ov=some kJ->yZ r ov->
 yZ r kJ/\dM ρ k kJ=some cs'/\∀j:Nat,j≠k->dM ρ j kJ=dM ρ j ov
 |[],kJ,h,_=>by simp [O6] at h
 |(j,c)::l,kJ,h,ho=>by
  simp only [O6] at h;split at h
  ·rename_i he;have he:=bI _ _ he;subst he;simp only [aCJ] at h;subst h;refine⟨?_,by simp [dM,hi],?_⟩
   ·intro p hp';rcases aCP.1 hp' with rfl|hp'
    ·grind
    ·exact ho p (by simp [hp'])
   ·intro m hm;simp only [dM,hi]
    grind
  ·split at h
   ·rename_i b hd;split at h
    ·have hd:=iQ hp hd;rw [jE,beq_iff_eq,hi] at hd;simp only [aCJ] at h;subst h;refine⟨?_,by simp [dM,hd],?_⟩
     ·intro p hp';rcases aCP.1 hp' with rfl|hp'
      ·grind
      ·exact ho p (by simp [hp'])
     ·intro m hm;simp only [dM,<- hd]
      grind
    split at h
    ·rename_i l' hl;simp only [aCJ] at h;subst h;have hd:=iQ hp hd;rw [jE,beq_eq_false_iff_ne,hi] at hd;obtain⟨g1,g2,g3⟩:=LD hp hi hcs hl fun p hp'=>ho p (by simp [hp']);refine⟨?_,?_,?_⟩
     ·intro p hp';rcases aCP.1 hp' with rfl|hp'
      ·exact ho _ (by simp)
      ·exact g1 p hp'
     ·simp only [dM]
      grind
     ·intro m hm;simp only [dM]
      grind
    grind
   grind
theorem Rt {ρ:Nat->Int} {pc:List (SB×Bool)} (hp:aW ρ pc) {i:SE} {k:Nat} (hi:i.den ρ=(k:Int)): ∀{ov:List (SE×List AV)},CG pc i ov=true->dM ρ k ov=none
 |[],_=>rfl
 |(j,c)::l,h=>by
  simp only [CG] at h;split at h
  ·rename_i hd;have hd:=iQ hp hd;rw [jE,beq_eq_false_iff_ne,hi] at hd;simp only [dM];rw [aCI (fun q=>hd q.symm)];exact Rt hp hi h
  grind
theorem OR.congr {h:Array Obj} {id:Nat} {a b:List AV} {ty:TypeId} (ho:OR E h id (.cells a ty)) (hl:b.length=a.length) (hv: ∀us,bC E h a us->bC E h b us):OR E h id (.cells b ty):=by
 simp only [OR] at ho ⊢
 grind
set_option maxHeartbeats 800000 in
theorem VZ [Glob] {E1:En} {tt:TT} (htt:dU P tt) {s s':St} (r1:aO E1 s.h w) (hp:aW E1.ρ s.pc) {ty id es:Nat} {i:SE} {off:Nat} {one:Bool} {vs:List AV} {v':AV} {u x:Value} (hx:VR E1 w.heap (.pX id es i off) u)
 (hcv:one=true->bC E1 w.heap vs x.cells.toList/\∀u∈x.cells.toList,u.oneCell'=true) (h:(Nb tt s ty id es i off one vs).leaf E1.ρ=some (v',s')) :
 s'.slots=s.slots/\aW E1.ρ s'.pc/\v'=AV.undef/\∃w' E',(Instr.storeAt ty u x).run P w= .ok () w'/\Stp E1 s.h w E' s'.h w'/\aO E' s'.h w':=by
 unfold Nb at h;split at h
 ·rename_i o hl;split at h
  ·rename_i e t HY ov;split at h
   ·rename_i ti hti;split at h
    ·rename_i hcond;obtain⟨hes,hvl,hone⟩:=hcond;obtain⟨pc0,hp0,t1,t2,h3⟩:=rM hp h;obtain⟨pc',hp',h3⟩:=CU (s:={ s with pc:=pc0 }) hp0 h3;split at h3
     ·rename_i cs hc;split at h3
      ·rename_i cs' hs;obtain⟨hvs,ahU⟩:=hcv hone;have hx1:=hx;simp only [VR] at hx1;obtain⟨hid,k,hk,rfl⟩:=hx1;obtain⟨rc,ho,hwf⟩:=r1.tV hl;rw [bD] at t2;have hlt:k<(dec (e.den E1.ρ)).l.length:=by omega
       have hd:(dec (e.den E1.ρ)).l[k]?=some (dec (e.den E1.ρ)).l[k]:=aCV hlt;generalize hxk:(dec (e.den E1.ρ)).l[k]=xk at hd;obtain⟨c1,c2⟩:=lC (ρ:=E1.ρ) ho (j:=0) hd;rw [aCR] at c1;generalize hpre:aF E1.ρ (rowOf t) ov ((dec (e.den E1.ρ)).l.take k) 0=pre at c1 c2;generalize hpost:aF E1.ρ (rowOf t) ov ((dec (e.den E1.ρ)).l.drop (k+1)) (k+1)=post at c1
       have hrow:(∀h us,bC E1 h (match dM E1.ρ k ov with |some cs=>cs|none=>iV (rowOf t) (.dat xk)) us↔bC E1 h cs us)/\cs.length=(rowOf t).es:=by
        rcases rY hp' hk hc with g|⟨g,rfl⟩
        ·rw [g];obtain⟨p,p1,p2,_⟩:=mZ g;have:=ho p p1;rw [p2] at this;exact⟨fun _ _=>Iff.rfl,this⟩
        ·rw [g];refine⟨fun h us=>Eu ?_,jC _ _⟩;rw [IZ E1.ρ e i hk hd];simp only [SE.den,aA]
       obtain⟨hrv,hcl⟩:=hrow;have hcl':cs'.length=(rowOf t).es:=by rw [nY hs,hcl]
       have hor:OR E1 w.heap id (.cells (pre++(cs++post)) HY):=by
        have:=(rc.live id _ (by rw [Hp.get_put,aCL rfl])).2.1;unfold bH at this;rw [c1] at this;refine OR.congr this ?_ ?_
        ·simp only [aC5,hcl];congr 2;split
         ·rename_i cs0 h0;obtain⟨p,p1,p2,_⟩:=mZ h0;have:=ho p p1;rw [p2] at this;exact this.symm
         ·rw [jC]
        ·intro us q2;obtain⟨a,b,rfl,a1,a2⟩:=q2.split;obtain⟨a',b',rfl,b1,b2⟩:=a2.split;exact a1.append (((hrv _ _).1 b1).append b2)
       have r2:=r1.swap (H2:=s.h.put id (.cells (pre++(cs++post)) HY)) hl hor (by rw [Hp.get_put,aCL rfl]) (fun j hj=>by rw [Hp.get_put,aCI hj]) rfl rfl
       have hs2:splice (pre++(cs++post)) (k*es+off) vs=some (pre++(cs'++post)):=by rw [<- hes,<- c2];exact yV pre (rX post hs)
       obtain⟨w',g1,g2,g3⟩:=oN (P:=P) r2 (by rw [Hp.get_put,aCL rfl]) hs2 hvs ahU;have hlen:x.cells.size=ti.size:=by have:=hvs.length; simp only [aC9] at this; omega
       have hrun:(Instr.storeAt ty (.pointer (some ⟨(E1.θ id).1,(E1.θ id).2+(k*es+off),none⟩)) x).run P w= .ok () w':=by simp [Instr.storeAt,Instr.sureAddr,storeVar,dS (htt ty ti hti),hlen,g1]
       have fin: ∀(o':dG),OR E1 w'.heap id o'->∃w' E',(Instr.storeAt ty (.pointer (some ⟨(E1.θ id).1,(E1.θ id).2+(k*es+off),none⟩)) x).run P w= .ok () w'/\Stp E1 s.h w E' (s.h.put id o') w'/\aO E' (s.h.put id o') w':=by
        intro o' ho';have al1:OC (s.h.put id (.cells (pre++(cs++post)) HY)) s.h:=(OC.put hl).symm
        have al2:OC ((s.h.put id (.cells (pre++(cs++post)) HY)).put id (.cells (pre++(cs'++post)) HY)) (s.h.put id o'):=by
         refine⟨fun j y hj=>?_,fun j y hj=>?_,rfl,rfl⟩
         ·rw [Hp.get_put];split
          ·exact⟨o',rfl⟩
          ·rename_i hne;rw [Hp.get_put,aCI hne,Hp.get_put,aCI hne] at hj;exact⟨y,hj⟩
         ·rw [Hp.get_put] at hj ⊢;split
          ·exact⟨_,rfl⟩
          ·rename_i hne;rw [aCI hne] at hj;rw [Hp.get_put,aCI hne];exact⟨y,hj⟩
        refine⟨w',E1,hrun,(g2.left al1).right al2,?_⟩;exact g3.swap (id:=id) (by rw [Hp.get_put,aCL rfl]) ho' (by rw [Hp.get_put,aCL rfl]) (fun j hj=>by rw [Hp.get_put,aCI hj,Hp.get_put,aCI hj,Hp.get_put,aCI hj]) rfl rfl
       have hcells:=(g3.live id _ (by rw [Hp.get_put,aCL rfl])).2.1
       have apart: ∀kJ:List (SE×List AV),yZ (rowOf t) kJ->dM E1.ρ k kJ=some cs'->(∀j:Nat,j≠k->dM E1.ρ j kJ=dM E1.ρ j ov)->OR E1 w'.heap id (.vec e t HY kJ):=by
        intro kJ q1 q2 q3;refine OR.tV.2 ⟨⟨q1,hwf⟩,?_⟩
        have:bH E1.ρ e t kJ=pre++(cs'++post):=by
         unfold bH;obtain⟨d1,_⟩:=lC (ρ:=E1.ρ) q1 (j:=0) hd;rw [aCR,q2] at d1;rw [d1,<- hpre,<- hpost];congr 1
         ·refine mP _ _ fun j _ hj=>q3 j ?_;rw [aDa] at hj;omega
         ·congr 1;exact mP _ _ fun j hj _=>q3 j (by omega)
        rw [this];exact hcells
       split at h3
       ·rename_i kJ hov;have:=aC h3;simp only [aCK] at this;obtain⟨rfl,rfl⟩:=this;refine⟨rfl,hp',rfl,?_⟩;obtain⟨q1,q2,q3⟩:=LD hp' hk hcl' hov ho;exact fin _ (apart kJ q1 q2 q3)
       ·split at h3
        ·rename_i habs;have hnone:=Rt hp' hk habs;split at h3
         ·rename_i e' hset;have:=aC h3;simp only [aCK] at this;obtain⟨rfl,rfl⟩:=this;refine⟨rfl,hp',rfl,fin _ ?_⟩;have hxm:xk∈(dec (e.den E1.ρ)).l:=aDi hd
          have hle:off+vs.length<=(rowOf t).es:=by
           rw [<- hcl];rcases aDO vs.length with hz|hz
           ·have aAd:=aDq hz;subst aAd
            have: ∀(l c:List AV) (o:Nat),splice c o []=some l->o<=c.length:=by
             intro l c
             induction c generalizing l with
             |nil=>intro o ho; cases o with |zero=>exact aDP _|succ o=>simp [splice] at ho
             |cons a c ih=>
              intro o ho
              cases o with
              |zero=>exact aDP _
              |succ o=>
               simp only [splice] at ho;split at ho
               ·rename_i l' hl';have:=ih l' o hl';simp; omega
               ·simp at ho
            have:=this _ _ _ hs;simpa using this
           ·have:=xM hs (off+vs.length-1);rw [aCL (by omega)] at this
            have hsome:(vs[off+vs.length-1-off]?).isSome=true:=by rw [aCV (by omega)]; rfl
            rw [<- this] at hsome;obtain⟨y,hy⟩:=aDI.1 hsome;have:=(aC1.1 hy).1;rw [nY hs] at this;omega
          obtain⟨x',z1,z2,z3⟩:=YN hset hk hd (hwf.2.1 xk hxm) hle;refine OR.tV.2 ⟨⟨ho,?_⟩,?_⟩
          ·rw [z1];refine⟨by rw [aY],fun y hy=>?_,by rw [aY]; intro q; have:=congrArg List.length q; simp at this; exact hwf.2.2 this⟩;rw [aY] at hy;rcases List.mem_or_eq_of_mem_set hy with hy|rfl
           ·exact hwf.2.1 y hy
           ·exact z2
          ·have hd':(dec (e'.den E1.ρ)).l[k]?=some x':=by
            rw [z1,aY,List.getElem?_set_self hlt]
           obtain⟨d1,d2⟩:=lC (ρ:=E1.ρ) ho (j:=0) hd';rw [aCR,hnone] at d1
           have ZR:bH E1.ρ e' t ov=pre++(iV (rowOf t) (.dat x')++post):=by
            unfold bH;rw [d1,<- hpre,<- hpost,z1,aY];congr 1
            ·rw [aEK (aCN _)]
            ·congr 1;rw [aEL (by omega)]
           rw [ZR];refine OR.congr hcells (by simp only [aC5,jC,hcl']) fun us q2=>?_;obtain⟨a,b,rfl,a1,a2⟩:=q2.split;obtain⟨a',b',rfl,b1,b2⟩:=a2.split;refine a1.append (bC.append ?_ b2);rw [iH];simp only [SE.den,aA]
           have aAn:cs=iV (rowOf t) (.op .at e i):=by
            rcases rY hp' hk hc with g|⟨g,g'⟩
            ·rw [hnone] at g; simp at g
            ·exact g'
           refine z3 _ a' (by rw [b1.length,hcl']) ?_ ?_
           ·intro j vj uj hj1 hj2 hj3;have hjl:=(aC1.1 hj2).1;have:=xM hs j;rw [aCL (by omega),hj2] at this;obtain⟨y,y1,y2⟩:=b1.nth (by rw [bW]; exact this);rw [hj3] at y1;simp only [aCJ] at y1;subst y1;exact y2
           ·intro j aj uj hj1 hj2 hj3;have:=xM hs j;rw [aCI (by omega),aAn,hj2] at this;obtain⟨y,y1,y2⟩:=b1.nth (by rw [bW]; exact this);rw [hj3] at y1;simp only [aCJ] at y1;subst y1;exact y2
         ·have:=aC h3;simp only [aCK] at this;obtain⟨rfl,rfl⟩:=this;refine⟨rfl,hp',rfl,fin _ (apart _ ?_ ?_ ?_)⟩
          ·intro p hp';rcases aCP.1 hp' with rfl|hp'
           ·exact hcl'
           ·exact ho p hp'
          ·simp only [dM];rw [aCL hk]
          ·intro j hj;simp only [dM];rw [aCI (by omega)]
        ·simp [T.leaf] at h3
      ·simp [T.leaf] at h3
     ·simp [T.leaf] at h3
    ·simp [T.leaf] at h
   ·simp [T.leaf] at h
  ·simp [T.leaf] at h
 ·simp [T.leaf] at h
theorem anR {E1:En} {h:Array Obj} {c:CK} {v:AV} {u:Value} (hv:VR E1 h v u):VR E1 h (avI c v) u:=by
 unfold avI;split
 ·split
  ·simp only [VR] at hv ⊢;subst hv;exact⟨⟨none,rfl⟩,by simp only [SE.den,aA]; exact .nil _⟩
  ·split
   ·split
    ·split
     ·simp only [VR] at hv ⊢;obtain⟨_,a,cap,rfl,_,hc⟩:=hv;simp only [eX] at hc;obtain⟨rfl,_⟩:=hc;exact⟨⟨some a,rfl⟩,by simp only [SE.den,aA]; exact .non _ _ _⟩
     grind
    grind
   grind
  grind
 grind
theorem QA {E1:En} {h:Array Obj}: ∀(cs:List CK) {vs:List AV} {us:List Value},bC E1 h vs us->bC E1 h (VT cs vs) us
 |[],vs,us,hv=>hv
 |_::_,[],us,hv=>hv
 |c::cs,v::vs,us,hv=>by rw [aT] at hv;obtain⟨u,us',rfl,h1,h2⟩:=hv;simp only [VT];rw [aT];exact⟨u,us',rfl,anR h1,QA cs h2⟩
set_option maxHeartbeats 800000 in
theorem VY [Glob] {E1:En} {tt:TT} (htt:dU P tt) {s s':St} (r1:aO E1 s.h w) (hp:aW E1.ρ s.pc) {ty id es:Nat} {i j0:SE} {off:Nat} {one:Bool} {vs:List AV} {v':AV} {u x:Value} (hx:VR E1 w.heap (.pX id es i off) u)
 (hcv:one=true->bC E1 w.heap vs x.cells.toList/\∀u∈x.cells.toList,u.oneCell'=true) (h:(MZ tt s ty id es i j0 off one vs).leaf E1.ρ=some (v',s')) :
 s'.slots=s.slots/\aW E1.ρ s'.pc/\v'=AV.undef/\∃w' E',(Instr.storeAt ty u x).run P w= .ok () w'/\Stp E1 s.h w E' s'.h w'/\aO E' s'.h w':=by
 unfold MZ at h;split at h
 ·rename_i o hl;split at h
  ·rename_i e t HY ov;split at h
   ·rename_i ti hti;split at h
    ·rename_i hcond;obtain⟨hes,hvl,hone⟩:=hcond;obtain⟨pc0,hp0,t1,t2,h3⟩:=rM hp h;obtain⟨pc',hp',h3⟩:=CU (s:={ s with pc:=pc0 }) hp0 h3;split at h3
     ·rename_i hdb;have hij:=iQ hp' hdb;split at h3
      ·rename_i cs hc;split at h3
       ·rename_i cs' hs;obtain⟨aAc,ahU⟩:=hcv hone;have hvs:=QA ((Xz (rowOf t)).drop off) aAc;have hx1:=hx;simp only [VR] at hx1;obtain⟨hid,k,hk,rfl⟩:=hx1;simp only [SB.den,beq_iff_eq] at hij;have hk2:j0.den E1.ρ=(k:Int):=by rw [<- hij]; exact hk
        obtain⟨rc,ho,hwf⟩:=r1.tV hl;rw [bD] at t2;have hlt:k<(dec (e.den E1.ρ)).l.length:=by omega
        have hd:(dec (e.den E1.ρ)).l[k]?=some (dec (e.den E1.ρ)).l[k]:=aCV hlt;generalize hxk:(dec (e.den E1.ρ)).l[k]=xk at hd;obtain⟨c1,c2⟩:=lC (ρ:=E1.ρ) ho (j:=0) hd;rw [aCR] at c1;generalize hpre:aF E1.ρ (rowOf t) ov ((dec (e.den E1.ρ)).l.take k) 0=pre at c1 c2;generalize hpost:aF E1.ρ (rowOf t) ov ((dec (e.den E1.ρ)).l.drop (k+1)) (k+1)=post at c1
        have hrow:(∀h us,bC E1 h (match dM E1.ρ k ov with |some cs=>cs|none=>iV (rowOf t) (.dat xk)) us↔bC E1 h cs us)/\cs.length=(rowOf t).es:=by
         rcases rY hp' hk2 hc with g|⟨g,rfl⟩
         ·rw [g];obtain⟨p,p1,p2,_⟩:=mZ g;have:=ho p p1;rw [p2] at this;exact⟨fun _ _=>Iff.rfl,this⟩
         ·rw [g];refine⟨fun h us=>Eu ?_,jC _ _⟩;rw [IZ E1.ρ e j0 hk2 hd];simp only [SE.den,aA]
        obtain⟨hrv,hcl⟩:=hrow;have hcl':cs'.length=(rowOf t).es:=by rw [nY hs,hcl]
        have hor:OR E1 w.heap id (.cells (pre++(cs++post)) HY):=by
         have:=(rc.live id _ (by rw [Hp.get_put,aCL rfl])).2.1;unfold bH at this;rw [c1] at this;refine OR.congr this ?_ ?_
         ·simp only [aC5,hcl];congr 2;split
          ·rename_i cs0 h0;obtain⟨p,p1,p2,_⟩:=mZ h0;have:=ho p p1;rw [p2] at this;exact this.symm
          ·rw [jC]
         ·intro us q2;obtain⟨a,b,rfl,a1,a2⟩:=q2.split;obtain⟨a',b',rfl,b1,b2⟩:=a2.split;exact a1.append (((hrv _ _).1 b1).append b2)
        have r2:=r1.swap (H2:=s.h.put id (.cells (pre++(cs++post)) HY)) hl hor (by rw [Hp.get_put,aCL rfl]) (fun j hj=>by rw [Hp.get_put,aCI hj]) rfl rfl
        have hs2:splice (pre++(cs++post)) (k*es+off) (VT ((Xz (rowOf t)).drop off) vs)=some (pre++(cs'++post)):=by rw [<- hes,<- c2];exact yV pre (rX post hs)
        obtain⟨w',g1,g2,g3⟩:=oN (P:=P) r2 (by rw [Hp.get_put,aCL rfl]) hs2 hvs ahU;have hlen:x.cells.size=ti.size:=by have:=aAc.length; simp only [aC9] at this; omega
        have hrun:(Instr.storeAt ty (.pointer (some ⟨(E1.θ id).1,(E1.θ id).2+(k*es+off),none⟩)) x).run P w= .ok () w':=by simp [Instr.storeAt,Instr.sureAddr,storeVar,dS (htt ty ti hti),hlen,g1]
        have fin: ∀(o':dG),OR E1 w'.heap id o'->∃w' E',(Instr.storeAt ty (.pointer (some ⟨(E1.θ id).1,(E1.θ id).2+(k*es+off),none⟩)) x).run P w= .ok () w'/\Stp E1 s.h w E' (s.h.put id o') w'/\aO E' (s.h.put id o') w':=by
         intro o' ho';have al1:OC (s.h.put id (.cells (pre++(cs++post)) HY)) s.h:=(OC.put hl).symm
         have al2:OC ((s.h.put id (.cells (pre++(cs++post)) HY)).put id (.cells (pre++(cs'++post)) HY)) (s.h.put id o'):=by
          refine⟨fun j y hj=>?_,fun j y hj=>?_,rfl,rfl⟩
          ·rw [Hp.get_put];split
           ·exact⟨o',rfl⟩
           ·rename_i hne;rw [Hp.get_put,aCI hne,Hp.get_put,aCI hne] at hj;exact⟨y,hj⟩
          ·rw [Hp.get_put] at hj ⊢;split
           ·exact⟨_,rfl⟩
           ·rename_i hne;rw [aCI hne] at hj;rw [Hp.get_put,aCI hne];exact⟨y,hj⟩
         refine⟨w',E1,hrun,(g2.left al1).right al2,?_⟩;exact g3.swap (id:=id) (by rw [Hp.get_put,aCL rfl]) ho' (by rw [Hp.get_put,aCL rfl]) (fun j hj=>by rw [Hp.get_put,aCI hj,Hp.get_put,aCI hj,Hp.get_put,aCI hj]) rfl rfl
        have hcells:=(g3.live id _ (by rw [Hp.get_put,aCL rfl])).2.1
        have apart: ∀kJ:List (SE×List AV),yZ (rowOf t) kJ->dM E1.ρ k kJ=some cs'->(∀j:Nat,j≠k->dM E1.ρ j kJ=dM E1.ρ j ov)->OR E1 w'.heap id (.vec e t HY kJ):=by
         intro kJ q1 q2 q3;refine OR.tV.2 ⟨⟨q1,hwf⟩,?_⟩
         have:bH E1.ρ e t kJ=pre++(cs'++post):=by
          unfold bH;obtain⟨d1,_⟩:=lC (ρ:=E1.ρ) q1 (j:=0) hd;rw [aCR,q2] at d1;rw [d1,<- hpre,<- hpost];congr 1
          ·refine mP _ _ fun j _ hj=>q3 j ?_;rw [aDa] at hj;omega
          ·congr 1;exact mP _ _ fun j hj _=>q3 j (by omega)
         rw [this];exact hcells
        split at h3
        ·rename_i kJ hov;have:=aC h3;simp only [aCK] at this;obtain⟨rfl,rfl⟩:=this;refine⟨rfl,hp',rfl,?_⟩;obtain⟨q1,q2,q3⟩:=LD hp' hk2 hcl' hov ho;exact fin _ (apart kJ q1 q2 q3)
        ·split at h3
         ·rename_i habs;have:=aC h3;simp only [aCK] at this;obtain⟨rfl,rfl⟩:=this;refine⟨rfl,hp',rfl,fin _ (apart _ ?_ ?_ ?_)⟩
          ·intro p hp';rcases aCP.1 hp' with rfl|hp'
           ·exact hcl'
           ·exact ho p hp'
          ·simp only [dM];rw [aCL hk2]
          ·intro j hj;simp only [dM];rw [aCI (by omega)]
         ·simp [T.leaf] at h3
       ·simp [T.leaf] at h3
      ·simp [T.leaf] at h3
     ·simp [T.leaf] at h3
    ·simp [T.leaf] at h
   ·simp [T.leaf] at h
  ·simp [T.leaf] at h
 ·simp [T.leaf] at h
theorem V3 [Glob] {tt:TT} (htt:dU P tt) {s s':St} (r:aO E s.h w) (hp:aW E.ρ s.pc) {ty id es:Nat} {i:SE} {off:Nat} {v v':AV} {u x:Value} (hx:VR E w.heap (.pX id es i off) u) (hv:VR E w.heap v x) (h:(Nc tt s ty id es i off v).leaf E.ρ=some (v',s')) :
 s'.slots=s.slots/\aW E.ρ s'.pc/\v'=AV.undef/\∃w' E',(Instr.storeAt ty u x).run P w= .ok () w'/\Stp E s.h w E' s'.h w'/\aO E' s'.h w':=by
 unfold Nc at h;split at h
 ·exact VY htt r hp hx (fun hone=> ⟨hv.cells hone,(hv.cells hone).ones hone⟩) h
 ·obtain⟨vs,h1,pc1,E1,hp1,f,q,g⟩:=vC rfl r hp h;have hρ:=f.ρ;rw [<- hρ] at hp1 g;obtain⟨a1,a2,a3,w',E',a4,a5,a6⟩:=VZ htt (s:={ s with h:=h1,pc:=pc1 }) f.rel hp1 (VR.keep (f.dX.keeps r) _ _ hx) (fun hone=> ⟨q _ (hv.cells hone),(hv.cells hone).ones hone⟩) g;exact⟨a1,by rw [<- hρ]; exact a2,a3,w',E',a4,f.dX.trans a5,a6⟩
end
section
variable {P:Program} {E:En} {w:World}
theorem DY.length {ro:Nat->Prop} {h:Array Obj} {r:Row} {d:D} {us:List Value} (hh:DY ro h r d us):us.length=r.es:=by
 cases r with
 |one c=>obtain⟨u,rfl,_⟩:=hh; rfl
 |many cs=>exact dK.length hh
theorem gQ.append {h:Array Obj} {b o:Nat} {us vs:List Value} (h1:gQ h b o us) (h2:gQ h b (o+us.length) vs):gQ h b o (us++vs):=by
 intro i u hi;rw [aEB] at hi;split at hi
 ·exact h1 i u hi
 ·rename_i hlt;have:=h2 _ u hi
  grind
theorem Ld {ro:Nat->Prop} (hro:ro=E.ro) {h:Array Obj} {r:Row} {b o:Nat}: ∀(L:List D) (j:Nat),(∀i x,L[i]?=some x->∃us,DY ro h r x us/\gQ h b (o+(j+i)*r.es) us)->
 ∃us,bC E h (aF E.ρ r [] L j) us/\gQ h b (o+j*r.es) us/\us.length=L.length*r.es/\∀u∈us,u.oneCell'=true
 |[],j,_=> ⟨[],by simp [aF,bC],fun i u hi=>by simp at hi,by simp,by simp⟩
 |d::L,j,hh=>by
  subst hro;obtain⟨a,a1,a2⟩:=hh 0 d rfl
  obtain⟨b',b1,b2,b3,b4⟩:=Ld rfl L (j+1) fun i x hi=>by have:=hh (i+1) x (by simpa using hi);rw [show j+(i+1)=j+1+i by omega] at this;exact this
  have hal:=a1.length;refine⟨a++b',?_,?_,?_,?_⟩
  ·simp only [aF,dM];refine bC.append ?_ b1;rw [iH];simpa only [SE.den,aA] using a1
  ·rw [aDf] at a2;refine a2.append ?_
   grind
  ·grind
  ·intro u hu;rcases aDp.1 hu with hu|hu
   ·exact a1.ones u hu
   grind
theorem apL {t:Nat} {d:D} {u:Value} (hr:Rd E.ro w.heap (.sl t) d u) (hne:d.l≠[]): ∃us,Src P E w (rowOf t).es d.l.length (aF E.ρ (rowOf t) [] d.l 0) u us:=by
 obtain⟨x,hx⟩ : ∃x,d.l[0]?=some x:=by
  cases h:d.l with
  |nil=>exact absurd h hne
  |cons a l=>exact⟨a,rfl⟩
 obtain⟨b,o,cap,us0,rfl,hb,_,_⟩:=hr.row hx
 obtain⟨us,h1,h2,h3,h4⟩:=Ld (E:=E) (ro:=E.ro) rfl (h:=w.heap) (r:=rowOf t) (b:=b) (o:=o) d.l 0 fun i x hi=>by
  obtain⟨b',o',cap',us',he,_,g1,g2⟩:=hr.row hi
  grind
 rw [aDm,aDf] at h2;exact⟨us.toArray,fun _=>rfl,fun w2 hw=>by simp only [Builtin.firstCells]; exact h2.loads h3 w2 hw,by simpa using h1,by simpa using h3,by simpa using h4⟩
structure Grown (ρ:Nat->Int) (r:Row) (e0 e1:SE) (ds:List D) (news:List AV):Prop where
 l:(dec (e1.den ρ)).l=(dec (e0.den ρ)).l++ds
 wf:dec (e1.den ρ)=dL (dec (e1.den ρ)).l
 rows: ∀d∈ds,vT r d
 vr: ∀(E':En) (h:Array Obj) (us:List Value) (j:Nat),E'.ρ=ρ->bC E' h news us->bC E' h (aF ρ r [] ds j) us
theorem mF (r:Row):yZ r []:=fun p hp=>by simp at hp
theorem J6 [Glob] {E':En} {H0:Hp} {w':World} {cells:List AV} {e:TypeId} {e1:SE} {t:Nat} (r:aO E' (H0.new (.cells cells e)) w') (hwf:yO (rowOf t) (dec (e1.den E'.ρ))) (hl:(bH E'.ρ e1 t []).length=cells.length)
 (hv: ∀us,bC E' w'.heap cells us->bC E' w'.heap (bH E'.ρ e1 t []) us):aO E' (H0.new (.vec e1 t e [])) w':=by
 have hg:(H0.new (.cells cells e)).get H0.fresh=some (.cells cells e):=by rw [Hp.iE,aCL rfl]
 refine r.swap hg (OR.tV.2 ⟨⟨mF _,hwf⟩,OR.congr (r.live _ _ hg).2.1 hl hv⟩) (by rw [Hp.iE,aCL rfl]) (fun j hj=>by rw [Hp.iE,aCI hj,Hp.iE,aCI hj]) ?_ ?_
 all_goals grind [Hp.new]
theorem Dk {H0 H1:Hp} {o o':dG} (hn:H1.next=H0.next) (hr:H1.res=H0.res) (hg: ∀j,(H0.get j).isSome=(H1.get j).isSome):OC (H0.new o) (H1.new o'):=by
 have hf:H1.fresh=H0.fresh:=by unfold Hp.fresh; rw [hn,hr]
 have key: ∀{A B:Option dG} {x:dG},A.isSome=B.isSome->A=some x->∃y,B=some y:=by intro A B x h1 h2;rw [h2] at h1;exact aDI.1 h1.symm
 refine⟨fun j x hj=>?_,fun j x hj=>?_,?_,?_⟩
 all_goals grind [Hp.iE,Hp.new]
set_option maxHeartbeats 800000 in
theorem EY [Glob] {t t2 ty:Nat} {H h0:Hp} (r:aO E H w) {ie:TI} {e m:Nat} {own:Option Nat} {news:List AV} {x:AV} {d2:TypeDesc} {u u2:Value} {us:Array Value} (hte:qN P e ie)
 (ht:P.underlying t=some (.slice e)) (ht2:P.underlying t2=some d2) (hd2: ∀k,d2≠.int k) (hs0:ie.size≠0) (hb0:ie.bytes≠0) (hzl:ie.zero.length=ie.size) (hb4:ie.bytes<=400)
 (src:Src P E w ie.size m news u2 us) (hm:0<m) (hx:VR E w.heap x u) {e0 e1:SE} {t':Nat} (hb:vO e own x H=some (e0,t',h0)) (hes:(rowOf t').es=ie.size) {ds:List D} (g:Grown E.ρ (rowOf t') e0 e1 ds news) (hds:ds.length=m)
 (hlim:((dec (e0.den E.ρ)).l.length+m)*ie.bytes<=140737488355328) :
 ∃y w' E',(Builtin.append_ #[t,t2] ty #[u,u2]).run P w= .ok y w'/\Stp E H w E' (h0.new (.vec e1 t' e [])) w'/\aO E' (h0.new (.vec e1 t' e [])) w'/\VR E' w'.heap (.qO h0.fresh (dH e1) t') y:=by
 have hbound: ∀k,k<=(dec (e0.den E.ρ)).l.length->(k+m)*ie.bytes<=140737488355328:=by intro k hk;exact aDb (aDH _ (by omega)) hlim
 have hnl:news.length=m*ie.size:=by have h1:=src.vrs.length;have h2:=src.size;simp only [aC9] at h1;omega
 have fresh0: ∀(a:Option Addr),u= .slice a 0 0->h0=H->(dec (e0.den E.ρ)).l= []->
  ∃y w' E',(Builtin.append_ #[t,t2] ty #[u,u2]).run P w= .ok y w'/\Stp E H w E' (h0.new (.vec e1 t' e [])) w'/\aO E' (h0.new (.vec e1 t' e [])) w'/\VR E' w'.heap (.qO h0.fresh (dH e1) t') y:=by
  intro a hu he hnil;subst hu he
  have hgl:qZ ie e 0 m news h0=some (.slice h0.fresh 0 (0+m) (.rest ie.size),h0.new (.cells news e)):=by unfold qZ;rw [aCL (hbound 0 (by omega))]
  obtain⟨y,w',E',p1,p2,p3,p4⟩:=uP (t:=t) (t2:=t2) (ty:=ty) (cap:=0) r hte ht ht2 hd2 hb0 hzl src (by omega) a (old:=[]) (olds:=#[]) (cs:=news) (by simp) (by simp [bC]) (by simp) (by simp)
   (fun w2 _=>by
    cases a with
    |none=>simp [Builtin.firstCells]
    |some a=>simp only [Builtin.firstCells,aDm]; rfl) hgl
  have hρ:=p2.ρ;have hl1:(dec (e1.den E'.ρ)).l=ds:=by rw [hρ,g.l,hnil,aC2]
  have hwf:yO (rowOf t') (dec (e1.den E'.ρ)):=by refine⟨by rw [hρ]; exact g.wf,fun d hd=>?_,by rw [hl1]; intro q; rw [q] at hds; simp at hds; omega⟩;rw [hl1] at hd;exact g.rows d hd
  refine⟨y,w',E',p1,p2.right (Dk rfl rfl fun _=>rfl),J6 p3 hwf ?_ ?_,?_⟩
  ·unfold bH;rw [bF (mF _),hl1,hds,hes,hnl]
  ·intro us' hus;unfold bH;rw [hl1,hρ];exact g.vr E' w'.heap us' 0 hρ hus
  ·simp only [VR] at p4 ⊢;obtain⟨q1,a',cap',q2,q3,q4⟩:=p4;refine⟨q1,0+m,a',cap',?_,q2,q3,?_⟩
   ·rw [bD,hl1,hds,aCR]
   ·rw [hes]; exact q4
 unfold vO at hb;split at hb
 ·rename_i id n t0;split at hb
  ·rename_i o hl;split at hb
   ·rename_i GR t00 yQ ov;split at hb
    ·split at hb
     ·rename_i ht0;split at hb
      ·rename_i hty;split at hb
       ·rename_i hn;simp only [aCJ,aCK] at hb;obtain⟨rfl,rfl,rfl⟩:=hb;have ht0:=aCO ht0;have hty:=aCO hty;have hn:=bI _ _ hn;subst ht0 hty hn;obtain⟨r2,_,auZ⟩:=r.tV hl;simp only [VR] at hx;obtain⟨hid,k,a,cap,hk,rfl,hkc,hcap⟩:=hx;rw [bD] at hk;have hk:k=(dec (GR.den E.ρ)).l.length:=by omega
        have hx2:VR E w.heap (.slice id 0 k (.rest ie.size)) (.slice (some a) k cap):=by simp only [VR];exact⟨hid,a,cap,rfl,hkc,by rw [<- hes]; exact hcap⟩
        have hcl:(bH E.ρ GR t0 []).length=k*ie.size:=by unfold bH;rw [bF (mF _),hes,hk]
        have aAi:0<m*ie.size:=aEb hm (by omega)
        have happ:vS ie yQ m news (.slice id 0 k (.rest ie.size)) (H.put id (.cells (bH E.ρ GR t0 []) yQ)) =
         some (.slice H.fresh 0 (k+m) (.rest ie.size),((H.put id (.cells (bH E.ρ GR t0 []) yQ)).drop id).new (.cells (bH E.ρ GR t0 []++news) yQ)):=by
         unfold vS;simp only [if_true];rw [Hp.get_put,aCL rfl];simp only;rw [aCI (by rw [hcl,aDs]; omega),aCL ⟨by omega,trivial⟩];simp only [eF];unfold qZ;rw [aCL (hbound k (by omega))];rfl
        obtain⟨y,w',E',p1,p2,p3,p4⟩:=Cm (t:=t) (t2:=t2) (ty:=ty) r2 hte ht ht2 hd2 hs0 hb0 hzl src hx2 happ;have hρ:=p2.ρ;have hl1:(dec (e1.den E'.ρ)).l=(dec (GR.den E.ρ)).l++ds:=by rw [hρ,g.l]
        have hwf:yO (rowOf t0) (dec (e1.den E'.ρ)):=by
         refine⟨by rw [hρ]; exact g.wf,fun d hd=>?_,by rw [hl1]; intro q; have:=congrArg List.length q; simp at this; rw [this.2] at hds; simp at hds; omega⟩;rw [hl1] at hd;rcases aDp.1 hd with hd|hd
         ·exact auZ.2.1 d hd
         ·exact g.rows d hd
        have ZR:bH E'.ρ e1 t0 []=bH E.ρ GR t0 []++aF E.ρ (rowOf t0) [] ds (0+(dec (GR.den E.ρ)).l.length):=by unfold bH;rw [hl1,hρ,oM]
        have hdrop: ∀j,(((H.put id (.cells (bH E.ρ GR t0 []) yQ)).drop id).get j)=(H.drop id).get j:=by
         intro j;rw [Hp.mM,Hp.mM];split
         ·rfl
         ·rename_i hne;rw [Hp.get_put,aCI hne]
        have al:OC (((H.put id (.cells (bH E.ρ GR t0 []) yQ)).drop id).new (.cells (bH E.ρ GR t0 []++news) yQ)) ((H.drop id).new (.vec e1 t0 yQ [])):=
         Dk rfl rfl fun j=>by rw [hdrop]
        have p3':aO E' ((H.drop id).new (.cells (bH E.ρ GR t0 []++news) yQ)) w':=by
         have hg:(((H.put id (.cells (bH E.ρ GR t0 []) yQ)).drop id).new (.cells (bH E.ρ GR t0 []++news) yQ)).get H.fresh=some (.cells (bH E.ρ GR t0 []++news) yQ):=by rw [Hp.iE];exact aCL rfl
         refine p3.swap hg (p3.live _ _ hg).2.1 (by rw [Hp.iE]; exact aCL rfl) (fun j hj=>?_) ?_ ?_
         ·rw [Hp.iE,Hp.iE];show (if j=H.fresh then _ else _)=(if j=H.fresh then _ else _);rw [aCI hj,aCI hj,hdrop]
         ·unfold Hp.new;simp only [Hp.drop,Hp.put];split<;>rfl
         ·unfold Hp.new;simp only [Hp.drop,Hp.put];split<;>rfl
        refine⟨y,w',E',p1,(p2.left (OC.put hl).symm).right al,J6 p3' hwf ?_ ?_,?_⟩
        ·rw [ZR,aC5,aC5,bF (mF _),hds,hes,hnl]
        ·intro us' hus;obtain⟨a1,a2,rfl,b1,b2⟩:=hus.split;rw [ZR];exact b1.append (g.vr E' w'.heap a2 _ hρ b2)
        ·simp only [VR] at p4 ⊢;obtain⟨q1,a',cap',q2,q3,q4⟩:=p4;refine⟨q1,k+m,a',cap',?_,q2,q3,?_⟩
         ·rw [bD,hl1,aC5,hds,hk]
         ·rw [hes]; exact q4
       ·simp at hb
      ·simp at hb
     ·simp at hb
    ·simp at hb
   ·simp at hb
  ·simp at hb
 ·split at hb
  ·simp only [aCJ,aCK] at hb;obtain⟨rfl,rfl,rfl⟩:=hb;simp only [VR] at hx;exact fresh0 none hx rfl (by simp only [SE.den,aA,D.l])
  ·simp at hb
 ·split at hb
  ·simp only [aCJ,aCK] at hb;obtain⟨rfl,rfl,rfl⟩:=hb;simp only [VR] at hx;obtain⟨x,hx⟩:=hx;exact fresh0 x hx rfl (by simp only [SE.den,aA,D.l])
  ·simp at hb
 ·split at hb
  ·simp only [aCJ,aCK] at hb;obtain⟨rfl,rfl,rfl⟩:=hb;simp only [VR] at hx;obtain⟨⟨x,hx⟩,_⟩:=hx;exact fresh0 x hx rfl (by simp only [SE.den,aA,D.l])
  ·simp at hb
 ·split at hb
  ·split at hb
   ·split at hb
    ·split at hb
     ·simp only [aCJ,aCK] at hb;obtain⟨rfl,rfl,rfl⟩:=hb;simp only [VR] at hx;obtain⟨_,a,cap,rfl,_,hc⟩:=hx;simp only [eX] at hc;obtain⟨rfl,_⟩:=hc;exact fresh0 (some a) rfl rfl (by simp only [SE.den,aA,D.l])
     ·simp at hb
    ·simp at hb
   ·simp at hb
  ·simp at hb
 ·simp at hb
end
noncomputable def Rl (e:Nat) (own:Option Nat) (x:AV) (h:Hp):Option (SE×Nat×List (SE×List AV)×Hp):=match x with
 | .qO id n t=>match h.get id with
   |some o=>match o with
    | .vec e0 t0 ty ov=>match Nat.beq t t0 with
     |true=>match Nat.beq ty e with
      |true=>match fD n (dH e0) with
       |true=>some (e0,t,ov,h.drop id)
       |false=>none
      |false=>none
     |false=>none
    |_=>none
   |none=>none
 | .aQ=>match own with
   |some t=>some (.dat (.i 0),t,[],h)
   |none=>none
 | .emp=>match own with
   |some t=>some (.dat (.i 0),t,[],h)
   |none=>none
 | .Ec _ _=>match own with
   |some t=>some (.dat (.i 0),t,[],h)
   |none=>none
 | .slice _ _ n c=>match n with
   |0=>match c with
    | .exact k=>match k with
      |0=>match own with
       |some t=>some (.dat (.i 0),t,[],h)
       |none=>none
      |_=>none
    |_=>none
   |_=>none
 |_=>none
section
variable {P:Program} {E:En} {w:World}
structure Y2 (ρ:Nat->Int) (r:Row) (e0 e1:SE) (ov0 ov1:List (SE×List AV)) (ds:List D) (news:List AV):Prop where
 l:(dec (e1.den ρ)).l=(dec (e0.den ρ)).l++ds
 wf:dec (e1.den ρ)=dL (dec (e1.den ρ)).l
 rows: ∀d∈ds,vT r d
 vr: ∀(E':En) (h:Array Obj) (us0 us:List Value),E'.ρ=ρ->bC E' h (aF ρ r ov0 (dec (e0.den ρ)).l 0) us0->bC E' h news us->bC E' h (aF ρ r ov1 (dec (e1.den ρ)).l 0) (us0++us)
theorem Vw [Glob] {E':En} {H0:Hp} {w':World} {cells:List AV} {e:TypeId} {e1:SE} {t:Nat} {ov:List (SE×List AV)} (r:aO E' (H0.new (.cells cells e)) w') (ho:yZ (rowOf t) ov) (hwf:yO (rowOf t) (dec (e1.den E'.ρ))) (hl:(bH E'.ρ e1 t ov).length=cells.length)
 (hv: ∀us,bC E' w'.heap cells us->bC E' w'.heap (bH E'.ρ e1 t ov) us):aO E' (H0.new (.vec e1 t e ov)) w':=by
 have hg:(H0.new (.cells cells e)).get H0.fresh=some (.cells cells e):=by rw [Hp.iE,aCL rfl]
 refine r.swap hg (OR.tV.2 ⟨⟨ho,hwf⟩,OR.congr (r.live _ _ hg).2.1 hl hv⟩) (by rw [Hp.iE,aCL rfl]) (fun j hj=>by rw [Hp.iE,aCI hj,Hp.iE,aCI hj]) ?_ ?_
 all_goals grind [Hp.new]
set_option maxHeartbeats 800000 in
theorem JC [Glob] {t t2 ty:Nat} {H h0:Hp} (r:aO E H w) {ie:TI} {e m:Nat} {own:Option Nat} {news:List AV} {x:AV} {d2:TypeDesc} {u u2:Value} {us:Array Value} (hte:qN P e ie)
 (ht:P.underlying t=some (.slice e)) (ht2:P.underlying t2=some d2) (hd2: ∀k,d2≠.int k) (hs0:ie.size≠0) (hb0:ie.bytes≠0) (hzl:ie.zero.length=ie.size) (hb4:ie.bytes<=400)
 (src:Src P E w ie.size m news u2 us) (hm:0<m) (hx:VR E w.heap x u) {e0 e1:SE} {t':Nat} {ov0 ov1:List (SE×List AV)} (hb:Rl e own x H=some (e0,t',ov0,h0)) (hes:(rowOf t').es=ie.size) {ds:List D} (g:Y2 E.ρ (rowOf t') e0 e1 ov0 ov1 ds news) (hds:ds.length=m)
 (hov:yZ (rowOf t') ov1) (hlim:((dec (e0.den E.ρ)).l.length+m)*ie.bytes<=140737488355328) :
 ∃y w' E',(Builtin.append_ #[t,t2] ty #[u,u2]).run P w= .ok y w'/\Stp E H w E' (h0.new (.vec e1 t' e ov1)) w'/\aO E' (h0.new (.vec e1 t' e ov1)) w'/\VR E' w'.heap (.qO h0.fresh (dH e1) t') y:=by
 have hbound: ∀k,k<=(dec (e0.den E.ρ)).l.length->(k+m)*ie.bytes<=140737488355328:=by intro k hk;exact aDb (aDH _ (by omega)) hlim
 have hnl:news.length=m*ie.size:=by have h1:=src.vrs.length;have h2:=src.size;simp only [aC9] at h1;omega
 have fresh0: ∀(a:Option Addr),u= .slice a 0 0->h0=H->(dec (e0.den E.ρ)).l= []->
  ∃y w' E',(Builtin.append_ #[t,t2] ty #[u,u2]).run P w= .ok y w'/\Stp E H w E' (h0.new (.vec e1 t' e ov1)) w'/\aO E' (h0.new (.vec e1 t' e ov1)) w'/\VR E' w'.heap (.qO h0.fresh (dH e1) t') y:=by
  intro a hu he hnil;subst hu he
  have hgl:qZ ie e 0 m news h0=some (.slice h0.fresh 0 (0+m) (.rest ie.size),h0.new (.cells news e)):=by unfold qZ;rw [aCL (hbound 0 (by omega))]
  obtain⟨y,w',E',p1,p2,p3,p4⟩:=uP (t:=t) (t2:=t2) (ty:=ty) (cap:=0) r hte ht ht2 hd2 hb0 hzl src (by omega) a (old:=[]) (olds:=#[]) (cs:=news) (by simp) (by simp [bC]) (by simp) (by simp)
   (fun w2 _=>by
    cases a with
    |none=>simp [Builtin.firstCells]
    |some a=>simp only [Builtin.firstCells,aDm]; rfl) hgl
  have hρ:=p2.ρ;have hl1:(dec (e1.den E'.ρ)).l=ds:=by rw [hρ,g.l,hnil,aC2]
  have hwf:yO (rowOf t') (dec (e1.den E'.ρ)):=by refine⟨by rw [hρ]; exact g.wf,fun d hd=>?_,by rw [hl1]; intro q; rw [q] at hds; simp at hds; omega⟩;rw [hl1] at hd;exact g.rows d hd
  refine⟨y,w',E',p1,p2.right (Dk rfl rfl fun _=>rfl),Vw p3 hov hwf ?_ ?_,?_⟩
  ·unfold bH;rw [bF hov,hl1,hds,hes,hnl]
  ·intro us' hus;unfold bH;rw [hρ];have:=g.vr E' w'.heap [] us' hρ (by rw [hnil]; simp [aF,bC]) hus;simpa using this
  ·simp only [VR] at p4 ⊢;obtain⟨q1,a',cap',q2,q3,q4⟩:=p4;refine⟨q1,0+m,a',cap',?_,q2,q3,?_⟩
   ·rw [bD,hl1,hds,aCR]
   ·rw [hes]; exact q4
 unfold Rl at hb;split at hb
 ·rename_i id n t0;split at hb
  ·rename_i o hl;split at hb
   ·rename_i GR t00 yQ ov
    ·split at hb
     ·rename_i ht0;split at hb
      ·rename_i hty;split at hb
       ·rename_i hn;simp only [aCJ,aCK] at hb;obtain⟨rfl,rfl,rfl,rfl⟩:=hb;have ht0:=aCO ht0;have hty:=aCO hty;have hn:=bI _ _ hn;subst ht0 hty hn;obtain⟨r2,aAh,auZ⟩:=r.tV hl;simp only [VR] at hx;obtain⟨hid,k,a,cap,hk,rfl,hkc,hcap⟩:=hx;rw [bD] at hk;have hk:k=(dec (GR.den E.ρ)).l.length:=by omega
        have hx2:VR E w.heap (.slice id 0 k (.rest ie.size)) (.slice (some a) k cap):=by simp only [VR];exact⟨hid,a,cap,rfl,hkc,by rw [<- hes]; exact hcap⟩
        have hcl:(bH E.ρ GR t0 ov).length=k*ie.size:=by unfold bH;rw [bF aAh,hes,hk]
        have aAi:0<m*ie.size:=aEb hm (by omega)
        have happ:vS ie yQ m news (.slice id 0 k (.rest ie.size)) (H.put id (.cells (bH E.ρ GR t0 ov) yQ)) =
         some (.slice H.fresh 0 (k+m) (.rest ie.size),((H.put id (.cells (bH E.ρ GR t0 ov) yQ)).drop id).new (.cells (bH E.ρ GR t0 ov++news) yQ)):=by
         unfold vS;simp only [if_true];rw [Hp.get_put,aCL rfl];simp only;rw [aCI (by rw [hcl,aDs]; omega),aCL ⟨by omega,trivial⟩];simp only [eF];unfold qZ;rw [aCL (hbound k (by omega))];rfl
        obtain⟨y,w',E',p1,p2,p3,p4⟩:=Cm (t:=t) (t2:=t2) (ty:=ty) r2 hte ht ht2 hd2 hs0 hb0 hzl src hx2 happ;have hρ:=p2.ρ;have hl1:(dec (e1.den E'.ρ)).l=(dec (GR.den E.ρ)).l++ds:=by rw [hρ,g.l]
        have hwf:yO (rowOf t0) (dec (e1.den E'.ρ)):=by
         refine⟨by rw [hρ]; exact g.wf,fun d hd=>?_,by rw [hl1]; intro q; have:=congrArg List.length q; simp at this; rw [this.2] at hds; simp at hds; omega⟩;rw [hl1] at hd;rcases aDp.1 hd with hd|hd
         ·exact auZ.2.1 d hd
         ·exact g.rows d hd
        have hdrop: ∀j,(((H.put id (.cells (bH E.ρ GR t0 ov) yQ)).drop id).get j)=(H.drop id).get j:=by
         intro j;rw [Hp.mM,Hp.mM];split
         ·rfl
         ·rename_i hne;rw [Hp.get_put,aCI hne]
        have al:OC (((H.put id (.cells (bH E.ρ GR t0 ov) yQ)).drop id).new (.cells (bH E.ρ GR t0 ov++news) yQ)) ((H.drop id).new (.vec e1 t0 yQ ov1)):=
         Dk rfl rfl fun j=>by rw [hdrop]
        have p3':aO E' ((H.drop id).new (.cells (bH E.ρ GR t0 ov++news) yQ)) w':=by
         have hg:(((H.put id (.cells (bH E.ρ GR t0 ov) yQ)).drop id).new (.cells (bH E.ρ GR t0 ov++news) yQ)).get H.fresh=some (.cells (bH E.ρ GR t0 ov++news) yQ):=by rw [Hp.iE];exact aCL rfl
         refine p3.swap hg (p3.live _ _ hg).2.1 (by rw [Hp.iE]; exact aCL rfl) (fun j hj=>?_) ?_ ?_
         ·rw [Hp.iE,Hp.iE];show (if j=H.fresh then _ else _)=(if j=H.fresh then _ else _);rw [aCI hj,aCI hj,hdrop]
         ·unfold Hp.new;simp only [Hp.drop,Hp.put];split<;>rfl
         ·unfold Hp.new;simp only [Hp.drop,Hp.put];split<;>rfl
        refine⟨y,w',E',p1,(p2.left (OC.put hl).symm).right al,Vw p3' hov hwf ?_ ?_,?_⟩
        ·unfold bH;rw [bF hov,hl1,aC5,aC5,bF aAh,hds,hes,hnl,aDs]
        ·intro us' hus;obtain⟨a1,a2,rfl,b1,b2⟩:=hus.split;unfold bH at b1 ⊢;rw [hρ];exact g.vr E' w'.heap a1 a2 hρ b1 b2
        ·simp only [VR] at p4 ⊢;obtain⟨q1,a',cap',q2,q3,q4⟩:=p4;refine⟨q1,k+m,a',cap',?_,q2,q3,?_⟩
         ·rw [bD,hl1,aC5,hds,hk]
         ·rw [hes]; exact q4
       ·simp at hb
      ·simp at hb
     ·simp at hb
   ·simp at hb
  ·simp at hb
 ·split at hb
  ·simp only [aCJ,aCK] at hb;obtain⟨rfl,rfl,rfl,rfl⟩:=hb;simp only [VR] at hx;exact fresh0 none hx rfl (by simp only [SE.den,aA,D.l])
  ·simp at hb
 ·split at hb
  ·simp only [aCJ,aCK] at hb;obtain⟨rfl,rfl,rfl,rfl⟩:=hb;simp only [VR] at hx;obtain⟨x,hx⟩:=hx;exact fresh0 x hx rfl (by simp only [SE.den,aA,D.l])
  ·simp at hb
 ·split at hb
  ·simp only [aCJ,aCK] at hb;obtain⟨rfl,rfl,rfl,rfl⟩:=hb;simp only [VR] at hx;obtain⟨⟨x,hx⟩,_⟩:=hx;exact fresh0 x hx rfl (by simp only [SE.den,aA,D.l])
  ·simp at hb
 ·split at hb
  ·split at hb
   ·split at hb
    ·split at hb
     ·simp only [aCJ,aCK] at hb;obtain⟨rfl,rfl,rfl,rfl⟩:=hb;simp only [VR] at hx;obtain⟨_,a,cap,rfl,_,hc⟩:=hx;simp only [eX] at hc;obtain⟨rfl,_⟩:=hc;exact fresh0 (some a) rfl rfl (by simp only [SE.den,aA,D.l])
     ·simp at hb
    ·simp at hb
   ·simp at hb
  ·simp at hb
 ·simp at hb
end
section
variable {ρ:Nat->Int} {r:Row}
theorem vK {p:SE} {cs:List AV}: ∀(ds:List D) (j:Nat),(∀i,j<=i->i<j+ds.length->p.den ρ≠(i:Int))->aF ρ r [(p,cs)] ds j=aF ρ r [] ds j
 |[],_,_=>rfl
 |d::ds,j,h=>by have h0:=h j (aCN _) (by simp only [aCW]; omega);simp only [aF,dM,aCI h0];rw [vK ds (j+1) fun i h1 h2=>h i (by omega) (by simp only [aCW]; omega)]
theorem azV {e0 e1 p:SE} {cs news:List AV} {ds:List D} (g:Grown ρ r e0 e1 ds news) (hp:p.den ρ<((dec (e0.den ρ)).l.length:Int)):Y2 ρ r e0 e1 [(p,cs)] [(p,cs)] ds news:=by refine⟨g.l,g.wf,g.rows,fun E' h us0 us hρ h0 h1=>?_⟩;rw [g.l,oM];refine h0.append ?_;rw [vK ds _ fun i h1 _=>by omega];exact g.vr E' h us _ hρ h1
theorem axX {e0 e1 p:SE} {news zs:List AV} {d:D} (g:Grown ρ r e0 e1 [d] zs) (hp:p.den ρ=((dec (e0.den ρ)).l.length:Int)):Y2 ρ r e0 e1 [] [(p,news)] [d] news:=by
 refine⟨g.l,g.wf,g.rows,fun E' h us0 us hρ h0 h1=>?_⟩;rw [g.l,oM,vK _ _ fun i _ h2=>by omega];refine h0.append ?_;simp only [aF,dM,aCR]
 grind
theorem axG {e:Nat} {own:Option Nat} {x:AV} {h h0:Hp} {e0:SE} {t:Nat} (hb:vO e own x h=some (e0,t,h0)):Rl e own x h=some (e0,t,[],h0):=by
 unfold vO at hb;unfold Rl
 repeat' split at hb
 all_goals first
  |(simp at hb; done)
  |(simp only [aCJ,aCK] at hb; obtain⟨rfl,rfl,rfl⟩:=hb; simp_all)
theorem aBK {e:Nat} {own:Option Nat} {x:AV} {h h0:Hp} {e0 p:SE} {cs:List AV} {t:Nat} (hb:Ig e x h=some (e0,t,p,cs,h0)):Rl e own x h=some (e0,t,[(p,cs)],h0):=by
 unfold Ig at hb;unfold Rl
 repeat' split at hb
 all_goals first
  |(simp at hb; done)
  |(simp only [aCJ,aCK] at hb; obtain⟨rfl,rfl,rfl,rfl,rfl⟩:=hb; simp_all)
end
section
variable {P:Program} {E:En} {w:World}
theorem Src.frz {E1:En} {s m:Nat} {news news':List AV} {u:Value} {us:Array Value} (src:Src P E w s m news u us) (h:bC E1 w.heap news' us.toList):Src P E1 w s m news' u us:=
 ⟨src.len,src.first,h,src.size,src.ones⟩
theorem room_le {bytes n m:Nat} (hb0:bytes≠0) (hb4:bytes<=400) (hm:(m:Int)<roomOf bytes 1000000) (hn:n<1000000):(n+m)*bytes<=140737488355328:=by
 have hm':(m:Int)<((140737488355328 / bytes-1000000:Nat):Int):=hm;have h1:m<140737488355328 / bytes-1000000:=by omega
 have h2:n+m<=140737488355328 / bytes:=by omega
 exact aDb (aDH _ h2) (aEM _ _)
theorem afY {bytes m:Nat} (hm:(m:Int)<roomOf bytes 0):(([]:List D).length+m)*bytes<=140737488355328:=by
 have hm':(m:Int)<((140737488355328 / bytes-0:Nat):Int):=hm;have h2:([]:List D).length+m<=140737488355328 / bytes:=by simp only [aC3]; omega
 exact aDb (aDH _ h2) (aEM _ _)
theorem Le {bytes n m:Nat} (hn:(n:Int)<roomOf bytes (m+1)) {k:Nat} (hk:k=m+1):(n+k)*bytes<=140737488355328:=by
 have hn':(n:Int)<((140737488355328 / bytes-(m+1):Nat):Int):=hn;have h2:n+k<=140737488355328 / bytes:=by omega
 exact aDb (aDH _ h2) (aEM _ _)
theorem vM {ρ:Nat->Int} {r:Row} {m:Nat} {e e1:SE} {news:List AV} (h:mQ r e m news=some e1) (hw:dec (e.den ρ)=dL (dec (e.den ρ)).l): ∃ds,ds.length=m/\Grown ρ r e e1 ds news:=by obtain⟨ds,h1,h2,h3,h4,h5⟩:=wP (ρ:=ρ) m h;exact⟨ds,h1,h2,h3 hw,h4,h5⟩
theorem UE [Glob] {H h0:Hp} (r:aO E H w) {e:Nat} {own:Option Nat} {x:AV} {e0:SE} {t:Nat} (h:vO e own x H=some (e0,t,h0)):dec (e0.den E.ρ)=dL (dec (e0.den E.ρ)).l:=by
 have hz:dec ((SE.dat (.i 0)).den E.ρ)=dL (dec ((SE.dat (.i 0)).den E.ρ)).l:=by simp only [SE.den,aA]; rfl
 unfold vO at h;split at h
 ·split at h
  ·rename_i o hl;split at h
   ·split at h
    ·split at h
     ·split at h
      ·split at h
       ·simp only [aCJ,aCK] at h;obtain⟨rfl,_⟩:=h;exact (r.tV hl).2.2.1
       grind
      grind
     grind
    grind
   grind
  grind
 all_goals grind
theorem JD [Glob] {t t2 ty:Nat} {ie:TI} {e:Nat} {d2:TypeDesc} {u u2:Value} {us:Array Value} {news:List AV} (hte:qN P e ie) (ht:P.underlying t=some (.slice e)) (ht2:P.underlying t2=some d2) (hd2: ∀k,d2≠.int k)
 (src:Src P E w ie.size 0 news u2 us) (ho: ∃a n cap,u= .slice a n cap/\n<=cap):(Builtin.append_ #[t,t2] ty #[u,u2]).run P w= .ok u w:=by
 obtain⟨inf,d,z,h1,h2,h3,h4,h5,h6,h7,h8⟩:=hte.all;obtain⟨a,n,cap,rfl,hn⟩:=ho;have hus:us.toList= []:=aDq (by rw [aC9,src.size,aDm])
 have:=mV (t:=t) (t2:=t2) (ty:=ty) (n:=n) (cap:=cap) (a:=a) (w':=w) ht ht2 hd2 h1 h5 src (by omega) (by
  cases a with
  |none=>rfl
  |some a=>rw [hus]; rfl)
 grind
theorem abX {x:AV} {u:Value} {H h0:Hp} {e t:Nat} {own:Option Nat} {e0:SE} (hx:VR E w.heap x u) (hb:vO e own x H=some (e0,t,h0)): ∃a n cap,u= .slice a n cap/\n<=cap:=by
 unfold vO at hb;split at hb
 ·simp only [VR] at hx
  grind
 ·simp only [VR] at hx
  grind
 ·simp only [VR] at hx
  grind
 ·simp only [VR] at hx
  grind
 ·simp only [VR] at hx
  grind
 grind
theorem VF {x:AV} {u:Value} {own:Option Nat} (hx:VR E w.heap x u) (hb:ahE own x=true): ∃a n cap,u= .slice a n cap/\n<=cap:=by
 unfold ahE at hb;split at hb
 ·simp only [VR] at hx
  grind
 ·simp only [VR] at hx
  grind
 ·simp only [VR] at hx
  grind
 ·simp only [VR] at hx
  grind
 ·simp only [VR] at hx
  grind
 ·simp only [VR] at hx
  grind
 grind
theorem Ju [Glob] {s s':St} (r:aO E s.h w) (hp:aW E.ρ s.pc) {t t2 ty e m':Nat} {own:Option Nat} {ie:TI} {news:List AV} {x v:AV} {d2:TypeDesc} {u u2:Value} {us:Array Value} (hte:qN P e ie) (hu:P.underlying t=some (.slice e)) (hd2:P.underlying t2=some d2) (BL: ∀k,d2≠.int k)
 (hs0:ie.size≠0) (hb0:ie.bytes≠0) (hzl:ie.zero.length=ie.size) (hb4:ie.bytes<=400) (src:Src P E w ie.size (m'+1) news u2 us) (hx:VR E w.heap x u) (h:(GN e own x ie m' news s).leaf E.ρ=some (v,s')) :
 s'.slots=s.slots/\aW E.ρ s'.pc/\∃z w' E',(Builtin.append_ #[t,t2] ty #[u,u2]).run P w= .ok z w'/\Stp E s.h w E' s'.h w'/\aO E' s'.h w'/\VR E' w'.heap v z:=by
 unfold GN at h;obtain⟨news',h1,pcF,E1,hpF,f,hvs,h⟩:=vC rfl r hp h;split at h
 ·rename_i e0 t' h0 hb;split at h
  ·rename_i hc;obtain⟨hes,hm⟩:=hc;have hρ:=f.ρ;obtain⟨pc1,hp1,h2⟩:=bG (s:={ s with h:=h1,pc:=pcF }) hpF h;split at h2
   ·rename_i t3;rw [dJ,decide_eq_true_eq,bD] at t3;simp only [SE.den] at t3;split at h2
    ·rename_i e1 hcr;have:=aC h2;simp only [aCK] at this;obtain⟨rfl,rfl⟩:=this;obtain⟨ds,hds,g⟩:=vM (ρ:=E1.ρ) hcr (UE f.rel hb);obtain⟨z,w',E',p1,p2,p3,p4⟩:=EY (t:=t) (t2:=t2) (ty:=ty) f.rel hte hu hd2 BL hs0 hb0 hzl hb4 (src.frz (hvs _ src.vrs)) (by omega) (VR.keep (f.dX.keeps r) _ _ hx) hb hes g hds (Le (by rw [hρ]; exact t3) (by omega));exact⟨rfl,hp1,z,w',E',p1,f.dX.trans p2,p3,p4⟩
    grind [T.leaf]
   grind [T.leaf]
  grind [T.leaf]
 grind [T.leaf]
theorem azN [Glob] {H h0:Hp} (r:aO E H w) {e:Nat} {x:AV} {e0 p:SE} {cs:List AV} {t:Nat} (h:Ig e x H=some (e0,t,p,cs,h0)):dec (e0.den E.ρ)=dL (dec (e0.den E.ρ)).l/\yZ (rowOf t) [(p,cs)]:=by
 unfold Ig at h;split at h
 ·split at h
  ·rename_i hl;split at h
   ·split at h
    ·grind
    ·split at h
     ·split at h
      ·rename_i ht;split at h
       ·split at h
        ·simp only [aCJ,aCK] at h;obtain⟨rfl,rfl,rfl,rfl,_⟩:=h;have ht:=aCO ht;subst ht;exact⟨(r.tV hl).2.2.1,(r.tV hl).2.1⟩
        grind
       grind
      grind
     grind
   grind
  grind
 grind
theorem Um [Glob] {s s':St} (r:aO E s.h w) (hp:aW E.ρ s.pc) {t t2 ty e m':Nat} {own:Option Nat} {ie:TI} {news:List AV} {x v:AV} {d2:TypeDesc} {u u2:Value} {us:Array Value} (hte:qN P e ie) (hu:P.underlying t=some (.slice e)) (hd2:P.underlying t2=some d2) (BL: ∀k,d2≠.int k)
 (hs0:ie.size≠0) (hb0:ie.bytes≠0) (hzl:ie.zero.length=ie.size) (hb4:ie.bytes<=400) (src:Src P E w ie.size (m'+1) news u2 us) (hx:VR E w.heap x u) (h:(IK e x ie m' news s).leaf E.ρ=some (v,s')) :
 s'.slots=s.slots/\aW E.ρ s'.pc/\∃z w' E',(Builtin.append_ #[t,t2] ty #[u,u2]).run P w= .ok z w'/\Stp E s.h w E' s'.h w'/\aO E' s'.h w'/\VR E' w'.heap v z:=by
 unfold IK at h;obtain⟨news',h1,pcF,E1,hpF,f,hvs,h⟩:=vC rfl r hp h;split at h
 ·rename_i e0 t' p cs h0 hb;split at h
  ·rename_i hc;obtain⟨hes,hm⟩:=hc;have hρ:=f.ρ;obtain⟨pc1,hp1,h2⟩:=bG (s:={ s with h:=h1,pc:=pcF }) hpF h;split at h2
   ·rename_i t3;rw [dJ,decide_eq_true_eq,bD] at t3;simp only [SE.den] at t3;obtain⟨pc2,hp2,h3⟩:=bG (s:={ s with h:=h1,pc:=pc1 }) hp1 h2;split at h3
    ·rename_i t4;rw [dJ,decide_eq_true_eq,bD] at t4;split at h3
     ·rename_i e1 hcr;have:=aC h3;simp only [aCK] at this;obtain⟨rfl,rfl⟩:=this;obtain⟨hw1,hw2⟩:=azN f.rel hb;obtain⟨ds,hds,g⟩:=vM (ρ:=E1.ρ) hcr hw1;obtain⟨z,w',E',p1,p2,p3,p4⟩:=JC (t:=t) (t2:=t2) (ty:=ty) f.rel hte hu hd2 BL hs0 hb0 hzl hb4 (src.frz (hvs _ src.vrs)) (by omega) (VR.keep (f.dX.keeps r) _ _ hx) (aBK (own:=own) hb) hes (azV g (by rw [hρ]; exact t4)) hds hw2 (Le (by rw [hρ]; exact t3) (by omega));exact⟨rfl,hp2,z,w',E',p1,f.dX.trans p2,p3,p4⟩
     grind [T.leaf]
    grind [T.leaf]
   grind [T.leaf]
  grind [T.leaf]
 grind [T.leaf]
theorem Ul [Glob] {s s':St} (r:aO E s.h w) (hp:aW E.ρ s.pc) {t t2 ty e m':Nat} {own:Option Nat} {ie:TI} {news:List AV} {x v:AV} {d2:TypeDesc} {u u2:Value} {us:Array Value} (hte:qN P e ie) (hu:P.underlying t=some (.slice e)) (hd2:P.underlying t2=some d2) (BL: ∀k,d2≠.int k)
 (hs0:ie.size≠0) (hb0:ie.bytes≠0) (hzl:ie.zero.length=ie.size) (hb4:ie.bytes<=400) (src:Src P E w ie.size (m'+1) news u2 us) (hx:VR E w.heap x u) (h:(IJ e own x ie m' news s).leaf E.ρ=some (v,s')) :
 s'.slots=s.slots/\aW E.ρ s'.pc/\∃z w' E',(Builtin.append_ #[t,t2] ty #[u,u2]).run P w= .ok z w'/\Stp E s.h w E' s'.h w'/\aO E' s'.h w'/\VR E' w'.heap v z:=by
 unfold IJ at h;split at h
 ·rename_i e0 t' h0 hb;split at h
  ·rename_i hc;obtain⟨hes,rfl⟩:=hc;obtain⟨pc1,hp1,h2⟩:=bG hp h;split at h2
   ·rename_i t3;obtain⟨pc2,hp2,h3⟩:=bG (s:={ s with pc:=pc1 }) hp1 h2;split at h3
    ·rename_i t4;rw [dJ,decide_eq_true_eq,bD] at t4;simp only [SE.den] at t4;split at h3
     ·rename_i e1 hcr;have:=aC h3;simp only [aCK] at this;obtain⟨rfl,rfl⟩:=this;obtain⟨ds,hds,g⟩:=vM (ρ:=E.ρ) hcr (UE r hb)
      obtain⟨d,rfl⟩ : ∃d,ds= [d]:=by
       cases ds with
       |nil=>simp at hds
       |cons d l=>cases l with
        |nil=>exact⟨d,rfl⟩
        |cons a b=>simp at hds
      have hnl:news.length=(rowOf t').es:=by
       have h1:=src.vrs.length;have h2:=src.size
       grind
      obtain⟨z,w',E',p1,p2,p3,p4⟩:=JC (t:=t) (t2:=t2) (ty:=ty) r hte hu hd2 BL hs0 hb0 hzl hb4 src (by omega) hx (axG hb) hes (axX (p:=.aK 0) g (by rw [jE,bD] at t3; simp only [beq_iff_eq] at t3; exact t3.symm)) hds (fun q hq=>by simp only [List.mem_singleton] at hq; subst hq; exact hnl) (Le t4 (by omega))
      grind
     grind [T.leaf]
    grind [T.leaf]
   ·obtain⟨q1,q2,q3⟩:=Ju (s:={ s with pc:=pc1 }) r hp1 (ty:=ty) hte hu hd2 BL hs0 hb0 hzl hb4 src hx h2
    grind
  grind [T.leaf]
 grind [T.leaf]
set_option maxHeartbeats 800000 in
theorem Uk [Glob] {tt:TT} (htt:dU P tt) {s s':St} (r:aO E s.h w) (hp:aW E.ρ s.pc) {t t2 ty:Nat} {x y v:AV} {u u2:Value} (hx:VR E w.heap x u) (hy:VR E w.heap y u2) (hsl:arC y=false->∃a n cap,u= .slice a n cap/\n<=cap) (h:(II tt t t2 x y s).leaf E.ρ=some (v,s')) :
 s'.slots=s.slots/\aW E.ρ s'.pc/\∃z w' E',(Builtin.append_ #[t,t2] ty #[u,u2]).run P w= .ok z w'/\Stp E s.h w E' s'.h w'/\aO E' s'.h w'/\VR E' w'.heap v z:=by
 unfold II at h;split at h
 ·rename_i ti hti;split at h
  ·rename_i e hk;split at h
   ·rename_i ie hie;split at h
    ·simp [T.leaf] at h
    ·rename_i ti2 ahN;obtain⟨d2,hd2,hk2⟩:=yG (htt t2 ti2 ahN);split at h
     ·simp [T.leaf] at h
     ·rename_i k2 hne
      have BL: ∀k,d2≠.int k:=by intro k hd;subst hd;cases hkk:ti2.kind<;>rw [hkk] at hk2<;>simp only [Rw] at hk2;exact hne _ hkk
      split at h
      ·simp [T.leaf] at h
      ·rename_i hcond;simp only [not_or,Classical.not_not] at hcond;obtain⟨hs0,hb0,hzl,hb4⟩:=hcond;have hte:=htt e ie hie;have hu:=fH (htt t ti hti) hk;split at h
       ·
        rename_i e2 ty2;split at h
        ·rename_i e0 t' h0 hb;split at h
         ·rename_i hc;obtain⟨hes,hrow⟩:=hc;obtain⟨pc1,hp1,h1⟩:=bG hp h;rw [jP,bD] at h1;simp only [VR] at hy;obtain⟨xa,cap2,hu2,_⟩:=hy.slice;split at h1
          ·rename_i hz;simp only [SE.den,beq_iff_eq] at hz;have:=aC h1;simp only [aCK] at this;obtain⟨rfl,rfl⟩:=this;have hz':(dec (e2.den E.ρ)).l.length=0:=by omega
           rw [hz'] at hu2;subst hu2
           have src:Src P E w ie.size 0 [] (.slice xa 0 cap2) #[]:=⟨fun _=>rfl,fun w2 _=>by
            cases xa with
            |none=>simp [Builtin.firstCells]
            |some a=>simp only [Builtin.firstCells,aDm]; rfl,by simp [bC],by simp,by simp⟩
           exact⟨rfl,hp1,u,w,E,JD hte hu hd2 BL src (abX hx hb),Stp.refl _ _ _,r,hx⟩
          ·rename_i hz;simp only [SE.den,beq_eq_false_iff_ne,ne_eq] at hz;obtain⟨pc2,hp2,h2⟩:=bG (s:={ s with pc:=pc1 }) hp1 h1;split at h2
           ·rename_i t2';obtain⟨pc3,hp3,h3⟩:=bG (s:={ s with pc:=pc2 }) hp2 h2;split at h3
            ·rename_i t3;rw [dJ,decide_eq_true_eq,bD] at t2' t3;simp only [SE.den] at t2' t3;have hne':(dec (e2.den E.ρ)).l≠[]:=by intro q; rw [q] at hz; simp at hz
             obtain⟨us,src⟩:=apL (P:=P) (w:=w) hy hne';rw [hrow] at src;rw [hes] at src
             have hpos:0<(dec (e2.den E.ρ)).l.length:=by
              rcases aDO (dec (e2.den E.ρ)).l.length with q|q
              ·omega
              ·exact q
             have auY:dec (e2.den E.ρ)=dL (dec (e2.den E.ρ)).l/\∀d∈(dec (e2.den E.ρ)).l,vT (rowOf ty2) d:=by
              have key: ∀{d:D} {v:Value},Rd E.ro w.heap (.sl ty2) d v->d.l≠[]->d=dL d.l/\∀x∈d.l,vT (rowOf ty2) x:=by
               intro d v hr hne
               have akP: ∀{c:CK} {d:D} {v:Value},Rd E.ro w.heap c d v->vU c d:=by
                intro c d v hr
                cases hr with
                |int k n=>rfl
                |bool b=>cases b<;>simp [vU]
                |str s=>trivial
                |nil t=>trivial
                |non t a cap=>trivial
                |one t c b o cap ds f hr hc hb h1 h2=>trivial
                |many t cs b o cap rows f hr hc hb hl h1 h2=>trivial
               generalize hc:CK.sl ty2=c at hr
               cases hr with
               |int k n=>simp at hc
               |bool b=>simp at hc
               |str s=>simp at hc
               |nil t=>exact absurd rfl hne
               |non t a cap=>exact absurd rfl hne
               |one t c b o cap ds f hr hcp hb h1 h2=> simp only [CK.sl.injEq] at hc;subst hc;refine⟨by rw [aY],fun x hx=>?_⟩;rw [aY] at hx;obtain⟨i,hi⟩:=aD4.1 hx;rw [hr];exact akP (h2 i x hi)
               |many t cs b o cap rows f hr hcp hb hl h1 h2=> simp only [CK.sl.injEq] at hc;subst hc;refine⟨by rw [aY],fun x hx=>?_⟩;rw [aY,aC4] at hx;obtain⟨row,hrm,rfl⟩:=hx;obtain⟨i,hi⟩:=aD4.1 hrm;rw [hr];refine⟨by rw [aY],by rw [aY]; exact hl row hrm,fun j c y hj hy=>?_⟩;rw [aY] at hy;exact akP (h2 i row j y c hi hy hj)
              exact key hy hne'
             rw [hrow] at auY
             have grown: ∀e1:SE,(dec (e1.den E.ρ)).l=(dec (e0.den E.ρ)).l++(dec (e2.den E.ρ)).l->dec (e1.den E.ρ)=dL (dec (e1.den E.ρ)).l->Grown E.ρ (rowOf t') e0 e1 (dec (e2.den E.ρ)).l (aF E.ρ (rowOf t') [] (dec (e2.den E.ρ)).l 0):=by
              intro e1 q1 q2;refine⟨q1,q2,auY.2,fun E' h us j hρ hv=>?_⟩
              have:aF E.ρ (rowOf t') [] (dec (e2.den E.ρ)).l j=aF E.ρ (rowOf t') [] (dec (e2.den E.ρ)).l 0:=by
               generalize (dec (e2.den E.ρ)).l=L;clear hv q1 q2
               have gen: ∀(L:List D) (a b:Nat),aF E.ρ (rowOf t') [] L a=aF E.ρ (rowOf t') [] L b:=by
                intro L
                induction L with
                |nil=>intro a b; rfl
                |cons d L ih=>intro a b; simp only [aF,dM]; rw [ih (a+1) (b+1)]
               exact gen L j 0
              rw [this];exact hv
             have hbw:=UE r hb;split at h3
             ·rename_i hnil
              have aAp:(dec (e0.den E.ρ)).l= []:=by
               unfold X3 at hnil;split at hnil
               ·split at hnil
                ·simp only [SE.den,aA,D.l]
                ·simp at hnil
               ·simp at hnil
              have:=aC h3;simp only [aCK] at this;obtain⟨rfl,rfl⟩:=this;obtain⟨z,w',E',p1,p2,p3,p4⟩:=EY (t:=t) (t2:=t2) (ty:=ty) r hte hu hd2 BL hs0 hb0 hzl hb4 src hpos hx hb hes (grown e2 (by rw [aAp,aC2]) auY.1) rfl (by rw [aAp]; refine afY (bytes:=ie.bytes) ?_; have q:=t2'; unfold afZ at q; rw [hnil] at q; exact q);exact⟨rfl,hp3,z,w',E',p1,p2,p3,p4⟩
             ·rename_i hnil;have:=aC h3;simp only [aCK] at this;obtain⟨rfl,rfl⟩:=this;obtain⟨z,w',E',p1,p2,p3,p4⟩:=EY (t:=t) (t2:=t2) (ty:=ty) r hte hu hd2 BL hs0 hb0 hzl hb4 src hpos hx hb hes (grown (.op .cat e0 e2) (by simp only [SE.den,gB.den,aA,aY]) (by simp only [SE.den,gB.den,aA,aY])) rfl (room_le hb0 hb4 (by have q:=t2'; unfold afZ at q; rw [hnil] at q; exact q) (by omega));exact⟨rfl,hp3,z,w',E',p1,p2,p3,p4⟩
            ·simp [T.leaf] at h3
           ·simp [T.leaf] at h2
         ·simp [T.leaf] at h
        ·simp [T.leaf] at h
       ·
        split at h
        ·rename_i m news hsrc;obtain⟨us,src⟩:=wE (P:=P) r hy hsrc;split at h
         ·have:=aC h;simp only [aCK] at this;obtain⟨rfl,rfl⟩:=this
          exact⟨rfl,hp,u,w,E,JD hte hu hd2 BL src (hsl (by
           cases y<;>first |rfl|(rename_i hnd _ _ _; exact absurd rfl (hnd _ _))|(rename_i hnd; exact absurd rfl (hnd _ _)))),Stp.refl _ _ _,r,hx⟩
         ·rename_i m';split at h
          ·exact Um (own:=ti.own) r hp hte hu hd2 BL hs0 hb0 hzl hb4 src hx h
          ·split at h
           ·exact Ul r hp hte hu hd2 BL hs0 hb0 hzl hb4 src hx h
           ·exact Ju r hp hte hu hd2 BL hs0 hb0 hzl hb4 src hx h
        ·simp [T.leaf] at h
   ·simp [T.leaf] at h
  ·simp [T.leaf] at h
 ·simp [T.leaf] at h
end
section
variable {P:Program} {E:En} {w:World}
theorem Y6 {h:Array Obj} {id t:Nat} {n:SE} {u:Value} (hv:VR E h (.qO id n t) u):VR E h (.AL id (.lit 0) n t) u:=by simp only [VR] at hv ⊢;obtain⟨h1,k,a,cap,h2,h3,h4,h5⟩:=hv;exact⟨h1,0,k,a,cap,rfl,h2,h3,h4,by rw [aDm]; exact h5⟩
theorem Yd {tt:TT} (htt:dU P tt) {s s':St} (hp:aW E.ρ s.pc) {ty t id:Nat} {lo n:SE} {ix v:AV} {u ui:Value} (hx:VR E w.heap (.AL id lo n t) u) (hix:VR E w.heap ix ui) (h:(TM tt s ty id t lo n ix).leaf E.ρ=some (v,s')) :
 s'.slots=s.slots/\s'.h=s.h/\aW E.ρ s'.pc/\∃r,(Instr.indexAt ty u ui).run P w= .ok r w/\VR E w.heap v r:=by
 unfold TM at h;split at h
 ·rename_i kd i;split at h
  ·rename_i z hz;split at h
   ·rename_i hes;obtain⟨pc',hp',h1,h2,h3⟩:=rM hp h;have:=aC h3;simp only [aCK] at this;obtain⟨rfl,rfl⟩:=this;refine⟨rfl,rfl,hp',?_⟩;simp only [VR] at hx hix;subst hix;obtain⟨hid,l,m,a,cap,hl,hn,rfl,hcap,hc⟩:=hx;obtain⟨el,ie,hu,hie,rfl⟩:=rD htt hz;obtain⟨k,hk⟩ : ∃k:Nat,i.den E.ρ=(k:Int):=⟨(i.den E.ρ).toNat,by omega⟩;have hlt:k<m:=by omega
    have ha:a=⟨(E.θ id).1,(E.θ id).2+l*ie.size,none⟩:=by
     simp only [eX] at hc
     grind
    subst ha;refine⟨.pointer (some ⟨(E.θ id).1,(E.θ id).2+l*ie.size+k*ie.size,none⟩),?_,?_⟩
    ·rw [hk];simp [Instr.indexAt,asIntOf,run_underlying hu,dS (htt el ie hie),hlt,fE]
    ·simp only [VR];exact⟨hid,l+k,by rw [uT,hl,hk]; rfl,by rw [aDf,aDs,aDl]⟩
   ·simp [T.leaf] at h
  ·simp [T.leaf] at h
 ·simp [T.leaf] at h
theorem agZ {lo:Option AV} {lo':Option Value} {l:SE} {n:Nat} (h:loE lo=some l) (hlo:iK E w.heap lo lo') (hn:l.den E.ρ=(n:Int)) :
 ∃lo2,iK E w.heap lo2 lo'/\∀y,n<=y->bnd lo2 0 y=some n:=by
 unfold loE at h;split at h
 ·simp only [aCJ] at h;subst h;simp only [SE.den] at hn
  grind [bnd]
 ·split at h
  ·rename_i v k q;simp only [aCJ] at h;subst h;obtain⟨y,rfl,hy⟩:=hlo;refine⟨some (.int k (.lit (Int.ofNat n))),⟨y,rfl,?_⟩,fun y hy=>by simp [bnd,mJ,hy]⟩;simp only [VR,SE.den] at hy ⊢
   grind
  grind
theorem Ko {k:IntKind} {q:SE} {n:Nat} {o:Option Value} (hq:q.den E.ρ=(n:Int)) (ho:iK E w.heap (some (.int k q)) o):iK E w.heap (some (.int k (.lit (Int.ofNat n)))) o:=by
 obtain⟨y,rfl,hy⟩:=ho;refine⟨y,rfl,?_⟩;simp only [VR,SE.den] at hy ⊢
 grind
theorem KG {k:IntKind} {n d y:Nat} (hn:n<=y):bnd (some (.int k (.lit (Int.ofNat n)))) d y=some n:=by simp [bnd,mJ,hn]
theorem MX [Glob] {tt:TT} (htt:dU P tt) {s s':St} (r:aO E s.h w) (hp:aW E.ρ s.pc) {ty id t:Nat} {lo0 n0:SE} {lo hi mx:Option AV} {lo' hi' mx':Option Value} {v:AV} {u:Value} (hx:VR E w.heap (.AL id lo0 n0 t) u)
 (hlo:iK E w.heap lo lo') (hhi:iK E w.heap hi hi') (hmx:iK E w.heap mx mx') (h:(Kw tt s ty id t lo0 n0 lo hi mx).leaf E.ρ=some (v,s')) :
 s'.slots=s.slots/\s'.h=s.h/\aW E.ρ s'.pc/\∃r,(Instr.sliceAt ty u lo' hi' mx').run P w= .ok r w/\VR E w.heap v r:=by
 unfold Kw at h;split at h
 ·simp [T.leaf] at h
 ·rename_i z hz;split at h
  ·rename_i hcond;obtain⟨hes,hz0⟩:=hcond;obtain⟨el,ie,hu,hie,rfl⟩:=rD htt hz;have hsz:=dS (htt el ie hie);simp only [VR] at hx;obtain⟨hid,l0,m0,a,cap,g1,g2,rfl,hcap,hc⟩:=hx
   have fin: ∀(l k:Nat) (e1 e2:SE),(Instr.sliceBounds true m0 cap lo' hi' none).run P w= .ok (l,k,cap) w->l<=k->k<=cap->e1.den E.ρ=(l:Int)->e2.den E.ρ=(k:Int)->
    ∃r,(Instr.sliceAt ty (.slice (some a) m0 cap) lo' hi' none).run P w= .ok r w/\VR E w.heap (.AL id (yN lo0 e1) (KU e2 e1) t) r:=by
    intro l k e1 e2 hb hlk hk he1 he2;refine⟨.slice (some (if cap=l then a else a.add (l*ie.size))) (k-l) (cap-l),?_,?_⟩
    ·simp [Instr.sliceAt,run_underlying hu,Instr.slice,hb,hsz]<;>split<;>rfl
    ·simp only [VR];refine⟨hid,l0+l,k-l,_,_,by rw [uT,g1,he1]; rfl,by rw [abA,he1,he2]; omega,rfl,by omega,?_⟩;rw [aDs];have q:=vN (l:=l) (h:=k) (m:=cap) (es:=(rowOf t).es) hc hcap hlk hk (aCN _) (.inr (.inr ⟨rfl,rfl,rfl⟩)) (rowOf t).es (fun _=>rfl);rw [hes];exact q
   split at h
   ·simp [T.leaf] at h
   ·rename_i ql hql;obtain⟨pc1,hp1,h1⟩:=bG hp h;split at h1
    ·simp [T.leaf] at h1
    ·rename_i t1;rw [dJ,decide_eq_false_iff_not] at t1;simp only [SE.den,aDN] at t1;obtain⟨l,hl⟩ : ∃l:Nat,ql.den E.ρ=(l:Int):=⟨(ql.den E.ρ).toNat,by omega⟩;obtain⟨lo2,hlo2,hbl⟩:=agZ hql hlo hl;split at h1
     ·
      simp only [iK] at hhi;subst hhi;split at h1
      ·simp [T.leaf] at h1
      ·simp only [iK] at hmx;subst hmx;obtain⟨pc2,hp2,h2⟩:=bG (s:={ s with pc:=pc1 }) hp1 h1;split at h2
       ·simp [T.leaf] at h2
       ·rename_i t2;have:=aC h2;simp only [aCK] at this;obtain⟨rfl,rfl⟩:=this;rw [dJ,decide_eq_false_iff_not] at t2;have hlm:l<=m0:=by omega
        obtain⟨e1,e2⟩:=gU (P:=P) (w:=w) (isSlice:=true) (len:=m0) (cap:=cap) (m0:=cap) (d:=0) (m:=cap) (h0:=cap) (h:=m0) (l:=l) hlo2 (hi:=none) (hi':=none) (by simp [iK]) (mx:=none) (mx':=none) (by simp [iK]) (by simp) (.inl ⟨rfl,rfl,aCN _⟩) (by simp [bnd,hcap]) ⟨fun _=>aCN _,by simp⟩ (hbl _ hlm);exact⟨rfl,rfl,hp2,fin l m0 _ _ e1 hlm hcap hl g2⟩
     ·rename_i hv;split at h1
      ·rename_i kh qh;obtain⟨pc2,hp2,h2⟩:=bG (s:={ s with pc:=pc1 }) hp1 h1;split at h2
       ·simp [T.leaf] at h2
       ·rename_i t2;rw [dJ,decide_eq_false_iff_not] at t2;obtain⟨k,hk⟩ : ∃k:Nat,qh.den E.ρ=(k:Int):=⟨(qh.den E.ρ).toNat,by omega⟩;have hlk:l<=k:=by omega
        split at h2
        ·rename_i mv;split at h2
         ·rename_i km qm;obtain⟨pc3,hp3,h3⟩:=bG (s:={ s with pc:=pc2 }) hp2 h2;split at h3
          ·simp [T.leaf] at h3
          ·rename_i t3;obtain⟨pc4,hp4,h4⟩:=bG (s:={ s with pc:=pc3 }) hp3 h3;split at h4
           ·simp [T.leaf] at h4
           ·rename_i t4;have:=aC h4;simp only [aCK] at this;obtain⟨rfl,rfl⟩:=this;rw [dJ,decide_eq_false_iff_not] at t3 t4;obtain⟨m,hm⟩ : ∃m:Nat,qm.den E.ρ=(m:Int):=⟨(qm.den E.ρ).toNat,by omega⟩;obtain⟨e1,e2⟩:=gU (P:=P) (w:=w) (isSlice:=true) (len:=m0) (cap:=cap) (m0:=cap) (d:=0) (m:=m) (h0:=m) (h:=k) (l:=l) hlo2 (Ko hk hhi) (Ko hm hmx) (by simp) (.inr ⟨_,rfl,KG (by omega),aCN _⟩) (KG (by omega)) ⟨by simp,fun _=>rfl⟩ (hbl _ hlk);refine⟨rfl,rfl,hp4,.slice (some (if m=l then a else a.add (l*ie.size))) (k-l) (m-l),?_,by simp only [VR]⟩;simp [Instr.sliceAt,run_underlying hu,Instr.slice,e1,hsz]<;>split<;>rfl
         ·simp [T.leaf] at h2
        ·simp only [iK] at hmx;subst hmx
         have go:k<=cap->∃r,(Instr.sliceAt ty (.slice (some a) m0 cap) lo' hi' none).run P w= .ok r w/\VR E w.heap (.AL id (yN lo0 ql) (KU qh ql) t) r:=by intro hkc;obtain⟨e1,e2⟩:=gU (P:=P) (w:=w) (isSlice:=true) (len:=m0) (cap:=cap) (m0:=cap) (d:=0) (m:=cap) (h0:=cap) (h:=k) (l:=l) hlo2 (Ko hk hhi) (mx:=none) (mx':=none) (by simp [iK]) (by simp) (.inl ⟨rfl,rfl,aCN _⟩) (KG hkc) ⟨fun _=>aCN _,by simp⟩ (hbl _ hlk);exact fin l k _ _ e1 hlk hkc hl hk
         obtain⟨pc3,hp3,h3⟩:=bG (s:={ s with pc:=pc2 }) hp2 h2;split at h3
         ·rename_i t3;have:=aC h3;simp only [aCK] at this;obtain⟨rfl,rfl⟩:=this;rw [dJ,decide_eq_false_iff_not] at t3;exact⟨rfl,rfl,hp3,go (by omega)⟩
         ·split at h3
          ·simp [T.leaf] at h3
          ·rename_i hz1;split at h3
           ·simp [T.leaf] at h3
           ·rename_i e HY hva;obtain⟨pc4,hp4,h4⟩:=bG (s:={ s with pc:=pc3 }) hp3 h3;split at h4
            ·simp [T.leaf] at h4
            ·rename_i t4;have:=aC h4;simp only [aCK] at this;obtain⟨rfl,rfl⟩:=this;rw [dJ,decide_eq_false_iff_not,bD] at t4;refine⟨rfl,rfl,hp4,go ?_⟩;have hlv:=qQ hva;obtain⟨ho,q0⟩:=OR.tV.1 (r.live id _ hlv).2.1;have hlo0:=Mc hz1;subst hlo0;simp only [SE.den] at g1;have hl0:l0=0:=by omega
             subst hl0;simp only [OR] at q0;obtain⟨arr,lo1,hi1,us,q1,q2,q3,q4,q5,q6,q7⟩:=q0;unfold bH at q4;rw [bF ho.1] at q4;have hne:0<(dec (e.den E.ρ)).l.length:=aDB.2 ho.2.2.2;have hpos:0<(rowOf t).es:=by omega
             simp only [eX] at hc
             have hκ:(dec (e.den E.ρ)).l.length<=cap:=by
              rcases hc with hc|hc
              ·have:(dec (e.den E.ρ)).l.length*(rowOf t).es<=cap*(rowOf t).es:=by omega
               exact aEH this hpos
              ·have:=aEb hne hpos;omega
             omega
      ·simp [T.leaf] at h1
  ·simp [T.leaf] at h
theorem Yv [Glob] {tt:TT} (htt:dU P tt) {s s':St} (hp:aW E.ρ s.pc) {ty t:Nat} {z:SE} {lo hi mx:Option AV} {lo' hi' mx':Option Value} {v:AV} {u:Value} (hx:VR E w.heap (.Ec z t) u)
 (hlo:iK E w.heap lo lo') (hhi:iK E w.heap hi hi') (hmx:iK E w.heap mx mx') (h:(Ud tt s ty z t lo hi mx).leaf E.ρ=some (v,s')) :
 s'.slots=s.slots/\s'.h=s.h/\aW E.ρ s'.pc/\∃r,(Instr.sliceAt ty u lo' hi' mx').run P w= .ok r w/\VR E w.heap v r:=by
 unfold Ud at h;split at h
 ·grind [T.leaf]
 ·simp only [iK] at hmx;subst hmx;split at h
  ·grind [T.leaf]
  ·rename_i zz hz;obtain⟨el,ie,hu,hie,rfl⟩:=rD htt hz;have hsz:=dS (htt el ie hie);split at h
   ·rename_i Ht;split at h
    ·rename_i hbl;have:=aC h;simp only [aCK] at this;obtain⟨rfl,rfl⟩:=this;have hx0:=hx;simp only [VR] at hx;obtain⟨⟨x,rfl⟩,hr⟩:=hx;obtain⟨e1,e2⟩:=gU (P:=P) (w:=w) (isSlice:=true) (len:=0) (cap:=0) (m0:=0) (d:=0) (m:=0) hlo hhi (mx:=none) (mx':=none) (by simp [iK]) (by simp) (.inl ⟨rfl,rfl,aCN _⟩) Ht ⟨fun _=>aCN _,by simp⟩ hbl;refine⟨rfl,rfl,hp,.slice x 0 0,?_,hx0⟩;simp [Instr.sliceAt,run_underlying hu,Instr.slice,e1,hsz]
    grind [T.leaf]
   grind [T.leaf]
end
theorem La: ∀{B V:List AV},V.length=B.length->splice B 0 V=some V
 |[],[],_=>rfl
 |[],_::_,h=>by simp at h
 |_::_,[],h=>by simp at h
 |b::B,v::V,h=>by simp only [splice];rw [La (by simpa using h)]
theorem Xq {A B C V:List AV} (h:V.length=B.length):splice (A++(B++C)) A.length V=some (A++(V++C)):=by
 have:=yV A (rX C (La h))
 grind
theorem OG {α:Type}: ∀{a b:List α},jR a.length (a++b)=some a
 |[],b=>rfl
 |x::a,b=>by simp only [aCW,aC8,jR,OG]
theorem mO {ρ:Nat->Int} {r:Row}: ∀(L:List D) (a b:Nat),aF ρ r [] L a=aF ρ r [] L b
 |[],_,_=>rfl
 |d::L,a,b=>by simp only [aF,dM]; rw [mO L (a+1) (b+1)]
theorem jA {ρ:Nat->Int} {r:Row}: ∀(A B:List D),aF ρ r [] (A++B) 0=aF ρ r [] A 0++aF ρ r [] B 0
 |[],B=>rfl
 |d::A,B=>by simp only [aC8,aF,dM,aD7];rw [mO (A++B) 1 0,mO A 1 0,jA A B]
section
variable {P:Program} {E:En} {w:World}
theorem adZ [Glob] {H:Hp} (r:aO E H w) {id t:Nat} {e0:SE} {yQ:TypeId} (hl:H.get id=some (.vec e0 t yQ [])) (hs0:(rowOf t).es≠0) {k cap:Nat} {a:Addr} (hc:eX E id 0 k a cap (.rest (rowOf t).es)) :
 a=⟨(E.θ id).1,(E.θ id).2,none⟩/\(dec (e0.den E.ρ)).l.length<=cap:=by
 obtain⟨ho,q0⟩:=OR.tV.1 (r.live id _ hl).2.1;simp only [OR] at q0;obtain⟨arr,lo1,hi1,us,q1,q2,q3,q4,q5,q6,q7⟩:=q0;unfold bH at q4;rw [bF ho.1] at q4;have hne:0<(dec (e0.den E.ρ)).l.length:=aDB.2 ho.2.2.2;have hpos:0<(rowOf t).es:=by omega
 simp only [eX] at hc;rcases hc with hc|hc
 ·refine⟨by simpa using hc.1,?_⟩;have:(dec (e0.den E.ρ)).l.length*(rowOf t).es<=cap*(rowOf t).es:=by omega
  exact aEH this hpos
 ·have:=aEb hne hpos;omega
theorem KJ [Glob] {H:Hp} (r:aO E H w) {id t:Nat} {e0:SE} {yQ:TypeId} (hl:H.get id=some (.vec e0 t yQ [])) {n mm:Nat} (hle:n+mm<=(dec (e0.den E.ρ)).l.length) {ds:List D} (hds:ds.length=mm) (hwf: ∀d∈ds,vT (rowOf t) d)
 {us:List Value} (hv:bC E w.heap (aF E.ρ (rowOf t) [] ds 0) us) (h1: ∀u∈us,u.oneCell'=true) {e1:SE} (he1:dec (e1.den E.ρ)=dL ((dec (e0.den E.ρ)).l.take n++ds++(dec (e0.den E.ρ)).l.drop (n+mm))) :
 ∃w',(storeCells ⟨(E.θ id).1,(E.θ id).2+n*(rowOf t).es,none⟩ us).run P w= .ok () w'/\Stp E H w E (H.put id (.vec e1 t yQ [])) w'/\aO E (H.put id (.vec e1 t yQ [])) w':=by
 obtain⟨rc,ho,hw⟩:=r.tV hl;generalize hL:(dec (e0.den E.ρ)).l=L at *
 have hsp:L=L.take n++((L.drop n).take mm++L.drop (n+mm)):=by
  conv=>lhs; rw [<- aDD n L]
  congr 1
  conv=>lhs; rw [<- aDD mm (L.drop n)]
  simp_all
 have hc:bH E.ρ e0 t []=aF E.ρ (rowOf t) [] (L.take n) 0++(aF E.ρ (rowOf t) [] ((L.drop n).take mm) 0++aF E.ρ (rowOf t) [] (L.drop (n+mm)) 0):=by
  unfold bH;rw [hL]
  conv=>lhs; rw [hsp]
  rw [jA,jA]
 have hlA:(aF E.ρ (rowOf t) [] (L.take n) 0).length=n*(rowOf t).es:=by
  rw [bF (mF _),aDa]
  grind
 have hsl:splice (bH E.ρ e0 t []) (n*(rowOf t).es) (aF E.ρ (rowOf t) [] ds 0)=some (bH E.ρ e1 t []):=by
  have:bH E.ρ e1 t []=aF E.ρ (rowOf t) [] (L.take n) 0++(aF E.ρ (rowOf t) [] ds 0++aF E.ρ (rowOf t) [] (L.drop (n+mm)) 0):=by unfold bH;rw [he1,aY,jA,jA,aD7]
  rw [this,hc,<- hlA];refine Xq ?_;rw [bF (mF _),bF (mF _),aDa,aDg,hds]
  grind
 obtain⟨w',g1,g2,g3⟩:=oN (P:=P) rc (by rw [Hp.get_put,aCL rfl]) hsl hv h1;have al1:OC (H.put id (.cells (bH E.ρ e0 t []) yQ)) H:=(OC.put hl).symm
 have al2:OC ((H.put id (.cells (bH E.ρ e0 t []) yQ)).put id (.cells (bH E.ρ e1 t []) yQ)) (H.put id (.vec e1 t yQ [])):=by
  refine⟨fun j y hj=>?_,fun j y hj=>?_,rfl,rfl⟩
  ·rw [Hp.get_put];split
   ·grind
   ·rename_i hne;rw [Hp.get_put,aCI hne,Hp.get_put,aCI hne] at hj
    grind
  ·rw [Hp.get_put] at hj ⊢;split
   ·grind
   ·rename_i hne;rw [aCI hne] at hj;rw [Hp.get_put,aCI hne];exact⟨y,hj⟩
 have hcells:=(g3.live id _ (by rw [Hp.get_put,aCL rfl])).2.1
 have hor:OR E w'.heap id (.vec e1 t yQ []):=by
  refine OR.tV.2 ⟨⟨mF _,?_⟩,hcells⟩;rw [he1];refine⟨by rw [aY],?_,?_⟩
  ·rw [aY];intro d hd;rcases aDp.1 hd with hd|hd
   ·rcases aDp.1 hd with hd|hd
    ·exact hw.2.1 d (by rw [hL]; exact aDn hd)
    ·exact hwf d hd
   ·exact hw.2.1 d (by rw [hL]; exact aDh hd)
  ·rw [aY];intro q;have:=congrArg List.length q;simp only [aC5,aDa,aDg,aC3,hds] at this;have hne:=aDB.2 hw.2.2;rw [hL] at hne;omega
 refine⟨w',g1,(g2.left al1).right al2,?_⟩;exact g3.swap (id:=id) (by rw [Hp.get_put,aCL rfl]) hor (by rw [Hp.get_put,aCL rfl]) (fun j hj=>by rw [Hp.get_put,aCI hj,Hp.get_put,aCI hj,Hp.get_put,aCI hj]) rfl rfl
theorem WM [Glob] {s s':St} (r:aO E s.h w) (hp:aW E.ρ s.pc) {id t t1 t2 ty e:Nat} {e0 n1 m sd lo:SE} {yQ:TypeId} {ie:TI} {d2:TypeDesc} (hte:qN P e ie) (ht:P.underlying t1=some (.slice e)) (ht2:P.underlying t2=some d2) (hd2: ∀k,d2≠.int k)
 (hes:(rowOf t).es=ie.size) (hs0:ie.size≠0) (hl:s.h.get id=some (.vec e0 t yQ [])) (hlo:isZ lo=true) {u u2:Value} {us:Array Value} {ds:List D} (hx:VR E w.heap (.AL id lo n1 t) u) {mm:Nat} (hm:m.den E.ρ=(mm:Int))
 (hds:ds.length=mm) (hsd:(dec (sd.den E.ρ)).l=ds) (hwf: ∀d∈ds,vT (rowOf t) d) {news:List AV} (src:Src P E w ie.size mm news u2 us) (hv:bC E w.heap (aF E.ρ (rowOf t) [] ds 0) us.toList) {v:AV} (h:(aaN id t yQ e0 n1 m sd s).leaf E.ρ=some (v,s')) :
 s'.slots=s.slots/\aW E.ρ s'.pc/\∃z w' E',(Builtin.append_ #[t1,t2] ty #[u,u2]).run P w= .ok z w'/\Stp E s.h w E' s'.h w'/\aO E' s'.h w'/\VR E' w'.heap v z:=by
 unfold aaN at h;obtain⟨pc',hp',g1,g2,g3,g4⟩:=Dj hp h;have:=aC g4;simp only [aCK] at this;obtain⟨rfl,rfl⟩:=this;have hlo:=Mc hlo;subst hlo;have hx0:=hx;simp only [VR] at hx;obtain⟨hid,l0,k,a,cap,q1,q2,rfl,q4,q5⟩:=hx;simp only [SE.den] at q1;have hl0:l0=0:=by omega
 subst hl0;rw [aDm] at q5;obtain⟨rfl,hroom⟩:=adZ r hl (by rw [hes]; exact hs0) q5;have hle:k+mm<=(dec (e0.den E.ρ)).l.length:=by omega
 obtain⟨inf,d,z,h1,h2,h3,h4,h5,h6,h7,h8⟩:=hte.all
 obtain⟨w',f1,f2,f3⟩:=KJ (P:=P) r hl (n:=k) hle hds hwf hv src.ones (e1:=.op .cat (.op .cat (.op .take e0 n1) sd) (.op .drop e0 (yN n1 m))) (by
  have hn:((k:Int)+(mm:Int)).toNat=k+mm:=by omega
  simp only [SE.den,gB.den,aA,aY,uT,iL,q2,hm,hn,hsd,aDj])
 refine⟨rfl,hp',.slice (some ⟨(E.θ id).1,(E.θ id).2,none⟩) (k+mm) cap,w',E,?_,f2,f3,?_⟩
 ·exact mV (s:=ie.size) ht ht2 hd2 h1 h5 src (by omega) (by simp only [fE]; rw [<- hes]; exact f1)
 ·simp only [VR];refine⟨hid,0,k+mm,_,_,rfl,by rw [uT,q2,hm]; rfl,rfl,by omega,?_⟩;rw [aDm];simp only [eX] at q5 ⊢
  grind
theorem Wh [Glob] {tt:TT} (htt:dU P tt) {s s':St} (r:aO E s.h w) (hp:aW E.ρ s.pc) {t t2 ty id t':Nat} {lo n1:SE} {y v:AV} {u u2:Value} (hlo:isZ lo=true) (hx:VR E w.heap (.AL id lo n1 t') u) (hy:VR E w.heap y u2) (h:(Nu tt t t2 id n1 t' y s).leaf E.ρ=some (v,s')) :
 s'.slots=s.slots/\aW E.ρ s'.pc/\∃z w' E',(Builtin.append_ #[t,t2] ty #[u,u2]).run P w= .ok z w'/\Stp E s.h w E' s'.h w'/\aO E' s'.h w'/\VR E' w'.heap v z:=by
 unfold Nu at h;split at h
 ·rename_i ti hti;split at h
  ·rename_i e hk;split at h
   ·rename_i ie hie;split at h
    ·grind [T.leaf]
    ·rename_i ti2 ahN;obtain⟨d2,hd2,hk2⟩:=yG (htt t2 ti2 ahN);split at h
     ·grind [T.leaf]
     ·rename_i k2 hne
      have BL: ∀k,d2≠.int k:=by
       intro k hd;subst hd;cases hkk:ti2.kind<;>rw [hkk] at hk2<;>simp only [Rw] at hk2
       grind
      split at h
      ·grind [T.leaf]
      ·rename_i hcond;simp only [not_or,Classical.not_not] at hcond;obtain⟨hs0,hb0,hzl,hes⟩:=hcond;have hte:=htt e ie hie;have hu:=fH (htt t ti hti) hk;split at h
       ·grind [T.leaf]
       ·rename_i e0 yQ hva;have hl:=qQ hva;split at h
        ·rename_i id2 lo2 n2 t2';split at h
         ·rename_i hi2;split at h
          ·rename_i ht2;have hi2:=aCO hi2;have ht2:=aCO ht2;subst hi2 ht2;obtain⟨pc1,hp1,g1,g2,g3,g4⟩:=Dj hp h;have hy0:=hy;simp only [VR] at hy;obtain⟨hid,l,k,a,cap,q1,q2,rfl,q4,q5⟩:=hy;obtain⟨rc,ho,hw⟩:=r.tV hl;generalize hL:(dec (e0.den E.ρ)).l=L at *;have hlk:l+k<=L.length:=by omega
           have hsp:L=L.take l++((L.take (l+k)).drop l++L.drop (l+k)):=by
            conv=>lhs; rw [<- aDD (l+k) L]
            grind
           have hcc:bH E.ρ e0 t2' []=aF E.ρ (rowOf t2') [] (L.take l) 0++(aF E.ρ (rowOf t2') [] ((L.take (l+k)).drop l) 0++aF E.ρ (rowOf t2') [] (L.drop (l+k)) 0):=by
            unfold bH;rw [hL]
            conv=>lhs; rw [hsp]
            rw [jA,jA]
           have hlA:(aF E.ρ (rowOf t2') [] (L.take l) 0).length=l*(rowOf t2').es:=by rw [bF (mF _),aDa];congr 1;omega
           have hlen:((L.take (l+k)).drop l).length=k:=by rw [aDg,aDa]; omega
           have hlB:(aF E.ρ (rowOf t2') [] ((L.take (l+k)).drop l) 0).length=k*(rowOf t2').es:=by rw [bF (mF _),hlen]
           have hy1:VR E w.heap (.slice id2 (l*(rowOf t2').es) k (.rest (rowOf t2').es)) (.slice (some a) k cap):=by simp only [VR];exact⟨hid,a,cap,rfl,q4,q5⟩
           obtain⟨us,src⟩:=wE (P:=P) rc hy1 (s:=ie.size) (m:=k) (news:=aF E.ρ (rowOf t2') [] ((L.take (l+k)).drop l) 0) (by
            simp only [xK,qH,Hp.get_put,if_true];rw [hcc,<- hlA,Ag];simp only;rw [<- hes,<- hlB,OG]
            rfl)
           refine WM (s:={ s with pc:=pc1 }) r hp1 hte hu hd2 BL hes hs0 hl hlo hx q2 hlen (by rw [Ez q1 q2,iL,hL]) (fun d hd=>hw.2.1 d ?_) src src.vrs g4;rw [hL];exact aDn (aDh hd)
          grind [T.leaf]
         grind [T.leaf]
        ·split at h
         ·grind [T.leaf]
         ·rename_i m news hsrc;obtain⟨us,src⟩:=wE (P:=P) r hy hsrc;split at h
          ·grind [T.leaf]
          ·rename_i m';split at h
           ·split at h
            ·rename_i sd hcr;obtain⟨ds,c1,c2,c3,c4,c5⟩:=wP (ρ:=E.ρ) _ hcr;simp only [SE.den,aA,D.l,aC2] at c2;exact WM r hp hte hu hd2 BL hes hs0 hl hlo hx (mm:=m'+1) (by simp only [SE.den]; rfl) c1 c2 c4 src (c5 E w.heap _ 0 rfl src.vrs) h
            grind [T.leaf]
           grind [T.leaf]
   grind [T.leaf]
  grind [T.leaf]
 grind [T.leaf]
theorem Jt [Glob] {tt:TT} (htt:dU P tt) {s s':St} (r:aO E s.h w) (hp:aW E.ρ s.pc) {t ty id t':Nat} {lo n:SE} {v:AV} {u:Value} (hx:VR E w.heap (.AL id lo n t') u) (h:(GL tt t id lo n t' s).leaf E.ρ=some (v,s')) :
 s'.slots=s.slots/\aW E.ρ s'.pc/\v=AV.undef/\∃w' E',(Builtin.clear_ #[t] ty #[u]).run P w= .ok (.tuple #[]) w'/\Stp E s.h w E' s'.h w'/\aO E' s'.h w':=by
 unfold GL at h;split at h
 ·rename_i ti hti;split at h
  ·rename_i e hk;have hu:=fH (htt t ti hti) hk;split at h
   ·rename_i ie hie;obtain⟨inf,d,z,h1,h2,h3,h4,h5,h6,h7,h8⟩:=(htt e ie hie).all;have hz:=fC (E:=E) (h:=w.heap) h4;split at h
    ·rename_i hcond;obtain⟨hes,hs0⟩:=hcond;split at h
     ·grind [T.leaf]
     ·rename_i e0 HY hva;have hl:=qQ hva;split at h
      ·grind [T.leaf]
      ·rename_i zz hzz;obtain⟨pc1,hp1,g1⟩:=bG hp h;split at g1
       ·grind [T.leaf]
       ·rename_i t1;obtain⟨pc2,hp2,g2⟩:=bG (s:={ s with pc:=pc1 }) hp1 g1;split at g2
        ·grind [T.leaf]
        ·rename_i t2;obtain⟨pc3,hp3,g3⟩:=bG (s:={ s with pc:=pc2 }) hp2 g2;split at g3
         ·grind [T.leaf]
         ·rename_i t3;have:=aC g3;simp only [aCK] at this;obtain⟨rfl,rfl⟩:=this;rw [dJ,decide_eq_false_iff_not] at t1 t2;rw [jE,beq_iff_eq,uT,bD] at t3;simp only [VR] at hx;obtain⟨hid,l,k,a,cap,q1,q2,rfl,q4,q5⟩:=hx;have hlk:l+k=(dec (e0.den E.ρ)).l.length:=by omega
          have hn0:(dec (e0.den E.ρ)).l.length-l=k:=by omega
          have hwz:=Ar (ρ:=E.ρ) hzz;have hrz:DY E.ro w.heap (rowOf t') (dec (zz.den E.ρ)) z.cells.toList:=Au hz.1 hzz
          have aCy:bC E w.heap (iV (rowOf t') (.dat (dec (zz.den E.ρ)))) z.cells.toList:=by
           rw [iH];simp only [SE.den,aA]
           grind
          have hrep: ∀m:Nat,aF E.ρ (rowOf t') [] (List.replicate m (dec (zz.den E.ρ))) 0=repeatL (iV (rowOf t') (.dat (dec (zz.den E.ρ)))) m:=by
           intro m
           induction m with
           |zero=>rfl
           |succ m ih=>
            simp only [aEN,aF,dM,repeatL]
            grind [mO]
          have hv:bC E w.heap (aF E.ρ (rowOf t') [] (List.replicate k (dec (zz.den E.ρ))) 0) (repeatL z.cells.toList k):=by
           grind [pI]
          obtain⟨w',f1,f2,f3⟩:=KJ (P:=P) r hl (n:=l) (mm:=k) (by omega) (aDY) (fun d hd=>by rw [aE5 hd]; exact hwz) hv (fun u hu=>hz.2 u (pG hu)) (e1:=.op .fill e0 (dV (qR lo) zz)) (by
           simp only [dV,SE.den,gB.den,aA,nZ,D.n,q1,aDj,hn0,hlk]
           rw [List.drop_length,aDX])
          refine⟨rfl,hp3,rfl,w',E,?_,f2,f3⟩;rcases aDO k with hk0|hk0
          ·subst hk0;simp only [repeatL] at f1
           have:w'=w:=by
            simp [storeCells] at f1
            grind
           subst this;simp [Builtin.clear_,run_underlying hu]
          ·have ha:a=⟨(E.θ id).1,(E.θ id).2+l*(rowOf t').es,none⟩:=by
            simp only [eX] at q5
            grind
           have auX:z.cells.toList≠[]:=by
            intro hx;have:=DY.length hrz
            grind
           have hzc:(Builtin.zeroCells z.cells k).toList=repeatL z.cells.toList k:=A8 z.cells auX k;subst ha;obtain⟨j,rfl⟩ : ∃j,k=j+1:=⟨k-1,by omega⟩;simp [Builtin.clear_,run_underlying hu,zeroValue,typeInfo,h1,h3,hzc,f1]
    grind [T.leaf]
   grind [T.leaf]
  grind [T.leaf]
 grind [T.leaf]
end
theorem pO (l:List Nat):(nP l).l.length=l.length:=by simp [nP]
theorem adF {a b:List Nat} (h:nP a=nP b):a=b:=by
 have:=IV h
 induction a generalizing b with
 |nil=>cases b with
  |nil=>rfl
  |cons y b=>simp at this
 |cons x a ih=>cases b with
  |nil=>simp at this
  |cons y b=> simp only [aCQ,List.cons.injEq,D.i.injEq,Int.ofNat_eq_natCast,aEi] at this;rw [this.1,ih (b:=b) (by unfold nP; exact congrArg dL (by simpa using this.2)) (by simpa using this.2)]
theorem NT: ∀(x y:List Nat),Wv (x.map fun b=>D.i (Int.ofNat b)) (y.map fun b=>D.i (Int.ofNat b))=bytesLess x y
 |[],[]=>rfl
 |[],_::_=>rfl
 |_::_,[]=>rfl
 |a::x,b::y=>by
  simp only [aCQ,Wv,bytesLess,D.n,NT x y];have i1:(Int.ofNat a<Int.ofNat b)=(a<b):=propext aEq;have i2:(Int.ofNat b<Int.ofNat a)=(b<a):=propext aEq;simp only [i1,i2];rcases aEO a b with h|h|h
  ·simp_all
  ·simp_all
  ·have h2:a.blt b=false:=by rw [aDZ]; simp [Nat.blt]; omega
   have h3:a.beq b=false:=by rw [aDZ]; simp; omega
   grind
section
variable {P:Program} {E:En} {w:World}
theorem VR.anG {h:Array Obj} {e:SE} {v:Value} (hv:VR E h (.lQ e) v): ∃l:List Nat,v= .string (bU l)/\(∀b∈l,b<256)/\dec (e.den E.ρ)=nP l:=by
 simp only [VR] at hv;obtain⟨s,rfl,hs⟩:=hv.string;refine⟨bytesOf s,by rw [mY],EW s,?_⟩
 grind [GV,EW,mY,Am,bU]
theorem VR.agN {h:Array Obj} {e:SE} {l:List Nat} (hl: ∀b∈l,b<256) (he:dec (e.den E.ρ)=nP l):VR E h (.lQ e) (.string (bU l)):=by
 simp only [VR];rw [he,GV _ hl];have:=Rd.str (ro:=E.ro) (h:=h) (bU l)
 grind [Am,bU]
theorem KW {h:Array Obj} {x:AV} {u:Value} {e:SE} (hx:VR E h x u) (hs:AO x=some e): ∃l:List Nat,u= .string (bU l)/\(∀b∈l,b<256)/\dec (e.den E.ρ)=nP l:=by
 unfold AO at hs;split at hs
 ·simp only [aCJ] at hs;subst hs;simp only [VR] at hx;exact⟨_,hx.1,hx.2,by simp only [SE.den,aA]⟩
 ·simp only [aCJ] at hs;subst hs;exact hx.anG
 grind
theorem Yg {tt:TT} (htt:dU P tt) {s s':St} (hp:aW E.ρ s.pc) {ty:Nat} {e:SE} {ix v:AV} {u ui:Value} (hx:VR E w.heap (.lQ e) u) (hix:VR E w.heap ix ui) (h:(TQ tt s ty e ix).leaf E.ρ=some (v,s')) :
 s'.slots=s.slots/\s'.h=s.h/\aW E.ρ s'.pc/\∃r,(Instr.index ty u ui).run P w= .ok r w/\VR E w.heap v r:=by
 unfold TQ at h;split at h
 ·rename_i kd i;split at h
  ·rename_i ti hti;split at h
   ·rename_i hk;obtain⟨pc',hp',h1,h2,h3⟩:=rM hp h;have:=aC h3;simp only [aCK] at this;obtain⟨rfl,rfl⟩:=this;refine⟨rfl,rfl,hp',?_⟩;obtain⟨l,rfl,hb,hd⟩:=hx.anG;simp only [VR] at hix;subst hix;rw [bD,hd,pO] at h2;obtain⟨k,hk2⟩ : ∃k:Nat,i.den E.ρ=(k:Int):=⟨(i.den E.ρ).toNat,by omega⟩;have hlt:k<l.length:=by omega
    have hg:(bU l)[k]?=some (UInt8.ofNat l[k]):=by rw [KZ,aCV hlt]; rfl
    have h256:=hb l[k] (aCY hlt);rw [hk2];refine⟨_,by simp [Instr.index,asIntOf,run_underlying (gG (htt ty ti hti) hk),hg]; rfl,?_⟩
    have hdk:(dec (e.den E.ρ)).l[k]?=some (.i (Int.ofNat l[k])):=by rw [hd];simp only [nP,aY,aDd,aCV hlt,aDo]
    simp only [VR,H8,IZ E.ρ e i hk2 hdk,D.n]
    grind
   grind [T.leaf]
  grind [T.leaf]
 grind [T.leaf]
theorem Yf {tt:TT} (htt:dU P tt) {s s':St} (hp:aW E.ρ s.pc) {ty:Nat} {e:SE} {lo hi mx:Option AV} {lo' hi' mx':Option Value} {v:AV} {u:Value} (hx:VR E w.heap (.lQ e) u)
 (hlo:iK E w.heap lo lo') (hhi:iK E w.heap hi hi') (hmx:iK E w.heap mx mx') (h:(TP tt s ty e lo hi mx).leaf E.ρ=some (v,s')) :
 s'.slots=s.slots/\s'.h=s.h/\aW E.ρ s'.pc/\∃r,(Instr.sliceAt ty u lo' hi' mx').run P w= .ok r w/\VR E w.heap v r:=by
 unfold TP at h;split at h
 ·grind [T.leaf]
 ·simp only [iK] at hmx;subst hmx;split at h
  ·grind [T.leaf]
  ·rename_i ti hti;split at h
   ·rename_i hk;have hu:=gG (htt ty ti hti) hk;split at h
    ·grind [T.leaf]
    ·rename_i ql hql;split at h
     ·grind [T.leaf]
     ·rename_i qh hqh;obtain⟨pc1,hp1,h1⟩:=bG hp h;split at h1
      ·grind [T.leaf]
      ·rename_i t1;obtain⟨pc2,hp2,h2⟩:=bG (s:={ s with pc:=pc1 }) hp1 h1;split at h2
       ·grind [T.leaf]
       ·rename_i t2;obtain⟨pc3,hp3,h3⟩:=bG (s:={ s with pc:=pc2 }) hp2 h2;split at h3
        ·grind [T.leaf]
        ·rename_i t3;have:=aC h3;simp only [aCK] at this;obtain⟨rfl,rfl⟩:=this;refine⟨rfl,rfl,hp3,?_⟩;obtain⟨l,rfl,hb,hd⟩:=hx.anG;rw [dJ,decide_eq_false_iff_not] at t1 t2 t3;rw [bD,hd,pO] at t3;simp only [SE.den,aDN] at t1;obtain⟨a,ha⟩ : ∃a:Nat,ql.den E.ρ=(a:Int):=⟨(ql.den E.ρ).toNat,by omega⟩;obtain⟨b,hbb⟩ : ∃b:Nat,qh.den E.ρ=(b:Int):=⟨(qh.den E.ρ).toNat,by omega⟩;have hle:b<=l.length:=by omega
         have hab:a<=b:=by omega
         obtain⟨lo2,hlo2,hbl⟩:=agZ hql hlo ha
         have hhi2: ∃hi2,iK E w.heap hi2 hi'/\bnd hi2 l.length l.length=some b:=by
          unfold hiE at hqh;split at hqh
          ·simp only [aCJ] at hqh;subst hqh;rw [bD,hd,pO] at hbb;have:b=l.length:=by omega
           grind [bnd]
          ·split at hqh
           ·simp only [aCJ] at hqh;subst hqh;exact⟨_,Ko hbb hhi,KG hle⟩
           grind
         obtain⟨hi2,hhi2,Ht⟩:=hhi2;obtain⟨e1,e2⟩:=gU (P:=P) (w:=w) (isSlice:=false) (len:=l.length) (cap:=l.length) (m0:=l.length) (d:=0) hlo2 hhi2 (mx:=none) (mx':=none) rfl (by simp) (.inl ⟨rfl,rfl,aCN _⟩) Ht ⟨fun _=>aCN _,by simp⟩ (hbl b hab);refine⟨.string ((bU l).extract a b),?_,?_⟩
         ·rw [<- mX] at e1;simp [Instr.sliceAt,run_underlying hu,Instr.slice,e1]
         ·rw [yT];refine VR.agN (fun c hc=>hb c (aDn (aDh hc))) ?_;simp only [dV,SE.den,gB.den,aA,nZ,D.hd,D.l,aC6,aC7,aCT,D.n,ha,hbb,aDj,hd];simp only [nP,aY,aED,aEE]
   grind [T.leaf]
theorem RU {x y:AV} {a b:SE} (h:JV x y=some (a,b)):AO x=some a/\AO y=some b:=by
 grind [JV]
theorem OJ (ρ:Nat->Int) {a b:SE} {x y:List Nat} (ha:dec (a.den ρ)=nP x) (hb:dec (b.den ρ)=nP y):(OL a b).den ρ=bytesLess x y:=by
 simp only [OL,SB.den,SE.den,gB.den,ha,hb,nP,aY]
 grind [NT]
theorem G6: ∀(x y:List Nat),(bytesLess x y||iZ x y)=!(bytesLess y x)
 |[],[]=>rfl
 |[],_::_=>rfl
 |_::_,[]=>rfl
 |a::x,b::y=>by
  have ih:=G6 x y;simp only [bytesLess,iZ];rcases aEO a b with h|h|h
  ·have h1:a.blt b=true:=by simp [Nat.blt]; omega
   have h2:b.blt a=false:=by rw [aDZ]; simp [Nat.blt]; omega
   have h3:b.beq a=false:=by rw [aDZ]; simp; omega
   grind
  ·simp_all
  ·have h1:b.blt a=true:=by simp [Nat.blt]; omega
   have h2:a.blt b=false:=by rw [aDZ]; simp [Nat.blt]; omega
   have h3:a.beq b=false:=by rw [aDZ]; simp; omega
   grind
theorem acU {s s':St} (hp:aW E.ρ s.pc) {t:Nat} {op:BinOp} {x y v:AV} {a b:SE} {u u':Value} (hx:VR E w.heap x u) (hy:VR E w.heap y u') (hs:JV x y=some (a,b)) (h:(Yh op a b s).leaf E.ρ=some (v,s')) :
 s'.slots=s.slots/\s'.h=s.h/\aW E.ρ s'.pc/\(∃r,(binOp op t u u').run P w= .ok r w/\VR E w.heap v r)/\(∀cs ds,¬(u= .agg cs/\u'= .agg ds))/\¬(u= .nilIface/\u'= .nilIface):=by
 obtain⟨hsx,hsy⟩:=RU hs;obtain⟨l,rfl,hbl,hdl⟩:=KW hx hsx;obtain⟨m,rfl,hbm,hdm⟩:=KW hy hsy
 have heq:((wF (qC a) (qC b)).den E.ρ)=iZ l m:=by
  grind [jP,oO,oU,adF,kP]
 have hne:(∀cs ds,¬(Value.string (bU l)= .agg cs/\Value.string (bU m)= .agg ds))/\¬(Value.string (bU l)= .nilIface/\Value.string (bU m)= .nilIface):=⟨by simp,by simp⟩
 have fin: ∀(c:AV) (o:BinOp),U5 o l m=some c->(∀q,VR E w.heap c q->VR E w.heap v q)->(∀q,(Op.stringOp o (bU l) (bU m)).run P w= .ok q w->(binOp o t (.string (bU l)) (.string (bU m))).run P w= .ok q w)->
  ∃r,(binOp o t (.string (bU l)) (.string (bU m))).run P w= .ok r w/\VR E w.heap v r:=by
  intro c o ho hc hq;obtain⟨r,h1,h2⟩:=U4 (P:=P) (E:=E) (w:=w) hbl hbm ho;exact⟨r,hq _ h1,hc r h2⟩
 unfold Yh at h;split at h
 ·obtain⟨pc1,hp1,h1⟩:=bG hp h;split at h1
  ·grind [T.leaf]
  ·rename_i t1;obtain⟨pc2,hp2,h2⟩:=bG (s:={ s with pc:=pc1 }) hp1 h1;split at h2
   ·grind [T.leaf]
   ·rename_i t2;have:=aC h2;simp only [aCK] at this;obtain⟨rfl,rfl⟩:=this;rw [dJ,decide_eq_true_eq,bD,hdl,pO] at t1;rw [dJ,decide_eq_true_eq,bD,hdm,pO] at t2;simp only [SE.den] at t1 t2;refine⟨rfl,rfl,hp2,⟨.string (bU (l++m)),?_,?_⟩,hne⟩
    ·have hm:IntKind.i64.max=9223372036854775807:=by decide
     have:(Op.stringOp .add (bU l) (bU m)).run P w= .ok (.string (bU l++bU m)) w:=by simp only [Op.stringOp,mX,hm];rw [aCI (by omega)];rfl
     have e:bU l++bU m=bU (l++m):=by apply ByteArray.ext;simp [bU]
     rw [e] at this;simpa [binOp] using this
    ·refine VR.agN (fun c hc=>?_) ?_
     ·grind
     ·simp only [SE.den,gB.den,aA,hdl,hdm];simp only [nP,aY,aDQ]
 all_goals first
  |(simp [T.leaf] at h; done)
  |(have:=aC h
    simp only [aCK] at this;obtain⟨rfl,rfl⟩:=this;refine⟨rfl,rfl,hp,?_,hne⟩;refine fin _ _ rfl (fun q hq=>?_) (fun q hq=>by simpa [binOp] using hq);simp only [VR,SB.den,qW] at hq ⊢
    first
     |(rw [heq]; exact hq)
     |(rw [OJ E.ρ hdl hdm]; exact hq)
     |(rw [OJ E.ρ hdm hdl]; rw [G6] at hq; simpa using hq))
theorem YA [Glob] {tt:TT} (htt:dU P tt) {s s':St} (r:aO E s.h w) (hp:aW E.ρ s.pc) {sT dT:Nat} {e:SE} {v:AV} {u:Value} (hx:VR E w.heap (.lQ e) u) (h:(Kz tt sT dT e s).leaf E.ρ=some (v,s')) :
 s'.slots=s.slots/\aW E.ρ s'.pc/\∃y w' E',(convert sT dT u).run P w= .ok y w'/\Stp E s.h w E' s'.h w'/\aO E' s'.h w'/\VR E' w'.heap v y:=by
 unfold Kz at h;split at h
 ·grind [T.leaf]
 ·rename_i j hj;split at h
  ·rename_i hjk;split at h
   ·grind [T.leaf]
   ·rename_i i hi;split at h
    ·rename_i el hik;split at h
     ·rename_i ie hie;split at h
      ·rename_i k aCF;split at h
       ·obtain⟨l,rfl,hb,hd⟩:=hx.anG
        have hcv:uQ tt sT dT (.str l) s.h=some (.slice s.h.fresh 0 l.length (.rest 1),s.h.new (.cells (l.map fun c=> .int .u8 (.lit (Int.ofNat c))) el)):=by
         grind [uQ]
        obtain⟨y,w',E',g1,g2,g3,g4⟩:=GK (P:=P) htt r (x:=.str l) (u:=.string (bU l)) (by simp only [VR]; exact⟨trivial,hb⟩) hcv;obtain⟨pc1,hp1,h1⟩:=bG hp h;rw [jP,bD,hd,pO] at h1;split at h1
        ·rename_i hz;have:=aC h1;simp only [aCK] at this;obtain⟨rfl,rfl⟩:=this;simp only [SE.den,beq_iff_eq] at hz
         grind
        ·rename_i hz;have:=aC h1;simp only [aCK] at this;obtain⟨rfl,rfl⟩:=this;simp only [SE.den,beq_eq_false_iff_ne,ne_eq] at hz;have hd':dec (e.den E'.ρ)=nP l:=by rw [g2.ρ]; exact hd
         have hcc:bH E'.ρ e 14 []=l.map fun c=>AV.int .u8 (.lit (Int.ofNat c)):=by
          unfold bH;rw [hd'];simp only [nP,aY]
          have: ∀(l:List Nat) (i:Nat),aF E'.ρ (rowOf 14) [] (l.map fun b=>D.i (Int.ofNat b)) i=l.map fun c=>AV.int .u8 (.lit (Int.ofNat c)):=by
           intro l
           induction l with
           |nil=>intro i; rfl
           |cons a l ih=> intro i;simp only [aCQ,aF,dM,ih];rfl
          grind
         have r2:=J6 (e1:=e) (t:=14) g3 (by
          rw [hd'];refine⟨by simp only [nP,aY],fun x hx=>?_,fun q=>?_⟩
          ·simp only [nP,aY,aC4] at hx;obtain⟨b,_,rfl⟩:=hx;rfl
          ·have:=congrArg List.length q;rw [pO] at this
           exact hz (by simp at this; simp [this])) (by rw [hcc]) (fun us hu=>by rw [hcc]; exact hu)
         refine⟨rfl,hp1,y,w',E',g1,g2.right (Dk rfl rfl fun _=>rfl),r2,?_⟩;simp only [VR] at g4 ⊢;obtain⟨q1,a,cap,q2,q3,q4⟩:=g4;exact⟨q1,l.length,a,cap,by rw [bD,hd',pO],q2,q3,q4⟩
       grind [T.leaf]
      grind [T.leaf]
     grind [T.leaf]
    grind [T.leaf]
  grind [T.leaf]
end
section
variable {P:Program} {E:En} {w:World}
def ZL (c:CK):Prop:=(∃k,c= .int k)\/c= .str
theorem PI (t:Nat):ZL (mapOf t).1:=by
 unfold mapOf;split<;>first |exact .inl ⟨_,rfl⟩|exact .inr rfl
theorem bytes_beq (p q:ByteArray):(p == q)=decide (p=q):=by
 rw [aDu,decide_eq_true_eq];have e:(p == q)=(p.data == q.data):=rfl;rw [e,beq_iff_eq];constructor
 ·intro h; cases p; cases q; simp only at h; rw [h]
 grind
theorem VD {ro:Nat->Prop} {h:Array Obj} {c:CK} (hc:ZL c) {dt:TypeDesc} (hd:EZ dt (Jk c)) {d d':D} {u u':Value} (r:Rd ro h c d u) (r':Rd ro h c d' u') :
 Instr.sameNow dt u u'=some (decide (d=d'))/\(d=d'->∀n,Instr.sameBits (n+1) u' u=true):=by
 rcases hc with ⟨k,rfl⟩|rfl
 ·simp only [Jk] at hd;obtain⟨k',rfl⟩:=hd
  cases r with
  |int _ n=>
   cases r' with
   |int _ m=>
    refine⟨?_,fun hh n=>?_⟩
    ·simp only [Instr.sameNow,D.i.injEq]
     grind
    ·simp only [D.i.injEq] at hh;subst hh;simp [Instr.sameBits]
 ·simp only [Jk] at hd;simp only [EZ] at hd;subst hd;obtain⟨a,rfl,rfl⟩:=r.string;obtain⟨b,rfl,rfl⟩:=r'.string;refine⟨?_,fun hh n=>?_⟩
  ·simp only [Instr.sameNow,bytes_beq];congr 1
   grind [NR]
  ·have:=NR hh;subst this;simp [Instr.sameBits,bytes_beq]
theorem Gp {ro:Nat->Prop} {h:Array Obj} {t:Nat} {dt:TypeDesc} (hd:EZ dt (Jk (mapOf t).1)) {kd:D} {u:Value} (hk:Rd ro h (mapOf t).1 kd u): ∀{ds:List D} {ents:List MapEntry} {i:Nat},
 mW ro h t ds ents->
 (jF ds kd=none/\Instr.findNow dt u ents i=some none/\(∀v,oP ds kd v=ds++ [.p kd v])/\SX ds kd=ds)\/
 (∃j x e,jF ds kd=some x/\ents[j]?=some e/\Rd ro h (mapOf t).2 x e.val/\Instr.findNow dt u ents i=some (some (i+j,e.val))/\(∀n,Instr.sameBits (n+1) e.key u=true)/\(∀v,oP ds kd v=ds.set j (.p kd v))/\SX ds kd=ds.eraseIdx j)
 |[],ents,i,he=>by simp only [mW] at he;subst he;exact .inl ⟨rfl,by simp [Instr.findNow],fun _=>rfl,rfl⟩
 |d::ds,ents,i,he=>by
  obtain⟨e,r,rfl,h1,h2,h3,h4⟩:=he;obtain⟨g1,g2⟩:=VD (PI t) hd hk h2;by_cases hkd:lG d=kd
  ·have g1':Instr.sameNow dt u e.key=some true:=by rw [g1,decide_eq_true hkd.symm]
   refine .inr ⟨0,Ux d,e,by simp only [jF,aCL hkd],rfl,h3,by simp [Instr.findNow,g1'],g2 hkd.symm,fun v=>by simp only [oP,aCL hkd,aDU],by simp only [SX,aCL hkd,List.eraseIdx_cons_zero]⟩
  ·have g1':Instr.sameNow dt u e.key=some false:=by rw [g1,decide_eq_false (fun q=>hkd q.symm)]
   rcases Gp (i:=i+1) hd hk h4 with ⟨q1,q2,q3,q4⟩|⟨j,x,e',q1,q2,q3,q4,q5,q6,q7⟩
   ·exact .inl ⟨by simp only [jF,aCI hkd,q1],by simp [Instr.findNow,g1',q2],fun v=>by simp only [oP,aCI hkd,q3,aC8],by simp only [SX,aCI hkd,q4]⟩
   ·refine .inr ⟨j+1,x,e',by simp only [jF,aCI hkd,q1],by simpa using q2,q3,?_,q5,fun v=>by simp only [oP,aCI hkd,q6,aDV],by simp only [SX,aCI hkd,q7,aEF]⟩;simp only [Instr.findNow,g1',q4]; congr 3; omega
theorem mW.set {ro:Nat->Prop} {h:Array Obj} {t:Nat} {kd vd:D} {uk uv:Value} (hk:Rd ro h (mapOf t).1 kd uk) (hv:Rd ro h (mapOf t).2 vd uv): ∀{ds:List D} {ents:List MapEntry} {i:Nat} {e:MapEntry},mW ro h t ds ents->ents[i]?=some e->
 mW ro h t (ds.set i (.p kd vd)) (ents.set i { e with key:=uk,val:=uv })
 |[],ents,i,e,he,hi=>by simp only [mW] at he; subst he; simp at hi
 |d::ds,ents,0,e,he,hi=>by obtain⟨e0,r,rfl,h1,h2,h3,h4⟩:=he;simp at hi;subst hi;simp only [aDU];exact⟨_,r,rfl,rfl,hk,hv,h4⟩
 |d::ds,ents,i+1,e,he,hi=>by obtain⟨e0,r,rfl,h1,h2,h3,h4⟩:=he;simp only [aDV];exact⟨e0,_,rfl,h1,h2,h3,mW.set hk hv h4 (by simpa using hi)⟩
theorem mW.push {ro:Nat->Prop} {h:Array Obj} {t:Nat} {kd vd:D} {uk uv:Value} {c:Nat} (hk:Rd ro h (mapOf t).1 kd uk) (hv:Rd ro h (mapOf t).2 vd uv): ∀{ds:List D} {ents:List MapEntry},mW ro h t ds ents->
 mW ro h t (ds++ [.p kd vd]) (ents++ [{ key:=uk,val:=uv,born:=c }])
 |[],ents,he=>by simp only [mW] at he;subst he;exact⟨_,[],rfl,rfl,hk,hv,rfl⟩
 |d::ds,ents,he=>by obtain⟨e0,r,rfl,h1,h2,h3,h4⟩:=he;simp only [aC8];exact⟨e0,_,rfl,h1,h2,h3,mW.push hk hv h4⟩
theorem mW.erase {ro:Nat->Prop} {h:Array Obj} {t:Nat}: ∀{ds:List D} {ents:List MapEntry} {i:Nat},mW ro h t ds ents->mW ro h t (ds.eraseIdx i) (ents.eraseIdx i)
 |[],ents,i,he=>by simp only [mW] at he; subst he; simp [mW]
 |d::ds,ents,0,he=>by
  obtain⟨e0,r,rfl,h1,h2,h3,h4⟩:=he
  grind
 |d::ds,ents,i+1,he=>by obtain⟨e0,r,rfl,h1,h2,h3,h4⟩:=he;simp only [aEF];exact⟨e0,_,rfl,h1,h2,h3,mW.erase h4⟩
theorem EJ {m:AV} {h:Hp} {id t:Nat} {e:SE} (hm:D7 m h=some (id,e,t)):m= .map id/\h.get id=some (.gY e t):=by
 unfold D7 at hm
 grind
theorem Io {tt:TT} (htt:dU P tt) {h:Array Obj} {ty t:Nat} {k:AV} {uk:Value} {a:SE} {ie:TI} (hk:VR E h k uk) (hm:mapKey tt ty t k=some (a,ie)) :
 ∃kt et dt,P.underlying ty=some (.map kt et)/\P.underlying kt=some dt/\EZ dt (Jk (mapOf t).1)/\qN P et ie/\Rd E.ro h (mapOf t).1 (dec (a.den E.ρ)) uk:=by
 unfold mapKey at hm;split at hm
 ·grind
 ·rename_i ti hti;split at hm
  ·rename_i kt et hkind;split at hm
   ·grind
   ·rename_i ki hki;split at hm
    ·rename_i hkk;split at hm
     ·grind
     ·rename_i ie' hie;split at hm
      ·grind
      ·rename_i a0 ha0;simp only [aCJ,aCK] at hm;obtain⟨rfl,rfl⟩:=hm;have hu:=CV (htt ty ti hti) hkind
       have hkd: ∃dt,P.underlying kt=some dt/\EZ dt (Jk (mapOf t).1):=by
        rcases PI t with ⟨q,hq⟩|hq
        ·rw [hq] at hkk ⊢;exact⟨_,yS (htt kt ki hki) hkk,q,rfl⟩
        ·rw [hq] at hkk ⊢;exact⟨_,gG (htt kt ki hki) hkk,rfl⟩
       obtain⟨dt,h1,h2⟩:=hkd;refine⟨kt,et,dt,hu,h1,h2,htt et ie' hie,?_⟩;rw [oO,aA];exact (nI hk ha0).rd (rE ha0)
    grind
  grind
theorem Il [Glob] {H:Hp} (r:aO E H w) {id t:Nat} {e:SE} (hl:H.get id=some (.gY e t)): ∃ents c',w.heap[(E.θ id).1]?=some (.map ents c')/\mW E.ro w.heap t (dec (e.den E.ρ)).l ents.toList:=
 (r.live id _ hl).2.1
theorem pR {t:Nat} {c:CK} {d:TypeDesc} (hu:P.underlying t=some d) (hd:EZ d (Jk c)) (b:Bool) (v:Value):(Instr.checkKey b 10000 t v).run P w= .ok () w:=eY hu hd b v
theorem Du {ρ:Nat->Int} (e a:SE):(P5 e a).den ρ=((SE.op .JG e a).den ρ == (SE.lit 0).den ρ):=by
 unfold P5;split
 ·split
  ·simp only [SB.den,SE.den,gB.den,aA]
   grind
  ·rfl
 ·rfl
theorem Yq [Glob] {tt:TT} (htt:dU P tt) {s s':St} (r:aO E s.h w) (hp:aW E.ρ s.pc) {ty id t:Nat} {m k v:AV} {e:SE} {um uk:Value} {ok:Bool} (hm:VR E w.heap m um) (hk:VR E w.heap k uk) (hat:D7 m s.h=some (id,e,t)) (h:(Gy tt ty k ok e t s).leaf E.ρ=some (v,s')) :
 s'.slots=s.slots/\s'.h=s.h/\aW E.ρ s'.pc/\∃x,(Instr.lookup ty um uk ok).run P w= .ok x w/\VR E w.heap v x:=by
 obtain⟨rfl,hl⟩:=EJ hat
 unfold Gy at h;split at h
 ·grind [T.leaf]
 ·rename_i a ie hmk;obtain⟨kt,et,dt,hu,hd1,hd2,hie,hrk⟩:=Io htt hk hmk;split at h
  ·grind [T.leaf]
  ·rename_i z hz;obtain⟨u0,z1,z2⟩:=Hz (P:=P) (w:=w) (E:=E) hie hz;obtain⟨ents,c',g1,g2⟩:=Il r hl;have hg:=iO (P:=P) g1 (by simp);simp only [VR] at hm;obtain⟨rfl,hid⟩:=hm;have hf:=Gp (i:=0) hd2 hrk g2;obtain⟨pc1,hp1,h1⟩:=bG hp h;rw [Du] at h1;simp only [SE.den,gB.den] at h1;rcases hf with ⟨q1,q2,_,_⟩|⟨j,x,en,q1,q2,q3,q4,q5,_,_⟩
   ·rw [q1] at h1;have:=aC h1;simp only [aCK] at this;obtain⟨rfl,rfl⟩:=this;refine⟨rfl,rfl,hp1,(if ok then .tuple #[u0,.bool false] else u0),?_,?_⟩
    ·cases ok<;>simp [Instr.lookup,run_underlying hu,hg,pR hd1 hd2,eG hd1 q2,z1]
    ·cases ok
     ·exact z2
     ·simp only [if_true,VR,bC];simp_all [z2,SB.den]
   ·rw [q1] at h1;have:=aC h1;simp only [aCK] at this;obtain⟨rfl,rfl⟩:=this
    have hval:VR E w.heap (wZ (mapOf t).2 (.op .EI e a)) en.val:=by rw [rG];simp only [SE.den,gB.den,aA,q1,aCT];exact q3.cell
    refine⟨rfl,rfl,hp1,(if ok then .tuple #[en.val,.bool true] else en.val),?_,?_⟩
    ·cases ok<;>simp [Instr.lookup,run_underlying hu,hg,pR hd1 hd2,eG hd1 q4]
    ·cases ok
     ·grind
     ·simp only [if_true,VR,bC]
      grind [SB.den]
theorem acV [Glob] {tt:TT} (htt:dU P tt) {s s':St} (r:aO E s.h w) {ty id t:Nat} {m k x v:AV} {e:SE} {um uk ux:Value} (hm:VR E w.heap m um) (hk:VR E w.heap k uk) (hx:VR E w.heap x ux) (hat:D7 m s.h=some (id,e,t)) (h:(Yl tt ty id k x e t s).leaf E.ρ=some (v,s')) :
 s'.slots=s.slots/\s'.pc=s.pc/\v=AV.undef/\∃w',(Instr.mapUpdate ty um uk ux).run P w= .ok () w'/\Stp E s.h w E s'.h w'/\aO E s'.h w':=by
 obtain⟨rfl,hl⟩:=EJ hat
 unfold Yl at h;split at h
 ·grind [T.leaf]
 ·rename_i a ie hmk;obtain⟨kt,et,dt,hu,hd1,hd2,hie,hrk⟩:=Io htt hk hmk;split at h
  ·grind [T.leaf]
  ·rename_i b hb;have:=aC h;simp only [aCK] at this;obtain⟨rfl,rfl⟩:=this;have hrx:=(nI hx hb).rd (rE hb);obtain⟨ents,c',g1,g2⟩:=Il r hl;have hg:=iO (P:=P) g1 (by simp);simp only [VR] at hm;obtain⟨rfl,hid⟩:=hm;refine⟨rfl,rfl,rfl,?_⟩
   have hden:dec ((SE.op .tK e (dV a b)).den E.ρ)=dL (oP (dec (e.den E.ρ)).l (dec (a.den E.ρ)) (dec (b.den E.ρ))):=by simp only [dV,SE.den,gB.den,aA]
   rcases Gp (i:=0) hd2 hrk g2 with ⟨q1,q2,q3,_⟩|⟨j,y,en,q1,q2,q3,q4,q5,q6,_⟩
   ·refine⟨_,?_,jT r hl (.gY (.op .tK e (dV a b)) t) (.map (ents.push { key:=uk,val:=ux,born:=c' }) (c'+1)) ?_⟩
    ·simp [Instr.mapUpdate,run_underlying hu,hg,pR hd1 hd2,eG hd1 q2,jD (P:=P) g1]
    ·intro h' hh kp;simp only [OR];refine⟨_,_,hh,?_⟩;rw [hden,aY,q3,Array.toList_push];exact mW.push (hrk.keep kp.ro kp.Jd) (hrx.keep kp.ro kp.Jd) (g2.keep kp.ro kp.Jd)
   ·simp only [aCR] at q4
    have hkt:(Instr.keyThatStays (((ents[j]?).map (·.key)).getD uk) uk).run P w= .ok uk w:=by have q2':=q2;rw [aDk] at q2';simp only [q2',aDo,aCT,Instr.keyThatStays];simp_all
    refine⟨_,?_,jT r hl (.gY (.op .tK e (dV a b)) t) (.map (ents.modify j fun e=>{ e with key:=uk,val:=ux }) c') ?_⟩
    ·simp [Instr.mapUpdate,run_underlying hu,hg,pR hd1 hd2,eG hd1 q4,hkt,jD (P:=P) g1]
    ·intro h' hh kp;simp only [OR];refine⟨_,_,hh,?_⟩;rw [hden,aY,q6,EH ents j en _ q2];exact mW.set (hrk.keep kp.ro kp.Jd) (hrx.keep kp.ro kp.Jd) (g2.keep kp.ro kp.Jd) q2
theorem QK [Glob] {tt:TT} (htt:dU P tt) {s s':St} (r:aO E s.h w) (hp:aW E.ρ s.pc) {ty:Nat} {m k x v:AV} {um uk ux:Value} (hm:VR E w.heap m um) (hk:VR E w.heap k uk) (hx:VR E w.heap x ux) (h:(TV tt ty m k x s).leaf E.ρ=some (v,s')) :
 s'.slots=s.slots/\aW E.ρ s'.pc/\v=AV.undef/\∃w' E',(Instr.mapUpdate ty um uk ux).run P w= .ok () w'/\Stp E s.h w E' s'.h w'/\aO E' s'.h w':=by
 unfold TV at h;obtain⟨vs,h1,pc1,E1,hp1,f,q,g⟩:=vC rfl r hp h;have hρ:=f.ρ;rw [<- hρ] at hp1 g;have hv:=q [ux] (by simp only [bC]; exact⟨ux,[],rfl,hx,rfl⟩);split at g
 ·rename_i x1;simp only [bC] at hv;obtain⟨u1,us1,e1,hx1,e2⟩:=hv;subst e2;simp only [List.cons.injEq,and_true] at e1;subst e1;split at g
  ·rename_i id e t hat
   obtain⟨a1,a2,a3,w',a4,a5,a6⟩:=acV htt (s:={ s with h:=h1,pc:=pc1 }) f.rel (VR.keep (f.dX.keeps r) _ _ hm) (VR.keep (f.dX.keeps r) _ _ hk) hx1 hat g;exact⟨a1,by rw [a2,<- hρ]; exact hp1,a3,w',E1,a4,f.dX.trans a5,a6⟩
  grind [T.leaf]
 grind [T.leaf]
theorem adA [Glob] {tt:TT} (htt:dU P tt) {s s':St} (r:aO E s.h w) {ty id t ts:Nat} {m k v:AV} {e:SE} {um uk:Value} (hm:VR E w.heap m um) (hk:VR E w.heap k uk) (hat:D7 m s.h=some (id,e,t)) (h:(Yw tt ty id k e t s).leaf E.ρ=some (v,s')) (tr:Nat) :
 s'.slots=s.slots/\s'.pc=s.pc/\v=AV.undef/\∃w',(Builtin.delete_ #[ty,ts] tr #[um,uk]).run P w= .ok (.tuple #[]) w'/\Stp E s.h w E s'.h w'/\aO E s'.h w':=by
 obtain⟨rfl,hl⟩:=EJ hat
 unfold Yw at h;split at h
 ·grind [T.leaf]
 ·rename_i a ie hmk;obtain⟨kt,et,dt,hu,hd1,hd2,hie,hrk⟩:=Io htt hk hmk;have:=aC h;simp only [aCK] at this;obtain⟨rfl,rfl⟩:=this;obtain⟨ents,c',g1,g2⟩:=Il r hl;have hg:=iO (P:=P) g1 (by simp);simp only [VR] at hm;obtain⟨rfl,hid⟩:=hm;refine⟨rfl,rfl,rfl,?_⟩
  have hden:dec ((SE.op .XR e a).den E.ρ)=dL (SX (dec (e.den E.ρ)).l (dec (a.den E.ρ))):=by simp only [SE.den,gB.den,aA]
  rcases Gp (i:=0) hd2 hrk g2 with ⟨q1,q2,_,q3⟩|⟨j,y,en,q1,q2,q3,q4,q5,_,q6⟩
  ·refine⟨_,?_,jT r hl (.gY (.op .XR e a) t) (.map ents c') ?_⟩
   ·simp [Builtin.delete_,run_underlying hu,hg,pR hd1 hd2,eG hd1 q2,jD (P:=P) g1]
   ·intro h' hh kp;simp only [OR];refine⟨_,_,hh,?_⟩;rw [hden,aY,q3];exact g2.keep kp.ro kp.Jd
  ·simp only [aCR] at q4;refine⟨_,?_,jT r hl (.gY (.op .XR e a) t) (.map (ents.eraseIdxIfInBounds j) c') ?_⟩
   ·simp [Builtin.delete_,run_underlying hu,hg,pR hd1 hd2,eG hd1 q4,jD (P:=P) g1]
   ·intro h' hh kp;simp only [OR];refine⟨_,_,hh,?_⟩;have hil:j<ents.size:=by have:=(aC1.1 q2).1; simpa using this
    have:(ents.eraseIdxIfInBounds j).toList=ents.toList.eraseIdx j:=by simp_all
    rw [this,hden,aY,q6];exact mW.erase (g2.keep kp.ro kp.Jd)
end
section
variable {P:Program} {E:En} {w:World}
theorem MS {m:AV} {h:Hp} {id t:Nat} {e:SE} {tys:List Nat} {ov:List (SE×AV)} (hm:MV m h=some (id,e,t,tys,ov)):m= .map id/\h.get id=some (.fam e t tys ov):=by
 unfold MV at hm;split at hm
 ·split at hm
  ·rename_i o ho;split at hm
   ·simp only [aCJ,aCK] at hm;obtain⟨rfl,rfl,rfl,rfl,rfl⟩:=hm;exact⟨rfl,ho⟩
   ·simp at hm
  ·simp at hm
 ·simp at hm
theorem QH {tt:TT} (htt:dU P tt) {h:Array Obj} {ty:Nat} {k:AV} {uk:Value} {x:SE} {ie:TI} (hk:VR E h k uk) (hm:TJ tt ty k=some (x,ie)) :
 ∃kt et dt,P.underlying ty=some (.map kt et)/\P.underlying kt=some dt/\EZ dt (.int .i64)/\qN P et ie/\uk= .int .i64 (x.den E.ρ):=by
 unfold TJ at hm;split at hm
 ·simp at hm
 ·rename_i ti hti;split at hm
  ·rename_i kt et hkind;split at hm
   ·simp at hm
   ·rename_i ki hki;split at hm
    ·rename_i hkk;split at hm
     ·simp at hm
     ·rename_i ie' hie;split at hm
      ·split at hm
       ·rename_i kk y aBV;simp only [aCJ,aCK] at hm;obtain⟨rfl,rfl⟩:=hm;subst aBV;simp only [VR] at hk;exact⟨kt,et,_,CV (htt ty ti hti) hkind,yS (htt kt ki hki) hkk,⟨_,rfl⟩,htt et ie' hie,hk⟩
       ·simp at hm
      ·simp at hm
    ·simp at hm
  ·simp at hm
theorem xR (ρ:Nat->Int) (x:SE):dec ((qR x).den ρ)= .i (x.den ρ):=by
 unfold qR;split
 ·simp only [SE.den,aA]
 ·simp only [SE.den,gB.den,aA]
theorem EP {α:Type} {ρ:Nat->Int} {x:SE} {k:Option AV->St->T α} {a:α}: ∀{ov:List (SE×AV)} {s:St},aW ρ s.pc->(Ac x ov s k).leaf ρ=some a->
 ∃pc',aW ρ pc'/\(k (oL ρ (x.den ρ) ov) { s with pc:=pc' }).leaf ρ=some a
 |[],s,hp,h=> ⟨s.pc,hp,h⟩
 |(y,v)::l,s,hp,h=>by
  simp only [Ac] at h;split at h
  ·rename_i he;have:=bI _ _ he;subst this;refine⟨s.pc,hp,?_⟩;simp only [oL,if_true];exact h
  ·obtain⟨pc1,hp1,h1⟩:=bG hp h;rw [jE] at h1;by_cases he:x.den ρ=y.den ρ
   ·simp only [he,beq_self_eq_true] at h1;refine⟨pc1,hp1,?_⟩;simp only [oL,aCL he.symm];exact h1
   ·have hf:(x.den ρ == y.den ρ)=false:=by simp [he]
    rw [hf] at h1;obtain⟨pc2,hp2,h2⟩:=EP (s:={ s with pc:=pc1 }) hp1 h1;refine⟨pc2,hp2,?_⟩;simp only [oL,aCI (fun q=>he (Eq.symm q))];exact h2
theorem QF {α:Type} {ρ:Nat->Int} {x:SE} {v:AV} {a:α}: ∀{ov:List (SE×AV)} {s:St} {k:Option (List (SE×AV))->St->T α},aW ρ s.pc->(TG x v ov s k).leaf ρ=some a->
 ∃pc',aW ρ pc'/\((oL ρ (x.den ρ) ov=none/\(k none { s with pc:=pc' }).leaf ρ=some a)\/
  ∃kJ,(∃u,oL ρ (x.den ρ) ov=some u)/\((∀n,oL ρ n kJ=if n=x.den ρ then some v else oL ρ n ov)/\kJ.map (·.1)=ov.map (·.1))/\(k (some kJ) { s with pc:=pc' }).leaf ρ=some a)
 |[],s,k,hp,h=> ⟨s.pc,hp,.inl ⟨rfl,h⟩⟩
 |(y,u)::l,s,k,hp,h=>by
  simp only [TG] at h
  have here:x.den ρ=y.den ρ->(∃u',oL ρ (x.den ρ) ((y,u)::l)=some u')/\((∀n,oL ρ n ((y,v)::l)=if n=x.den ρ then some v else oL ρ n ((y,u)::l))/\((y,v)::l).map (·.1)=((y,u)::l).map (·.1)):=by
   intro he;refine⟨⟨u,by simp only [oL,aCL he.symm]⟩,fun n=>?_,rfl⟩;simp only [oL];by_cases hn:n=x.den ρ
   ·rw [aCL hn,aCL (by rw [hn,he])]
   ·rw [aCI hn,aCI (fun q=>hn (by rw [he,q])),aCI (fun q=>hn (by rw [he,q]))]
  split at h
  ·rename_i he;have:=bI _ _ he;subst this;exact⟨s.pc,hp,.inr ⟨_,(here rfl).1,(here rfl).2,h⟩⟩
  ·obtain⟨pc1,hp1,h1⟩:=bG hp h;rw [jE] at h1;by_cases he:x.den ρ=y.den ρ
   ·have ht:(x.den ρ == y.den ρ)=true:=by simp [he]
    rw [ht] at h1;exact⟨pc1,hp1,.inr ⟨_,(here he).1,(here he).2,h1⟩⟩
   ·have hf:(x.den ρ == y.den ρ)=false:=by simp [he]
    rw [hf] at h1;obtain⟨pc2,hp2,h2⟩:=QF (s:={ s with pc:=pc1 }) hp1 h1;have hne: ¬y.den ρ=x.den ρ:=fun q=>he q.symm;refine⟨pc2,hp2,?_⟩;rcases h2 with ⟨g1,g2⟩|⟨kJ,⟨u',g1⟩,⟨g2,g4⟩,g3⟩
    ·exact .inl ⟨by simp only [oL,aCI hne]; exact g1,g2⟩
    ·refine .inr ⟨_,⟨u',by simp only [oL,aCI hne]; exact g1⟩,⟨fun n=>?_,by simp only [aCQ,g4]⟩,g3⟩;simp only [oL];by_cases hy:y.den ρ=n
     ·rw [aCL hy,aCL hy,aCI (fun q=>hne (by rw [hy,q]))]
     ·rw [aCI hy,aCI hy,g2 n]
theorem Gn {h:Array Obj} {B t:Nat} {tys:List Nat} {ov:List (SE×AV)} {dt:TypeDesc} (hd:EZ dt (.int .i64)) (n:Int): ∀{ds:List D} {ents:List MapEntry} {i:Nat},eU E h B t tys ov ds ents->
 (jF ds (.i n)=none/\D.i n∉ds.map lG/\Instr.findNow dt (.int .i64 n) ents i=some none/\(∀v,oP ds (.i n) v=ds++ [.p (.i n) v]))\/
 (∃j x e,jF ds (.i n)=some x/\D.i n∈ds.map lG/\ents[j]?=some e/\ds[j]?=some (.p (.i n) x)/\e.key= .int .i64 n/\(match oL E.ρ n ov with |some v=>VR E h v e.val|none=>vV E h B t tys (.i n) x e.val)/\
  Instr.findNow dt (.int .i64 n) ents i=some (some (i+j,e.val))/\(∀n',Instr.sameBits (n'+1) e.key (.int .i64 n)=true)/\(∀v,oP ds (.i n) v=ds.set j (.p (.i n) v)))
 |[],ents,i,he=>by simp only [eU] at he;subst he;exact .inl ⟨rfl,by simp,by simp [Instr.findNow],fun _=>rfl⟩
 |d::ds,ents,i,he=>by
  obtain⟨e,r,m,rfl,h1,h2,h3,h4⟩:=he;obtain⟨g1,g2⟩:=VD (ro:=E.ro) (h:=h) (c:=.int .i64) (.inl ⟨_,rfl⟩) hd (.int .i64 n) (.int .i64 m);have hk:lG d= .i m:=by rw [h1]; rfl
  rw [<- h2] at g1 g2;by_cases hkd:D.i m=D.i n
  ·have hmn:m=n:=by simpa using hkd
   subst hmn;have g1':Instr.sameNow dt (.int .i64 m) e.key=some true:=by rw [g1,decide_eq_true rfl]
   refine .inr ⟨0,Ux d,e,by simp only [jF,hk,if_true],by simp [hk],rfl,by rw [<- h1]; rfl,h2,h3,by simp [Instr.findNow,g1'],g2 rfl,fun v=>by simp only [oP,hk,if_true,aDU]⟩
  ·have g1':Instr.sameNow dt (.int .i64 n) e.key=some false:=by rw [g1,decide_eq_false (fun q=>hkd q.symm)]
   have hne: ¬lG d= .i n:=by rw [hk]; exact hkd
   rcases Gn (i:=i+1) hd n h4 with ⟨q1,q2,q3,q4⟩|⟨j,x,e',q1,q2,q3,q4,q5,q6,q7,q8,q9⟩
   ·refine .inl ⟨by simp only [jF,aCI hne,q1],?_,by simp [Instr.findNow,g1',q3],fun v=>by simp only [oP,aCI hne,q4,aC8]⟩;simp only [aCQ,aCP,not_or];exact⟨fun q=>hne q.symm,q2⟩
   ·refine .inr ⟨j+1,x,e',by simp only [jF,aCI hne,q1],by simp only [aCQ,aCP]; exact .inr q2,by simpa using q3,by simpa using q4,q5,q6,?_,q8,fun v=>by simp only [oP,aCI hne,q9,aDV]⟩;simp only [Instr.findNow,g1',q7]; congr 3; omega
theorem SG {ρ:Nat->Int} {n:Int} {v:AV}: ∀{ov:List (SE×AV)},oL ρ n ov=some v->n∈ov.map fun p=>p.1.den ρ
 |[],h=>by simp [oL] at h
 |(x,u)::l,h=>by
  simp only [oL] at h;simp only [aCQ,aCP];split at h
  ·rename_i he; exact .inl he.symm
  ·exact .inr (SG h)
theorem SC {ρ:Nat->Int} {n:Int}: ∀{ov:List (SE×AV)},oL ρ n ov=none->n∉ov.map fun p=>p.1.den ρ
 |[],_=>by simp
 |(x,u)::l,h=>by
  simp only [oL] at h;simp only [aCQ,aCP,not_or];split at h
  ·simp at h
  ·rename_i he; exact⟨fun q=>he q.symm,SC h⟩
theorem Hl.at {ρ:Nat->Int} {ds:List D} {ov:List (SE×AV)} (h:Hl ρ ds ov) {n:Int} {v:AV} (hv:oL ρ n ov=some v):D.i n∈ds.map lG:=by obtain⟨p,hp,he⟩:=aC4.1 (SG hv);rw [<- he];exact h.2.1 p hp
theorem Gq [Glob] {H:Hp} (r:aO E H w) {id t:Nat} {e:SE} {tys:List Nat} {ov:List (SE×AV)} (hl:H.get id=some (.fam e t tys ov)) :
 Hl E.ρ (dec (e.den E.ρ)).l ov/\∃ents c',w.heap[(E.θ id).1]?=some (.map ents c')/\eU E w.heap (E.θ id).1 t tys ov (dec (e.den E.ρ)).l ents.toList:=
 (r.live id _ hl).2.1
theorem Yp [Glob] {tt:TT} (htt:dU P tt) {s s':St} (r:aO E s.h w) (hp:aW E.ρ s.pc) {ty id t:Nat} {tys:List Nat} {ov:List (SE×AV)} {m k v:AV} {e:SE} {um uk:Value} {ok:Bool} (hm:VR E w.heap m um) (hk:VR E w.heap k uk) (hat:MV m s.h=some (id,e,t,tys,ov)) (h:(Gx tt ty k ok e ov s).leaf E.ρ=some (v,s')) :
 s'.slots=s.slots/\s'.h=s.h/\aW E.ρ s'.pc/\∃x,(Instr.lookup ty um uk ok).run P w= .ok x w/\VR E w.heap v x:=by
 obtain⟨rfl,hl⟩:=MS hat
 unfold Gx at h;split at h
 ·simp [T.leaf] at h
 ·rename_i x ie hmk;obtain⟨kt,et,dt,hu,hd1,hd2,hie,rfl⟩:=QH htt hk hmk;split at h
  ·simp [T.leaf] at h
  ·rename_i z hz;obtain⟨u0,z1,z2⟩:=Hz (P:=P) (w:=w) (E:=E) hie hz;obtain⟨g0,ents,c',g1,g2⟩:=Gq r hl;have hg:=iO (P:=P) g1 (by simp);simp only [VR] at hm;obtain⟨rfl,hid⟩:=hm;have hf:=Gn (i:=0) hd2 (x.den E.ρ) g2;obtain⟨pc1,hp1,h1⟩:=EP hp h
   cases ho:oL E.ρ (x.den E.ρ) ov with
   |some v1=>
    rw [ho] at h1;have:=aC h1;simp only [aCK] at this;obtain⟨rfl,rfl⟩:=this;rcases hf with ⟨q1,q2,_,_⟩|⟨j,y,en,q1,q2,q3,_,_,q6,q7,_,_⟩
    ·exact absurd (g0.at ho) q2
    ·rw [ho] at q6;refine⟨rfl,rfl,hp1,(if ok then .tuple #[en.val,.bool true] else en.val),?_,?_⟩
     ·cases ok<;>simp [Instr.lookup,run_underlying hu,hg,eY hd1 hd2,eG hd1 q7]
     ·cases ok
      ·exact q6
      ·simp only [if_true,VR,bC];exact⟨[en.val,.bool true],rfl,_,_,rfl,q6,_,_,rfl,by simp [SB.den],rfl⟩
   |none=>
    rw [ho] at h1;obtain⟨pc2,hp2,h2⟩:=bG hp1 h1;rw [Du] at h2;simp only [SE.den,gB.den,xR] at h2;rcases hf with ⟨q1,_,q2,_⟩|⟨j,y,en,q1,_⟩
    ·rw [q1] at h2;have:=aC h2;simp only [aCK] at this;obtain⟨rfl,rfl⟩:=this;refine⟨rfl,rfl,hp2,(if ok then .tuple #[u0,.bool false] else u0),?_,?_⟩
     ·cases ok<;>simp [Instr.lookup,run_underlying hu,hg,eY hd1 hd2,eG hd1 q2,z1]
     ·cases ok
      ·exact z2
      ·simp only [if_true,VR,bC];exact⟨[u0,.bool false],rfl,_,_,rfl,z2,_,_,rfl,by simp [SB.den],rfl⟩
    ·rw [q1] at h2;simp [T.leaf] at h2
theorem Fp [Glob] {H:Hp} (r:aO E H w) {id:Nat} {o:dG} (hl:H.get id=some o) (ao:dG) (o':Obj)
 (ho: ∀h',h'[(E.θ id).1]?=some o'->Keeps E w.heap E h'->(∀B key,HdK E w.heap E h' B key)->OR E h' id ao) :
 Stp E H w E (H.put id ao) { w with heap:=w.heap.setIfInBounds (E.θ id).1 o' }/\aO E (H.put id ao) { w with heap:=w.heap.setIfInBounds (E.θ id).1 o' }:=by
 have hlt:=iD r hl
 have hother: ∀b,b≠(E.θ id).1->({ w with heap:=w.heap.setIfInBounds (E.θ id).1 o' }:World).heap[b]?=w.heap[b]?:=fun b hb=>by
  grind
 refine Ls r hl ao (by simp) hother ⟨rfl,rfl,rfl⟩ (ho _ ?_ (pJ r hl hother) fun B key=>r.hdk rfl (fun b _ hn=>hother b fun e=>hn id o hl e.symm) B key)
 grind
theorem eU.set {h:Array Obj} {B t:Nat} {tys:List Nat} {ov kJ:List (SE×AV)} {n:Int} {v:AV} {ux:Value} (hx:VR E h v ux) (hv: ∀m,oL E.ρ m kJ=if m=n then some v else oL E.ρ m ov): ∀{ds:List D} {ents:List MapEntry} {j:Nat} {e:MapEntry},
 (ds.map lG).Nodup->eU E h B t tys ov ds ents->ents[j]?=some e->e.key= .int .i64 n->eU E h B t tys kJ ds (ents.set j { e with key:=.int .i64 n,val:=ux })
 |[],ents,j,e,_,he,hj,_=>by simp only [eU] at he; subst he; simp at hj
 |d::ds,ents,0,e,hnd,he,hj,hk=>by
  obtain⟨e0,r,m,rfl,h1,h2,h3,h4⟩:=he;simp at hj;subst hj;have hm:m=n:=by rw [h2] at hk; simpa using hk
  subst hm;simp only [aDU];refine⟨_,r,m,rfl,h1,rfl,?_,?_⟩
  ·rw [hv,aCL rfl]; exact hx
  ·simp only [aCQ,aDE] at hnd;have hk:lG d= .i m:=by rw [h1]; rfl
   rw [hk] at hnd;exact eU.other hv hnd.1 h4
 |d::ds,ents,j+1,e,hnd,he,hj,hk=>by
  obtain⟨e0,r,m,rfl,h1,h2,h3,h4⟩:=he;simp only [aDV];simp only [aCQ,aDE] at hnd;have hk0:lG d= .i m:=by rw [h1]; rfl
  have hj':r[j]?=some e:=by simpa using hj
  refine⟨e0,_,m,rfl,h1,h2,?_,eU.set hx hv hnd.2 h4 hj' hk⟩
  have hne:m≠n:=by rintro rfl;rw [hk0] at hnd;exact hnd.1 (eU.J8 h4 hj' hk)
  rw [hv,aCI hne];exact h3
where
 eU.other {h:Array Obj} {B t:Nat} {tys:List Nat} {ov kJ:List (SE×AV)} {n:Int} {v:AV} (hv: ∀m,oL E.ρ m kJ=if m=n then some v else oL E.ρ m ov): ∀{ds:List D} {ents:List MapEntry},D.i n∉ds.map lG->eU E h B t tys ov ds ents->eU E h B t tys kJ ds ents
 |[],_,_,he=>he
 |d::ds,_,hn,⟨e0,r,m,h0,h1,h2,h3,h4⟩=>by
  simp only [aCQ,aCP,not_or] at hn;have hk0:lG d= .i m:=by rw [h1]; rfl
  rw [hk0] at hn;refine⟨e0,r,m,h0,h1,h2,?_,eU.other hv hn.2 h4⟩;rw [hv,aCI (fun q=>hn.1 (by rw [q]))];exact h3
 eU.J8 {h:Array Obj} {B t:Nat} {tys:List Nat} {ov:List (SE×AV)} {n:Int}: ∀{ds:List D} {ents:List MapEntry} {j:Nat} {e:MapEntry},eU E h B t tys ov ds ents->ents[j]?=some e->e.key= .int .i64 n->D.i n∈ds.map lG
 |[],ents,j,e,he,hj,_=>by simp only [eU] at he; subst he; simp at hj
 |d::ds,ents,0,e,he,hj,hk=>by
  obtain⟨e0,r,m,rfl,h1,h2,h3,h4⟩:=he;simp at hj;subst hj;rw [h2] at hk;have hm:m=n:=by simpa using hk
  subst hm;rw [h1];simp [lG]
 |d::ds,ents,j+1,e,he,hj,hk=>by obtain⟨e0,r,m,rfl,h1,h2,h3,h4⟩:=he;simp only [aCQ,aCP];exact .inr (eU.J8 h4 (by simpa using hj) hk)
theorem eU.push {h:Array Obj} {B t:Nat} {tys:List Nat} {ov kJ:List (SE×AV)} {n:Int} {v:AV} {ux:Value} {c:Nat} {x:D} (hx:VR E h v ux) (hv: ∀m,oL E.ρ m kJ=if m=n then some v else oL E.ρ m ov): ∀{ds:List D} {ents:List MapEntry},D.i n∉ds.map lG->eU E h B t tys ov ds ents->
 eU E h B t tys kJ (ds++ [.p (.i n) x]) (ents++ [{ key:=.int .i64 n,val:=ux,born:=c }])
 |[],ents,_,he=>by simp only [eU] at he;subst he;refine⟨_,[],n,rfl,rfl,rfl,?_,rfl⟩;rw [hv,aCL rfl]; exact hx
 |d::ds,ents,hn,he=>by
  obtain⟨e0,r,m,rfl,h1,h2,h3,h4⟩:=he;simp only [aCQ,aCP,not_or] at hn;have hk0:lG d= .i m:=by rw [h1]; rfl
  rw [hk0] at hn;simp only [aC8];refine⟨e0,_,m,rfl,h1,h2,?_,eU.push hx hv hn.2 h4⟩;rw [hv,aCI (fun q=>hn.1 (by rw [q]))];exact h3
theorem Js [Glob] {tt:TT} (htt:dU P tt) {s s':St} (r:aO E s.h w) (hp:aW E.ρ s.pc) {ty id t:Nat} {tys:List Nat} {ov:List (SE×AV)} {m k x v:AV} {e:SE} {um uk ux:Value} (hm:VR E w.heap m um) (hk:VR E w.heap k uk) (hx:VR E w.heap x ux) (hat:MV m s.h=some (id,e,t,tys,ov)) (h:(Gw tt ty id k x e t tys ov s).leaf E.ρ=some (v,s')) :
 s'.slots=s.slots/\aW E.ρ s'.pc/\v=AV.undef/\∃w',(Instr.mapUpdate ty um uk ux).run P w= .ok () w'/\Stp E s.h w E s'.h w'/\aO E s'.h w':=by
 obtain⟨rfl,hl⟩:=MS hat
 unfold Gw at h;split at h
 ·simp [T.leaf] at h
 ·rename_i a ie hmk;obtain⟨kt,et,dt,hu,hd1,hd2,hie,rfl⟩:=QH htt hk hmk;obtain⟨g0,ents,c',g1,g2⟩:=Gq r hl;have hg:=iO (P:=P) g1 (by simp);simp only [VR] at hm;obtain⟨rfl,hid⟩:=hm;have hf:=Gn (i:=0) hd2 (a.den E.ρ) g2;obtain⟨pc1,hp1,h1⟩:=QF hp h;rcases h1 with ⟨ho,h1⟩|⟨kJ,⟨u',ho⟩,⟨hv,hks⟩,h1⟩
  ·obtain⟨pc2,hp2,h2⟩:=bG hp1 h1;rw [Du] at h2;simp only [SE.den,gB.den,xR] at h2;rcases hf with ⟨q1,q0,q2,q3⟩|⟨j,y,en,q1,_⟩
   ·rw [q1] at h2;have:=aC h2;simp only [aCK] at this;obtain⟨rfl,rfl⟩:=this;refine⟨rfl,hp2,rfl,_,?_,Fp r hl (.fam (.op .tK e (dV (qR a) (.dat (.i 0)))) t tys ((a,x)::ov)) (.map (ents.push { key:=.int .i64 (a.den E.ρ),val:=ux,born:=c' }) (c'+1)) ?_⟩
    ·simp [Instr.mapUpdate,run_underlying hu,hg,eY hd1 hd2,eG hd1 q2,jD (P:=P) g1]
    ·intro h' hh kp hk
     have hden:dec ((SE.op .tK e (dV (qR a) (.dat (.i 0)))).den E.ρ)=dL (oP (dec (e.den E.ρ)).l (.i (a.den E.ρ)) (.i 0)):=by simp only [dV,SE.den,gB.den,aA,xR]
     have hov: ∀m,oL E.ρ m ((a,x)::ov)=if m=a.den E.ρ then some x else oL E.ρ m ov:=by
      intro m;simp only [oL];by_cases hm:a.den E.ρ=m
      ·rw [aCL hm,aCL hm.symm]
      ·rw [aCI hm,aCI (fun q=>hm q.symm)]
     simp only [OR];rw [hden,aY,q3];refine⟨⟨?_,fun p hp=>?_,?_⟩,_,_,hh,?_⟩
     ·rw [aDQ,aEr];refine⟨g0.1,by simp,fun p hp q hq=>?_⟩;simp only [aCQ,List.map_nil,List.mem_singleton] at hq;rw [hq];intro eq;rw [eq] at hp;exact q0 hp
     ·rw [aDQ,aDp];rcases aCP.1 hp with rfl|hp
      ·exact .inr (by simp [lG])
      ·exact .inl (g0.2.1 p hp)
     ·simp only [aCQ,aDE];exact⟨SC ho,g0.2.2⟩
     ·rw [Array.toList_push];exact eU.push (VR.keep kp _ _ hx) hov q0 (g2.keep kp fun _ _=>hk _ _)
   ·rw [q1] at h2;simp [T.leaf] at h2
  ·have:=aC h1;simp only [aCK] at this;obtain⟨rfl,rfl⟩:=this;rcases hf with ⟨_,q2,_,_⟩|⟨j,y,en,q1,q2,q3,q4,q5,q6,q7,q8,q9⟩
   ·exact absurd (g0.at ho) q2
   ·simp only [aCR] at q7
    have hkt:(Instr.keyThatStays (((ents[j]?).map (·.key)).getD (.int .i64 (a.den E.ρ))) (.int .i64 (a.den E.ρ))).run P w= .ok (.int .i64 (a.den E.ρ)) w:=by have q3':=q3;rw [aDk] at q3';simp only [q3',aDo,aCT,Instr.keyThatStays];rw [aCL (q8 9999)];rfl
    refine⟨rfl,hp1,rfl,_,?_,Fp r hl (.fam e t tys kJ) (.map (ents.modify j fun e=>{ e with key:=.int .i64 (a.den E.ρ),val:=ux }) c') ?_⟩
    ·simp [Instr.mapUpdate,run_underlying hu,hg,eY hd1 hd2,eG hd1 q7,hkt,jD (P:=P) g1]
    ·intro h' hh kp hk;simp only [OR];refine⟨⟨g0.1,fun p hp=>?_,?_⟩,_,_,hh,?_⟩
     ·have:p.1∈kJ.map (·.1):=aC4.2 ⟨p,hp,rfl⟩;rw [hks] at this;obtain⟨q,hq,he⟩:=aC4.1 this;rw [<- he];exact g0.2.1 q hq
     ·have h1:(kJ.map fun p=>p.1.den E.ρ)=(kJ.map (·.1)).map fun x=>x.den E.ρ:=by rw [aDT]; rfl
      rw [h1,hks,aDT];exact g0.2.2
     ·rw [EH ents j en _ q3];exact eU.set (VR.keep kp _ _ hx) hv g0.1 (g2.keep kp fun _ _=>hk _ _) q3 q5
end
section
variable {P:Program} {E:En} {w:World}
theorem agX [Glob] {tt:TT} (htt:dU P tt) {H:Hp} (r:aO E H w) {t e k:Nat} {i ie:TI} {k1 k2:IntKind} (hi:tt t=some i) (hk:i.kind= .slice e) (hie:tt e=some ie) (hz0:ie.zero.length=ie.size) (hs0:0<ie.size) (hb0:ie.bytes≠0) (hbm:ie.bytes*k<=140737488355328) (hpos:0<k) :
 ∃x w' E',(Instr.makeSlice t (.int k1 k) (.int k2 k)).run P w= .ok x w'/\Stp E H w E' (H.new (.cells (repeatL ie.zero k) e)) w'/\aO E' (H.new (.cells (repeatL ie.zero k) e)) w'/\VR E' w'.heap (.slice H.fresh 0 k (.rest ie.size)) x:=by
 have hti:=htt t i hi;have htie:=htt e ie hie;obtain⟨inf,z,g1,g2,g3,g4,g5⟩:=Dt htie;have hz:=fC (E:=E) (h:=w.heap) g5;have hzl:z.cells.size=ie.size:=by have:=hz.1.length; simp only [aC9] at this; omega
 have hkb:k<=140737488355328:=by refine aDb ?_ hbm;exact Nat.le_mul_of_pos_left _ (by omega)
 have wn:IntKind.i64.wrap (k:Int)=(k:Int):=by rw [<- oG]; simp only [AP]; rw [aCL (by constructor<;>omega)]
 have ai: ∀(q:IntKind) (x:Int) (w:World),(asInt (Value.int q x)).run P w= .ok x w:=fun _ _ _=>rfl
 have hne:z.cells.toList≠[]:=by
  intro hx;have hx':z.cells.size=0:=by have:=congrArg List.length hx; simpa using this
  omega
 have hzz:=A8 z.cells hne k;rw [hzl] at hzz;obtain⟨us',e1⟩ : ∃us':Array Value,((Array.range (k*inf.size)).map (z.cells[·% z.cells.size]!))=us':=⟨_,rfl⟩
 have e1':us'.toList=repeatL z.cells.toList k:=by
  grind
 have e2:bC E w.heap (repeatL ie.zero k) us'.toList:=by rw [e1']; exact pI hz.1 k
 have e3: ∀u∈us'.toList,u.oneCell'=true:=by rw [e1']; intro u hu; exact hz.2 u (pG hu)
 have hsz:us'.size=k*ie.size:=by rw [<- aC9,e1',repeatL_length,aC9,hzl]
 refine⟨.slice (some ⟨w.heap.size,0,none⟩) k k,{ w with heap:=w.heap.push (.cells us' e) },E.ext H.fresh (w.heap.size,0) us'.size,?_,?_⟩
 ·have t1: ¬((k:Int)<0):=by omega
  have t2: ¬((inf.bytes:Int)*(k:Int) > 2 ^ 48):=by
   grind
  have t4: ¬((k:Int) > (k:Int)):=by omega
  have t5:(askRoom (k*inf.bytes)).run P w= .ok () w:=by
   have: ¬(k*inf.bytes > roomBytes):=by
    unfold roomBytes
    grind
   unfold askRoom;rw [aCI this];rfl
  have t6:(k:Int).toNat=k:=rfl
  have h0: ¬(k*inf.size=0):=by rw [g2];have:=aEb hpos hs0;omega
  simp only [Instr.makeSlice,Sem.run_bind,run_underlying (fH hti hk),Result.andThen_ok,ai,sizeOf,typeInfo,zeroValue,run_program,g1,g4,Sem.run_pure,newRow,Sem.run_ite,wn,t1,t2,t4,t6,h0,decide_false,aEm,aCU,if_false];rw [t5,Result.andThen_ok,e1];rfl
 ·obtain⟨s1,s2⟩:=kG r us' 0 0 e e2 e3 (fun i u hu=>by rw [<- aDk]; exact hu) (by omega) (w':={ w with heap:=w.heap.push (.cells us' e) }) rfl ⟨rfl,rfl,rfl⟩;refine⟨s1,s2,?_⟩;simp only [VR];refine⟨En.iP _ _ _ _,⟨w.heap.size,0,none⟩,k,rfl,aCN _,?_⟩;simp only [eX,En.ext_θ_new,En.ext_κ_new]
  grind
theorem Yn [Glob] {tt:TT} (htt:dU P tt) {s s':St} (r:aO E s.h w) (hp:aW E.ρ s.pc) {t:Nat} {l c v:AV} {lu cu:Value} (hl:VR E w.heap l lu) (hc:VR E w.heap c cu) (h:(TY tt t l c s).leaf E.ρ=some (v,s')) :
 s'.slots=s.slots/\aW E.ρ s'.pc/\∃x w' E',(Instr.makeSlice t lu cu).run P w= .ok x w'/\Stp E s.h w E' s'.h w'/\aO E' s'.h w'/\VR E' w'.heap v x:=by
 unfold TY at h;split at h
 ·rename_i k n;split at h
  ·rename_i k2 n2;split at h
   ·simp [T.leaf] at h
   ·rename_i hnn;have hnn:=bI _ _ hnn;subst hnn;simp only [VR] at hl hc;subst hl hc;split at h
    ·simp [T.leaf] at h
    ·rename_i i hi;split at h
     ·simp [T.leaf] at h
     ·rename_i o ho;split at h
      ·rename_i e hk;split at h
       ·simp [T.leaf] at h
       ·rename_i ie hie;split at h
        ·simp [T.leaf] at h
        ·rename_i z hz;split at h
         ·rename_i hcond;obtain⟨hes,hs0,hb0,hzl⟩:=hcond;obtain⟨pc1,hp1,h1⟩:=bG hp h;split at h1
          ·simp [T.leaf] at h1
          ·rename_i t1;obtain⟨pc2,hp2,h2⟩:=bG (s:={ s with pc:=pc1 }) hp1 h1;split at h2
           ·rename_i t2;split at h2
            ·rename_i v0 h0 hm;have:=aC h2;simp only [aCK] at this;obtain⟨rfl,rfl⟩:=this;rw [jP,beq_iff_eq] at t2;simp only [SE.den] at t2;rw [t2];obtain⟨x,w',E',q1,q2,q3,q4⟩:=BQ (P:=P) htt r (lu:=.int k 0) (cu:=.int k2 0) (by simp only [VR,SE.den]) (by simp only [VR,SE.den]) hm
             grind
            ·simp [T.leaf] at h2
           ·rename_i t2;obtain⟨pc3,hp3,h3⟩:=bG (s:={ s with pc:=pc2 }) hp2 h2;split at h3
            ·rename_i t3;have:=aC h3;simp only [aCK] at this;obtain⟨rfl,rfl⟩:=this;rw [dJ,decide_eq_false_iff_not] at t1;rw [jP,beq_eq_false_iff_ne] at t2;rw [dJ,decide_eq_true_eq] at t3;simp only [SE.den] at t1 t2 t3;obtain⟨m,hm⟩ : ∃m:Nat,n.den E.ρ=(m:Int):=⟨(n.den E.ρ).toNat,by omega⟩;rw [hm] at t2 t3 ⊢;have hpos:0<m:=by omega
             have hbm:ie.bytes*m<=140737488355328:=by
              unfold roomOf at t3
              have h1:m<=140737488355328 / ie.bytes:=by
               grind
              exact aDb (Nat.mul_le_mul_left _ h1) (Nat.mul_div_le _ _)
             obtain⟨x,w',E',q1,q2,q3,q4⟩:=agX (P:=P) (k1:=k) (k2:=k2) htt r hi hk hie hzl hs0 hb0 hbm hpos;have hρ:=q2.ρ
             have hd:dec ((SE.op .rep n z).den E'.ρ)=dL (List.replicate m (dec (z.den E'.ρ))):=by
              have:n.den E'.ρ=(m:Int):=by rw [hρ]; exact hm
              simp only [SE.den,gB.den,aA,this,aDj]
             have hlen:(dec ((SE.op .rep n z).den E'.ρ)).l.length=m:=by rw [hd,aY,aDY]
             have hwz:vT (rowOf o) (dec (z.den E'.ρ)):=Ar hz
             have hcl:(bH E'.ρ (.op .rep n z) o []).length=(repeatL ie.zero m).length:=by unfold bH;rw [bF (mF _),hlen,repeatL_length,hzl,hes]
             have hrep: ∀(q:Nat) (us:List Value),bC E' w'.heap (repeatL ie.zero q) us->bC E' w'.heap (aF E'.ρ (rowOf o) [] (List.replicate q (dec (z.den E'.ρ))) 0) us:=by
              intro q
              induction q with
              |zero=>intro us h; exact h
              |succ q ih=> intro us h;simp only [repeatL] at h;obtain⟨us1,us2,rfl,a,b⟩:=bC.split h;simp only [aEN,aF,dM];rw [mO _ 1 0];refine bC.append ?_ (ih _ b);rw [iH];simp only [SE.den,aA];exact Au a hz
             have r2:=J6 (e1:=.op .rep n z) (t:=o) q3 ⟨by rw [hd,aY],fun d hd'=>by
              rw [hd,aY] at hd';rw [aE5 hd']
              exact hwz,fun hq=>by rw [hq] at hlen; simp at hlen; omega⟩ hcl (fun us hu=>by
              unfold bH;rw [hd,aY]
              exact hrep m us hu)
             refine⟨rfl,hp3,x,w',E',q1,q2.right (Dk rfl rfl fun _=>rfl),r2,?_⟩;simp only [VR] at q4 ⊢;obtain⟨p1,a,cap,p2,p3,p4⟩:=q4;refine⟨p1,m,a,cap,by rw [bD,hlen],p2,p3,?_⟩
             grind
            ·simp [T.leaf] at h3
         ·simp [T.leaf] at h
      ·simp [T.leaf] at h
  ·simp [T.leaf] at h
 ·simp [T.leaf] at h
end
theorem UG {α β:Type} (f:α->β) (xs:Array α):xs.map f=(xs.toList.map f).toArray:=by
 grind
def sV (P:Program) (R:Value->World->Prop):Result Next->Prop
 | .ok (.value u) w'=>R u w'
 | .ok (.enter f args) w'=>Calls P f args w' fun e w''=> ∃u,e= .returned u/\R u w''
 |_=>False
def oK (P:Program) (g:FuncId) (vals:Array Value) (w:World) (R:Value->World->Prop):Prop:=sV P R ((callFunc g vals).run P w)
def lX [Glob] (P:Program) (g:FuncId) (f:List AV->St->T (AV×St)):Prop:=
 ∀(args:List AV) (s:St) (E:En) (w:World) (vals:List Value) (v:AV) (s':St),aO E s.h w->bC E w.heap args vals->aW E.ρ s.pc->(f args s).leaf E.ρ=some (v,s')->
  s'.slots=s.slots/\aW E.ρ s'.pc/\oK P g vals.toArray w (After E s w v s')
theorem FZ {E:En} {h:Array Obj} {k:Nat} {e:SE} {i:Nat} (he:e.den E.ρ=(i:Int)): ∀(ks:List IntKind) (j:Nat),
 bC E h (BH k e ks j) ((ks.zipIdx j).map fun p=> .int p.1 (E.ρ (1000+i*64+(k*8+p.2))))
 |[],j=>by simp [BH,bC]
 |kd::ks,j=>by simp only [BH,List.zipIdx_cons,aCQ];rw [aT];refine⟨_,_,rfl,?_,FZ he ks (j+1)⟩;simp only [VR,SE.den,he,aDj]
theorem Yt {P:Program} {E:En} {w:World} {tt:TT} (htt:dU P tt) {pc:List (SB×Bool)} (hp:aW E.ρ pc) {t k:Nat} {ks:List IntKind} {ix v:AV} {u ui:Value} (hx:VR E w.heap (.inp k ks) u) (hix:VR E w.heap ix ui)
 (h:Ua tt pc t k ks ix=some v): ∃r,(Instr.indexAt t u ui).run P w= .ok r w/\VR E w.heap v r:=by
 unfold Ua at h;split at h
 ·rename_i kd e;split at h
  ·rename_i ti hti;split at h
   ·rename_i el hk;have hu:=fH (htt t ti hti) hk;split at h
    ·rename_i s hs;simp only [jS,aCX] at hs;obtain⟨ie,hie,rfl⟩:=hs;split at h
     ·rename_i hc;split at h
      ·rename_i h1 h2;simp at h;subst h;have h1:=iQ hp h1;have h2:=iQ hp h2;rw [dJ,decide_eq_false_iff_not] at h1;rw [dJ,decide_eq_true_eq] at h2;simp only [SE.den,aDN] at h1 h2;simp only [VR] at hx hix;subst hix;rcases hx with ⟨⟨x,cap,rfl⟩,h0⟩|⟨b,o,n,cap,rfl,g1,g2,g3,g4⟩
       ·omega
       ·obtain⟨i,hi⟩ : ∃i:Nat,e.den E.ρ=(i:Int):=⟨(e.den E.ρ).toNat,by omega⟩;have hin:i<n:=by omega
        refine⟨.pointer (some ⟨b,o+i*ie.size,none⟩),?_,?_⟩
        ·rw [hi];simp [Instr.indexAt,asIntOf,run_underlying hu,dS (htt el ie hie),hin,fE]
        ·simp only [VR];refine⟨b,_,_,rfl,g3,FZ hi ks 0,?_,?_⟩
         ·intro j u hj
          grind
         ·intro u hu';rw [aC4] at hu';obtain⟨p,_,rfl⟩:=hu';rfl
      grind
     grind
    grind
   grind
  grind
 grind
def qOp (q:Bool):BinOp:=match q with
 |true=> .quo
 |false=> .rem
def amS (q:Bool) (k:IntKind) (x y:Int):Int:=match q with
 |true=>k.wrap (x.tdiv y)
 |false=>x.tmod y
theorem amR {E:En} {s s':St} {q:Bool} {k:IntKind} {e d:SE} {v:AV} (hp:aW E.ρ s.pc) (h:(auA s q k e d).leaf E.ρ=some (v,s')) :
 s'.slots=s.slots/\s'.h=s.h/\aW E.ρ s'.pc/\d.den E.ρ≠0/\∀h,VR E h v (.int k (amS q k (e.den E.ρ) (d.den E.ρ))):=by
 unfold auA at h;obtain⟨pc',hp',h3⟩:=bG hp h;rw [jE] at h3;split at h3
 ·grind [T.leaf]
 ·rename_i he;simp only [T.leaf,aCJ,aCK] at h3;obtain⟨rfl,rfl⟩:=h3;simp only [SE.den,beq_eq_false_iff_ne,ne_eq] at he;exact⟨rfl,rfl,hp',he,fun h=>by cases q<;>simp only [VR,SE.den,amS]⟩
theorem abP {E:En} {h:Array Obj} {op:BinOp} {a b:AV} {q:Bool} {k:IntKind} {e d:SE} (hr:XE op a b=some (q,k,e,d)) {u u':Value} (ha:VR E h a u) (hb:VR E h b u') :
 op=qOp q/\u= .int k (e.den E.ρ)/\u'= .int k (d.den E.ρ):=by
 unfold XE at hr;split at hr
 ·rename_i q' hq
  have hop:op=qOp q':=by split at hq<;>simp only [aCJ,reduceCtorEq] at hq<;>subst hq<;>rfl
  cases a with
  |int k1 e1=>
   cases b with
   |int k2 e2=>
    simp only at hr;split at hr
    ·simp at hr
    ·split at hr
     ·rename_i hc;simp only [aCJ,aCK] at hr;obtain⟨rfl,rfl,rfl,rfl⟩:=hr;simp only [VR] at ha hb;exact⟨hop,ha,by rw [hb,hc]⟩
     ·simp at hr
   |_=>simp at hr
  |_=>simp at hr
 ·simp at hr
def jO [Glob] (P:Program) (call:dQ):Prop:= ∀g,lX P g (call g)
theorem vW.next {P:Program} {o:Oper} {a:Act} {w:World} {R:Value->World->Prop} (h:sV P R ((execOp a.eval o).run P w)):vW P o a w R:=by
 intro K Q hk;unfold Oper.wp;generalize (execOp a.eval o).run P w=r at h
 cases r with
 |halt x w'=>exact h.elim
 |ok n w'=>
  cases n<;>first
   |exact h.elim
   |exact hk _ _ h
   |(exact Calls.mono h fun e w'' ⟨u,he,hr⟩=>by subst he; exact hk _ _ hr)
theorem Oa {tt:TT} {t n:Nat} {ix:AV} {e:SE} (h:aaL tt t ix=some (n,e)): ∃k ti el ie,ix= .int k e/\tt t=some ti/\ti.kind= .array n el/\tt el=some ie/\ie.size=1/\ie.agg=false:=by
 unfold aaL at h;split at h
 all_goals grind
section
variable {P:Program} {E:En} {w:World} {s s':St} {o:Oper} {a:Act} {v:AV}
theorem Ui [Glob] {tt:TT} (htt:dU P tt) (r:aO E s.h w) (hp:aW E.ρ s.pc) {b:Builtin} {ts:List Nat} {args:List AV} {vals:List Value} (hv:bC E w.heap args vals) (ty:Nat) (cs:Array Bool)
 (h:(Dz tt s b ts args).leaf E.ρ=some (v,s')):s'.slots=s.slots/\aW E.ρ s'.pc/\∃u w',(builtin b ts.toArray ty cs vals.toArray).run P w= .ok (.value u) w'/\After E s w v s' u w':=by
 unfold Dz at h;split at h
 ·rename_i t x;obtain⟨e1,rfl⟩:=kN h;rw [aT] at hv;obtain⟨u,vs,rfl,hx,hxs⟩:=hv;rw [jI] at hxs;subst hxs;obtain⟨y,h1,h2⟩:=aiH (ty:=ty) htt r hx e1;exact⟨rfl,hp,y,w,by simp [builtin,h1],E,Stp.refl _ _ _,r,h2⟩
 ·rename_i t t2 id lo n t' y;rw [aT] at hv;obtain⟨u,vs,rfl,hx,hxs⟩:=hv;rw [aT] at hxs;obtain⟨u2,vs,rfl,hy,hys⟩:=hxs;rw [jI] at hys;subst hys;split at h
  ·rename_i hz;obtain⟨q1,q2,z,w',E',h1,h2,h3,h4⟩:=Wh (ty:=ty) htt r hp hz hx hy h;exact⟨q1,q2,z,w',by simp [builtin,h1],E',h2,h3,h4⟩
  grind [T.leaf]
 ·rename_i t t2 x y _;rw [aT] at hv;obtain⟨u,vs,rfl,hx,hxs⟩:=hv;rw [aT] at hxs;obtain⟨u2,vs,rfl,hy,hys⟩:=hxs;rw [jI] at hys;subst hys;split at h
  ·rename_i hown;obtain⟨q1,q2,z,w',E',h1,h2,h3,h4⟩:=Uk (ty:=ty) htt r hp hx hy (fun hd=>by rw [hd,aEm] at hown; exact VF hx hown) h;exact⟨q1,q2,z,w',by simp [builtin,h1],E',h2,h3,h4⟩
  obtain⟨H,e1,rfl⟩:=uY h;obtain⟨z,w',E',h1,h2,h3,h4⟩:=V9 (ty:=ty) htt r hx hy e1;exact⟨rfl,hp,z,w',by simp [builtin,h1],E',h2,h3,h4⟩
 ·rename_i t ts' m k;rw [aT] at hv;obtain⟨u,vs,rfl,hx,hxs⟩:=hv;rw [aT] at hxs;obtain⟨u2,vs,rfl,hy,hys⟩:=hxs;rw [jI] at hys;subst hys;split at h
  ·rename_i id e t' hat
   obtain⟨q1,q2,rfl,w',h1,h2,h3⟩:=adA (ts:=ts') htt r hx hy hat h ty;exact⟨q1,by rw [q2]; exact hp,.tuple #[],w',by simp [builtin,h1],E,h2,h3,by simp only [AV.undef,VR,bC]; exact⟨[],rfl,rfl⟩⟩
  obtain⟨pc',hp',h⟩:=wB hp h;obtain⟨H,e1,rfl,rfl⟩:=FI h;obtain⟨w',h1,h2,h3⟩:=V8 (ts:=ts') htt hp' r hx hy e1 ty;exact⟨rfl,hp',.tuple #[],w',by simp [builtin,h1],E,h2,h3,by simp only [AV.undef,VR,bC]; exact⟨[],rfl,rfl⟩⟩
 ·rename_i t id n t';rw [aT] at hv;obtain⟨u,vs,rfl,hx,hxs⟩:=hv;rw [jI] at hxs;subst hxs;obtain⟨q1,q2,rfl,w',E',h1,h2,h3⟩:=Jt (ty:=ty) htt r hp (Y6 hx) h;exact⟨q1,q2,.tuple #[],w',by simp [builtin,h1],E',h2,h3,by simp only [AV.undef,VR,bC]; exact⟨[],rfl,rfl⟩⟩
 ·rename_i t id lo n t';rw [aT] at hv;obtain⟨u,vs,rfl,hx,hxs⟩:=hv;rw [jI] at hxs;subst hxs;obtain⟨q1,q2,rfl,w',E',h1,h2,h3⟩:=Jt (ty:=ty) htt r hp hx h;exact⟨q1,q2,.tuple #[],w',by simp [builtin,h1],E',h2,h3,by simp only [AV.undef,VR,bC]; exact⟨[],rfl,rfl⟩⟩
 ·rename_i t x _ _;obtain⟨H,e1,rfl,rfl⟩:=FI h;rw [aT] at hv;obtain⟨u,vs,rfl,hx,hxs⟩:=hv;rw [jI] at hxs;subst hxs;obtain⟨w',h1,h2,h3⟩:=Yz (ty:=ty) htt r hx e1;exact⟨rfl,hp,.tuple #[],w',by simp [builtin,h1],E,h2,h3,by simp only [AV.undef,VR,bC]; exact⟨[],rfl,rfl⟩⟩
 ·rename_i k e xs;rw [aT] at hv;obtain⟨u,vs,rfl,hx,hxs⟩:=hv;simp only [VR] at hx;subst hx;obtain⟨q1,q2,q3,u,q4,q5⟩:=rC (P:=P) (w:=w) hp hxs h;refine⟨q2,q3,u,w,?_,E,by rw [q1]; exact Stp.refl _ _ _,by rw [q1]; exact r,q5⟩;simp only [aCU,if_false] at q4;simp [builtin,Builtin.min_,q4]
 ·rename_i k e xs;rw [aT] at hv;obtain⟨u,vs,rfl,hx,hxs⟩:=hv;simp only [VR] at hx;subst hx;obtain⟨q1,q2,q3,u,q4,q5⟩:=rC (P:=P) (w:=w) hp hxs h;refine⟨q2,q3,u,w,?_,E,by rw [q1]; exact Stp.refl _ _ _,by rw [q1]; exact r,q5⟩;simp only [if_true] at q4;simp [builtin,Builtin.max_,q4]
 grind [T.leaf]
theorem adB [Glob] {tt:TT} (htt:dU P tt) {call:dQ} (hc:jO P call) (r:aO E s.h w) (sr:SR E w.heap s.slots a) (hp:aW E.ρ s.pc) {c:Call} (ho:o.op= .call c)
 (h:(Uh tt call s c).leaf E.ρ=some (v,s')):nK P E s o a w v s':=by
 unfold Uh at h;split at h
 ·grind [T.leaf]
 ·rename_i args hargs;have hv:=TL sr hargs;have hmap:c.args.map a.eval=(c.args.toList.map a.eval).toArray:=UG _ _;split at h
  ·rename_i b avD;obtain⟨q1,q2,u,w',q3,q4⟩:=Ui htt r hp hv o.type (c.args.map fun| .const _=>true|_=>false) h;refine⟨q1,q2,vW.value ?_ q4⟩;simp only [execOp,ho,resolve,avD,Sem.run_bind,Sem.run_pure,Result.andThen_ok,invoke,hmap];exact q3
  ·rename_i f avD;split at h
   ·rename_i g fs cs hf;have hfv:=iG sr hf;simp only [VR] at hfv;obtain⟨us,ws,he,h1,h2⟩:=hfv;obtain⟨q1,q2,q3⟩:=hc g _ s E w _ v s' r ((h1.append hv).append h2) hp h;refine⟨q1,q2,vW.next ?_⟩;unfold oK at q3;simp only [execOp,ho,resolve,avD,Sem.run_bind,he,Deferred.ofValue,Sem.run_pure,Result.andThen_ok,invoke,hmap]
    grind
   grind [T.leaf]
  grind [T.leaf]
theorem akS [Glob] {α:Type} {E:En} {h:Array Obj} {v:AV} {u:Value} {s:St} {k:AV->St->T α} {r:α} (hp:aW E.ρ s.pc) (hv:VR E h v u) (hl:(akT v s k).leaf E.ρ=some r) :
 ∃v' pc',aW E.ρ pc'/\VR E h v' u/\(k v' { s with pc:=pc' }).leaf E.ρ=some r:=by
 unfold akT at hl;split at hl
 ·split at hl
  ·exact⟨_,s.pc,hp,hv,hl⟩
  ·obtain⟨pc1,hp1,h1⟩:=bG hp hl;refine⟨_,pc1,hp1,?_,h1⟩;simp only [VR,SB.den] at *;exact hv
 ·exact⟨_,s.pc,hp,hv,hl⟩
theorem Z5 [Glob] {tt:TT} (htt:dU P tt) {call:dQ} (hc:jO P call) (r:aO E s.h w) (sr:SR E w.heap s.slots a) (hp:aW E.ρ s.pc) (h:(TW tt call s o.op).leaf E.ρ=some (v,s')):nK P E s o a w v s':=by
 obtain⟨dst,op,type,pos,after,guard⟩:=o;simp only at h;cases op<;>simp only [TW] at h<;>first |(simp [T.leaf] at h; done)|skip
 case move x=>
  obtain⟨u,h1,h2⟩:=iY sr h;have:=aC h2;simp only [aCK] at this;obtain⟨rfl,rfl⟩:=this;exact nK.pure hp r (u:=a.eval x) rfl h1
 case assign x=>
  obtain⟨u,h1,h2⟩:=iY sr h;have:=aC h2;simp only [aCK] at this;obtain⟨rfl,rfl⟩:=this;exact nK.pure hp r (u:=a.eval x) rfl h1
 case pick c x y=>
  obtain⟨cv,h1,h2⟩:=iY sr h;split at h2
  ·rename_i cb;obtain⟨pc',hp',h3⟩:=bG hp h2;simp only [VR] at h1;cases hcd:cb.den E.ρ<;>rw [hcd] at h1 h3
   ·simp only [aCU,if_false] at h3;obtain⟨u,h4,h5⟩:=iY (s:={ s with pc:=pc' }) sr h3;have:=aC h5;simp only [aCK] at this;obtain⟨rfl,rfl⟩:=this;exact⟨rfl,hp',vW.value (u:=a.eval y) (by simp [execOp,h1,asBool]) ⟨E,Stp.refl _ _ _,r,h4⟩⟩
   ·simp only [if_true] at h3;obtain⟨u,h4,h5⟩:=iY (s:={ s with pc:=pc' }) sr h3;have:=aC h5;simp only [aCK] at this;obtain⟨rfl,rfl⟩:=this;exact⟨rfl,hp',vW.value (u:=a.eval x) (by simp [execOp,h1,asBool]) ⟨E,Stp.refl _ _ _,r,h4⟩⟩
  ·simp [T.leaf] at h2
 case alloc t=>
  split at h
  ·rename_i i hi;have:=aC h;simp only [aCK] at this;obtain⟨rfl,rfl⟩:=this;obtain⟨inf,z,g1,g2,g3,g4,g5⟩:=Dt (htt t i hi);have hz:=fC (E:=E) (h:=w.heap) g5;obtain⟨s1,s2⟩:=kG r z.cells 0 0 t hz.1 hz.2 (fun i u hu=>by rw [<- aDk]; exact hu) (by omega) (w':={ w with heap:=w.heap.push (.cells z.cells t) }) rfl ⟨rfl,rfl,rfl⟩;exact nK.heap hp (u:=.pointer (some ⟨w.heap.size,0,none⟩)) (by simp [execOp,Instr.alloc,zeroValue,typeInfo,g1,g4,newVar,newRow]) s1 s2 (Sv r _ _ 0)
  ·simp [T.leaf] at h
 case box t x=>
  obtain⟨u,h1,h2⟩:=iY sr h;split at h2
  ·rename_i hone;have:=aC h2;simp only [aCK] at this;obtain⟨rfl,rfl⟩:=this;have hcv:=h1.cells hone;obtain⟨s1,s2⟩:=kG r (a.eval x).cells 0 0 t hcv (hcv.ones hone) (fun i u hu=>by rw [<- aDk]; exact hu) (by omega) (w':={ w with heap:=w.heap.push (.cells (a.eval x).cells t) }) rfl ⟨rfl,rfl,rfl⟩;exact nK.heap hp (u:=.pointer (some ⟨w.heap.size,0,none⟩)) (by simp [execOp,Instr.box,newVar,newRow]) s1 s2 (Sv r _ _ 0)
  ·simp [T.leaf] at h2
 case build t parts=>
  split at h
  ·rename_i ps hps;obtain⟨e1,rfl⟩:=kN h;have hpr:=ER sr hps;obtain⟨x,h1,h2⟩:=YB (w:=w) (ps:=parts.map fun p=>(p.1,a.eval p.2)) htt (by simpa using hpr) e1;exact nK.pure hp r (u:=x) (by simp [execOp,h1]) h2
  ·simp [T.leaf] at h
 case buildSlice t len parts=>
  split at h
  ·rename_i ps hps;obtain⟨H,e1,rfl⟩:=uY h;have hpr:=ER sr hps;obtain⟨x,w',E',h1,h2,h3,h4⟩:=JH (ps:=parts.map fun p=>(p.1,a.eval p.2)) htt r (by simpa using hpr) e1;exact nK.heap hp (u:=x) (by simp [execOp,h1]) h2 h3 h4
  ·simp [T.leaf] at h
 case makeSlice t l c=>
  obtain⟨u,h1,h2⟩:=iY sr h;split at h2
  ·rename_i cv hc;split at h2
   ·rename_i q hq;obtain⟨H,e1,rfl⟩:=uY h2;simp only [aCJ] at e1;subst e1;obtain⟨x,w',E',g1,g2,g3,g4⟩:=BQ htt r h1 (iG sr hc) hq;exact nK.heap hp (u:=x) (by simp [execOp,g1]) g2 g3 g4
   ·obtain⟨q1,q2,x,w',E',g1,g2,g3,g4⟩:=Yn htt r hp h1 (iG sr hc) h2;exact⟨q1,q2,vW.value (by simp [execOp,g1]) ⟨E',g2,g3,g4⟩⟩
  ·simp [T.leaf] at h2
 case insert t m k x=>
  obtain⟨u,h1,h2⟩:=iY sr h;split at h2
  ·rename_i kv xv hk hx;split at h2
   ·obtain⟨q1,q2,rfl,w',E',g1,g2,g3⟩:=QK (P:=P) htt r hp h1 (iG sr hk) (iG sr hx) h2;exact⟨q1,q2,vW.skip (by simp [execOp,g1]) ⟨E',g2,g3,nX⟩⟩
   split at h2
   ·rename_i hat
    obtain⟨q1,q2,rfl,w',g1,g2,g3⟩:=Js (P:=P) htt r hp h1 (iG sr hk) (iG sr hx) hat h2;exact⟨q1,q2,vW.skip (by simp [execOp,g1]) ⟨E,g2,g3,nX⟩⟩
   obtain⟨pc',hp',h2⟩:=wB hp h2;obtain⟨H,e1,rfl,rfl⟩:=FI h2;obtain⟨w',g1,g2,g3⟩:=BP htt hp' r h1 (iG sr hk) (iG sr hx) e1;exact⟨rfl,hp',vW.skip (by simp [execOp,g1]) ⟨E,g2,g3,nX⟩⟩
  ·simp [T.leaf] at h2
 case load t x=>
  obtain⟨u,h1,h2⟩:=iY sr h;split at h2
  ·obtain⟨q1,q2,q3,y,b,off,g1,g2,g3⟩:=Yr htt r hp h1 h2;exact⟨q1,q3,vW.value (u:=y) (by simp [execOp,Instr.loadAt,g1,Instr.sureAddr,g2]) ⟨E,by rw [q2]; exact Stp.refl _ _ _,by rw [q2]; exact r,g3⟩⟩
  obtain⟨e1,rfl⟩:=kN h2;obtain⟨y,b,off,g1,g2,g3⟩:=IE htt r h1 e1;exact nK.pure hp r (u:=y) (by simp [execOp,Instr.loadAt,g1,Instr.sureAddr,g2]) g3
 case store t x y=>
  obtain⟨u,h1,h2⟩:=iY sr h;split at h2
  ·rename_i yv hy;obtain⟨yv',pc',hp',hyv,h2⟩:=akS hp (iG sr hy) h2;split at h2
   ·obtain⟨q1,q2,rfl,w',E',g1,g2,g3⟩:=V3 htt (s:={ s with pc:=pc' }) r hp' h1 hyv h2;exact⟨q1,q2,vW.skip (by simp [execOp,g1]) ⟨E',g2,g3,nX⟩⟩
   obtain⟨H,e1,rfl,rfl⟩:=FI h2;obtain⟨w',g1,g2,g3⟩:=Yi htt r h1 hyv e1;exact⟨rfl,hp',vW.skip (by simp [execOp,g1]) ⟨E,g2,g3,nX⟩⟩
  ·simp [T.leaf] at h2
 case nilCheck x=>
  obtain⟨u,h1,h2⟩:=iY sr h;split at h2
  ·have:=aC h2;simp only [aCK] at this;obtain⟨rfl,rfl⟩:=this;have h1':=h1;simp only [VR] at h1;exact nK.pure hp r (u:=a.eval x) (by simp [execOp,h1.1]) h1'
  ·have:=aC h2;simp only [aCK] at this;obtain⟨rfl,rfl⟩:=this;have h1':=h1;simp only [VR] at h1;obtain⟨b,off,us,hu,_⟩:=h1;exact nK.pure hp r (u:=a.eval x) (by simp [execOp,hu]) h1'
  ·have:=aC h2;simp only [aCK] at this;obtain⟨rfl,rfl⟩:=this;have h1':=h1;simp only [VR] at h1;obtain⟨_,k,_,hu⟩:=h1;exact nK.pure hp r (u:=a.eval x) (by simp [execOp,hu]) h1'
  ·simp [T.leaf] at h2
 case binOp bop t x y yt=>
  obtain⟨u,h1,h2⟩:=iY sr h;split at h2
  ·rename_i yv hy;have hyv:=iG sr hy;split at h2
   ·rename_i xs;simp only [VR] at h1;obtain⟨us,hus,h1⟩:=h1;split at h2
    ·rename_i ys;simp only [VR] at hyv;obtain⟨vs,hvs,hyv⟩:=hyv;split at h2
     ·rename_i c hcc;have:=aC h2;simp only [aCK] at this;obtain⟨rfl,rfl⟩:=this;obtain⟨g1,g2,g3⟩:=Nq (w:=w) htt h1 hyv hcc .eql x y;exact nK.pure hp r (u:=.bool (c.den E.ρ)) (by simp [execOp,hus,hvs,g1,g2]) (by simp only [VR])
     ·simp [T.leaf] at h2
    ·rename_i ys;simp only [VR] at hyv;obtain⟨vs,hvs,hyv⟩:=hyv;split at h2
     ·rename_i c hcc;have:=aC h2;simp only [aCK] at this;obtain⟨rfl,rfl⟩:=this;obtain⟨g1,g2,g3⟩:=Nq (w:=w) htt h1 hyv hcc .neq x y;exact nK.pure hp r (u:=.bool (!(c.den E.ρ))) (by simp [execOp,hus,hvs,g1,g3]) (by simp only [VR,qW])
     ·simp [T.leaf] at h2
    ·simp [T.leaf] at h2
   ·split at h2
    ·rename_i e hna;obtain⟨q1,q2,q3,y',g1,g2,g3,g4⟩:=anF (P:=P) (w:=w) htt hna h1 hyv hp h2;exact⟨q1,q3,vW.value (u:=y') (by simp [execOp,BX (P:=P) (w:=w) g3 g4,g1]) ⟨E,by rw [q2]; exact Stp.refl _ _ _,by rw [q2]; exact r,g2⟩⟩
    split at h2
    ·rename_i qq k e d hrl;obtain⟨rfl,hu1,hu2⟩:=abP hrl h1 hyv;obtain⟨q1,q2,q3,hne,q4⟩:=amR hp h2;refine⟨q1,q3,vW.value (u:=.int k (amS qq k (e.den E.ρ) (d.den E.ρ))) (w':=w) ?_ ⟨E,by rw [q2]; exact Stp.refl _ _ _,by rw [q2]; exact r,q4 _⟩⟩;cases qq<;>simp [execOp,hu1,hu2,binOp,Op.intDiv,hne,eqGuard,amS,qOp]
    split at h2
    ·rename_i x' y' hsp;obtain⟨q1,q2,q3,⟨y'',g1,g2⟩,g3,g4⟩:=acU (P:=P) (w:=w) (t:=t) hp h1 hyv hsp h2;exact⟨q1,q3,vW.value (u:=y'') (by simp [execOp,BX (P:=P) (w:=w) g3 g4,g1]) ⟨E,by rw [q2]; exact Stp.refl _ _ _,by rw [q2]; exact r,g2⟩⟩
    ·obtain⟨e1,rfl⟩:=kN h2;obtain⟨⟨y',g1,g2⟩,g3,g4⟩:=aiJ (w:=w) htt h1 hyv e1;exact nK.pure hp r (u:=y') (by simp [execOp,BX (P:=P) (w:=w) g3 g4,g1]) g2
  ·simp [T.leaf] at h2
 case unOp uop t x=>
  obtain⟨u,h1,h2⟩:=iY sr h;obtain⟨e1,rfl⟩:=kN h2;obtain⟨y,g1,g2⟩:=aoT (P:=P) (w:=w) h1 e1;exact nK.pure hp r (u:=y) (by simp [execOp,g1]) g2
 case convert sT dT x=>
  obtain⟨u,h1,h2⟩:=iY sr h;split at h2
  ·obtain⟨q1,q2,y,w',E',g1,g2,g3,g4⟩:=YA (P:=P) htt r hp h1 h2;exact⟨q1,q2,vW.value (u:=y) (by simp [execOp,g1]) ⟨E',g2,g3,g4⟩⟩
  obtain⟨H,e1,rfl⟩:=uY h2;obtain⟨y,w',E',g1,g2,g3,g4⟩:=GK htt r h1 e1;exact nK.heap hp (u:=y) (by simp [execOp,g1]) g2 g3 g4
 case makeFunc fn fs cs=>
  split at h
  ·rename_i f c hf hcs;have:=aC h;simp only [aCK] at this;obtain⟨rfl,rfl⟩:=this;have h1:=TL sr hf;have h2:=TL sr hcs;refine nK.pure hp r (u:=.func fn (fs.map a.eval) (cs.map a.eval)) (by simp [execOp,Instr.makeFunc]) ?_;simp only [VR];have m1:fs.map a.eval=(fs.toList.map a.eval).toArray:=UG _ _;have m2:cs.map a.eval=(cs.toList.map a.eval).toArray:=UG _ _;exact⟨_,_,by rw [m1,m2],h1,h2⟩
  ·simp [T.leaf] at h
 case makeMap t res=>
  split at h
  ·split at h
   ·rename_i m hm;split at h
    ·have:=aC h;simp only [aCK] at this;obtain⟨rfl,rfl⟩:=this
     obtain⟨s1,s2⟩:=BD r (.map #[] 0) (.fam (.dat (.i 0)) (m-100) (aiG tt t) []) 0 (w':={ w with heap:=w.heap.push (.map #[] 0) }) rfl ⟨rfl,rfl,rfl⟩ (by
      simp only [OR,En.ext_θ_new]
      exact⟨⟨by simp [SE.den,aA,D.l],by simp,by simp⟩,#[],0,by simp,by simp [eU,SE.den,aA,D.l]⟩)
     exact nK.heap hp (u:=.map (some w.heap.size)) (by simp [execOp,Instr.makeMap]) s1 s2 (by simp only [VR,En.ext_θ_new]; exact⟨trivial,En.iP _ _ _ _⟩)
    have:=aC h;simp only [aCK] at this;obtain⟨rfl,rfl⟩:=this
    obtain⟨s1,s2⟩:=BD r (.map #[] 0) (.gY (.dat (.i 0)) m) 0 (w':={ w with heap:=w.heap.push (.map #[] 0) }) rfl ⟨rfl,rfl,rfl⟩ (by
     simp only [OR,En.ext_θ_new]
     exact⟨#[],0,by simp,by simp [mW,SE.den,aA,D.l]⟩)
    exact nK.heap hp (u:=.map (some w.heap.size)) (by simp [execOp,Instr.makeMap]) s1 s2 (by simp only [VR,En.ext_θ_new]; exact⟨trivial,En.iP _ _ _ _⟩)
   have:=aC h;simp only [aCK] at this;obtain⟨rfl,rfl⟩:=this
   obtain⟨s1,s2⟩:=BD r (.map #[] 0) (.map [] 0) 0 (w':={ w with heap:=w.heap.push (.map #[] 0) }) rfl ⟨rfl,rfl,rfl⟩ (by
    simp only [OR,En.ext_θ_new]
    exact⟨#[],0,by simp,by simp [fA]⟩)
   exact nK.heap hp (u:=.map (some w.heap.size)) (by simp [execOp,Instr.makeMap]) s1 s2 (by simp only [VR,En.ext_θ_new]; exact⟨trivial,En.iP _ _ _ _⟩)
  ·simp [T.leaf] at h
 case slice t x lo hi mx=>
  obtain⟨u,h1,h2⟩:=iY sr h;split at h2
  ·rename_i l hh m hl hhh hm;split at h2
   ·obtain⟨q1,q2,q3,y,g1,g2⟩:=Yx (w:=w) htt hp h1 (fQ sr hl) (fQ sr hhh) (fQ sr hm) h2;exact⟨q1,q3,vW.value (u:=y) (by simp [execOp,g1]) ⟨E,by rw [q2]; exact Stp.refl _ _ _,by rw [q2]; exact r,g2⟩⟩
   ·obtain⟨q1,q2,q3,y,g1,g2⟩:=MX htt r hp (Y6 h1) (fQ sr hl) (fQ sr hhh) (fQ sr hm) h2;exact⟨q1,q3,vW.value (u:=y) (by simp [execOp,g1]) ⟨E,by rw [q2]; exact Stp.refl _ _ _,by rw [q2]; exact r,g2⟩⟩
   ·obtain⟨q1,q2,q3,y,g1,g2⟩:=MX htt r hp h1 (fQ sr hl) (fQ sr hhh) (fQ sr hm) h2;exact⟨q1,q3,vW.value (u:=y) (by simp [execOp,g1]) ⟨E,by rw [q2]; exact Stp.refl _ _ _,by rw [q2]; exact r,g2⟩⟩
   ·obtain⟨q1,q2,q3,y,g1,g2⟩:=Yf (w:=w) htt hp h1 (fQ sr hl) (fQ sr hhh) (fQ sr hm) h2;exact⟨q1,q3,vW.value (u:=y) (by simp [execOp,g1]) ⟨E,by rw [q2]; exact Stp.refl _ _ _,by rw [q2]; exact r,g2⟩⟩
   ·obtain⟨q1,q2,q3,y,g1,g2⟩:=Yv (w:=w) htt hp h1 (fQ sr hl) (fQ sr hhh) (fQ sr hm) h2;exact⟨q1,q3,vW.value (u:=y) (by simp [execOp,g1]) ⟨E,by rw [q2]; exact Stp.refl _ _ _,by rw [q2]; exact r,g2⟩⟩
   split at h2
   ·rename_i v' e1;have:=aC h2;simp only [aCK] at this;obtain⟨rfl,rfl⟩:=this;obtain⟨y,g1,g2⟩:=Yj (w:=w) htt h1 (fQ sr hl) (fQ sr hhh) (fQ sr hm) e1;exact nK.pure hp r (u:=y) (by simp [execOp,g1]) g2
   ·obtain⟨e1,rfl⟩:=kN h2;obtain⟨y,g1,g2⟩:=V4 (w:=w) htt r h1 (fQ sr hl) (fQ sr hhh) (fQ sr hm) e1;exact nK.pure hp r (u:=y) (by simp [execOp,g1]) g2
  ·simp [T.leaf] at h2
 case fieldAddr t x f=>
  obtain⟨u,h1,h2⟩:=iY sr h;obtain⟨e1,rfl⟩:=kN h2;obtain⟨y,g1,g2⟩:=Np (w:=w) htt h1 e1;exact nK.pure hp r (u:=y) (by simp [execOp,g1]) g2
 case field t x f=>
  obtain⟨u,h1,h2⟩:=iY sr h;obtain⟨e1,rfl⟩:=kN h2;obtain⟨y,g1,g2⟩:=Yu (w:=w) htt h1 e1;exact nK.pure hp r (u:=y) (by simp [execOp,g1]) g2
 case indexAddr t x i=>
  obtain⟨u,h1,h2⟩:=iY sr h;split at h2
  ·rename_i iv hi;split at h2
   ·obtain⟨e1,rfl⟩:=kN h2;obtain⟨y,g1,g2⟩:=Yt (w:=w) htt hp h1 (iG sr hi) e1;exact nK.pure hp r (u:=y) (by simp [execOp,g1]) g2
   ·obtain⟨q1,q2,q3,y,g1,g2⟩:=Yy (w:=w) htt hp h1 (iG sr hi) h2;exact⟨q1,q3,vW.value (u:=y) (by simp [execOp,g1]) ⟨E,by rw [q2]; exact Stp.refl _ _ _,by rw [q2]; exact r,g2⟩⟩
   ·obtain⟨q1,q2,q3,y,g1,g2⟩:=Ye (w:=w) htt hp h1 (iG sr hi) h2;exact⟨q1,q3,vW.value (u:=y) (by simp [execOp,g1]) ⟨E,by rw [q2]; exact Stp.refl _ _ _,by rw [q2]; exact r,g2⟩⟩
   ·obtain⟨q1,q2,q3,y,g1,g2⟩:=Yd (w:=w) htt hp h1 (iG sr hi) h2;exact⟨q1,q3,vW.value (u:=y) (by simp [execOp,g1]) ⟨E,by rw [q2]; exact Stp.refl _ _ _,by rw [q2]; exact r,g2⟩⟩
   ·rename_i pid po;split at h2
    ·rename_i n e hb;split at h2
     ·rename_i ho;subst ho;obtain⟨kd,ti,el,ie,rfl,b1,b2,b3,b4,b5⟩:=Oa hb;obtain⟨pc',hp',t1,t2,h3⟩:=rM hp h2;have:=aC h3;simp only [aCK] at this;obtain⟨rfl,rfl⟩:=this;have hiv:=iG sr hi;simp only [VR] at hiv;simp only [SE.den] at t2;obtain⟨k,hk⟩ : ∃k:Nat,e.den E.ρ=(k:Int):=⟨(e.den E.ρ).toNat,by omega⟩;have hlt:k<n:=by simp at t2; omega
      rw [hk] at hiv
      obtain⟨y,g1,g2⟩:=vH (P:=P) (w:=w) htt (t:=t) (ix:=.int kd (.lit (Int.ofNat k))) h1 (by simp only [VR,SE.den]; exact hiv) (v:=.ptr pid (0+k*ie.size)) (by
       unfold sJ;simp only [mJ,b1,b2,jS,b3,aDo];rw [aCL hlt]
       rfl)
      refine⟨rfl,hp',vW.value (u:=y) (by simp [execOp,g1]) ⟨E,Stp.refl _ _ _,r,?_⟩⟩;simp only [VR] at g2 ⊢;exact⟨g2.2,k,hk,by rw [g2.1,b4]; congr 3; omega⟩
     ·simp [T.leaf] at h2
    ·obtain⟨ix',pc',hp',hix,h2⟩:=Hg hp (iG sr hi) h2;obtain⟨e1,rfl⟩:=kN h2;obtain⟨y,g1,g2⟩:=vH (w:=w) htt h1 hix e1;exact⟨rfl,hp',vW.value (u:=y) (by simp [execOp,g1]) ⟨E,Stp.refl _ _ _,r,g2⟩⟩
   ·obtain⟨ix',pc',hp',hix,h2⟩:=Hg hp (iG sr hi) h2;obtain⟨e1,rfl⟩:=kN h2;obtain⟨y,g1,g2⟩:=vH (w:=w) htt h1 hix e1;exact⟨rfl,hp',vW.value (u:=y) (by simp [execOp,g1]) ⟨E,Stp.refl _ _ _,r,g2⟩⟩
  ·simp [T.leaf] at h2
 case index t x i=>
  obtain⟨u,h1,h2⟩:=iY sr h;split at h2
  ·rename_i iv hi;split at h2
   ·obtain⟨q1,q2,q3,y,g1,g2⟩:=Yg (w:=w) htt hp h1 (iG sr hi) h2;exact⟨q1,q3,vW.value (u:=y) (by simp [execOp,g1]) ⟨E,by rw [q2]; exact Stp.refl _ _ _,by rw [q2]; exact r,g2⟩⟩
   ·rename_i cs;split at h2
    ·rename_i n e hb;split at h2
     ·rename_i hn;have hn:=aCO hn;obtain⟨kd,ti,el,ie,rfl,b1,b2,b3,b4,b5⟩:=Oa hb;obtain⟨q1,q2,q3,k,kk,z,x',c1,c2,c3,rfl,c5⟩:=VX hp h2;have hiv:=iG sr hi;simp only [VR] at hiv;rw [c1] at hiv;obtain⟨l,hd⟩:=IL c3
      obtain⟨y,g1,g2⟩:=ES (P:=P) (w:=w) htt (t:=t) (ix:=.int kd (.lit (Int.ofNat k))) h1 (by simp only [VR,SE.den]; exact hiv) (v:=.int kk (.lit z)) (by
       unfold GH;simp only [mJ,b1,b2,b3];rw [aCL (by omega),b4,aEo,hd]
       simp [partOf,b5])
      refine⟨q1,q3,vW.value (u:=y) (w':=w) (by simp [execOp,g1]) ⟨E,by rw [q2]; exact Stp.refl _ _ _,by rw [q2]; exact r,?_⟩⟩;simp only [VR,SE.den] at g2 ⊢;rw [g2,c5]
     ·simp [T.leaf] at h2
    ·obtain⟨ix',pc',hp',hix,h2⟩:=Hg hp (iG sr hi) h2;obtain⟨e1,rfl⟩:=kN h2;obtain⟨y,g1,g2⟩:=ES (w:=w) htt h1 hix e1;exact⟨rfl,hp',vW.value (u:=y) (by simp [execOp,g1]) ⟨E,Stp.refl _ _ _,r,g2⟩⟩
   obtain⟨ix',pc',hp',hix,h2⟩:=Hg hp (iG sr hi) h2;obtain⟨e1,rfl⟩:=kN h2;obtain⟨y,g1,g2⟩:=ES (w:=w) htt h1 hix e1;exact⟨rfl,hp',vW.value (u:=y) (by simp [execOp,g1]) ⟨E,Stp.refl _ _ _,r,g2⟩⟩
  ·simp [T.leaf] at h2
 case lookup t m k ok=>
  obtain⟨u,h1,h2⟩:=iY sr h;split at h2
  ·rename_i kv hk;split at h2
   ·rename_i id e t' hat
    obtain⟨q1,q2,q3,y,g1,g2⟩:=Yq (P:=P) htt r hp h1 (iG sr hk) hat h2;exact⟨q1,q3,vW.value (u:=y) (by simp [execOp,g1]) ⟨E,by rw [q2]; exact Stp.refl _ _ _,by rw [q2]; exact r,g2⟩⟩
   split at h2
   ·rename_i hat
    obtain⟨q1,q2,q3,y,g1,g2⟩:=Yp (P:=P) htt r hp h1 (iG sr hk) hat h2;exact⟨q1,q3,vW.value (u:=y) (by simp [execOp,g1]) ⟨E,by rw [q2]; exact Stp.refl _ _ _,by rw [q2]; exact r,g2⟩⟩
   obtain⟨pc',hp',h2⟩:=wB hp h2;obtain⟨e1,rfl⟩:=kN h2;obtain⟨y,g1,g2⟩:=V7 htt hp' r h1 (iG sr hk) e1;exact⟨rfl,hp',vW.value (u:=y) (by simp [execOp,g1]) ⟨E,Stp.refl _ _ _,r,g2⟩⟩
  ·simp [T.leaf] at h2
 case mapUpdate t m k x=>
  obtain⟨u,h1,h2⟩:=iY sr h;split at h2
  ·rename_i kv xv hk hx;split at h2
   ·obtain⟨q1,q2,rfl,w',E',g1,g2,g3⟩:=QK (P:=P) htt r hp h1 (iG sr hk) (iG sr hx) h2;exact⟨q1,q2,vW.skip (by simp [execOp,g1]) ⟨E',g2,g3,nX⟩⟩
   split at h2
   ·rename_i hat
    obtain⟨q1,q2,rfl,w',g1,g2,g3⟩:=Js (P:=P) htt r hp h1 (iG sr hk) (iG sr hx) hat h2;exact⟨q1,q2,vW.skip (by simp [execOp,g1]) ⟨E,g2,g3,nX⟩⟩
   obtain⟨pc',hp',h2⟩:=wB hp h2;obtain⟨H,e1,rfl,rfl⟩:=FI h2;obtain⟨w',g1,g2,g3⟩:=BP htt hp' r h1 (iG sr hk) (iG sr hx) e1;exact⟨rfl,hp',vW.skip (by simp [execOp,g1]) ⟨E,g2,g3,nX⟩⟩
  ·simp [T.leaf] at h2
 case range t x=>
  obtain⟨u,h1,h2⟩:=iY sr h;obtain⟨H,e1,rfl⟩:=uY h2;obtain⟨y,w',E',g1,g2,g3,g4⟩:=Yk htt r h1 e1;exact nK.heap hp (u:=y) (by simp [execOp,g1]) g2 g3 g4
 case next x isS=>
  obtain⟨u,h1,h2⟩:=iY sr h;obtain⟨H,e1,rfl⟩:=uY h2;obtain⟨y,w',g1,g2,g3,g4⟩:=acW (P:=P) r h1 e1 type;exact nK.heap hp (u:=y) (by simp [execOp,g1]) g2 g3 g4
 case extract x i=>
  obtain⟨u,h1,h2⟩:=iY sr h;split at h2
  ·rename_i vs;obtain⟨e1,rfl⟩:=kN h2;simp only [VR] at h1;obtain⟨us,hus,h1⟩:=h1;obtain⟨y,g1,g2⟩:=h1.nth e1;exact nK.pure hp r (u:=y) (by simp [execOp,Instr.extract,hus,g1]) g2
  ·simp [T.leaf] at h2
 case call c=>exact adB htt hc r sr hp rfl h
end
section
variable {P:Program}
structure Fit [Glob] (E:En) (s:St) (a:Act) (w:World):Prop where
 rel:aO E s.h w
 sr:SR E w.heap s.slots a
 pc:aW E.ρ s.pc
structure Then [Glob] (E:En) (s:St) (a:Act) (w:World) (s':St) (a':Act) (w':World):Prop where
 defers:a'.defers=a.defers
 size:a'.tmps.size=a.tmps.size
 step: ∃E',Stp E s.h w E' s'.h w'/\Fit E' s' a' w'
theorem Then.refl [Glob] {E:En} {s:St} {a:Act} {w:World} (f:Fit E s a w):Then E s a w s a w:=⟨rfl,rfl,E,Stp.refl _ _ _,f⟩
theorem SR.keep {E E':En} {h h':Array Obj} (k:Keeps E h E' h') {slots:Tr AV} {a:Act} (sr:SR E h slots a):SR E' h' slots a:=by intro t v ht;obtain⟨u,h1,h2⟩:=sr t v ht;exact⟨u,h1,VR.keep k v u h2⟩
theorem SR.put {E:En} {h:Array Obj} {slots:Tr AV} {a:Act} (sr:SR E h slots a) {d:Nat} {v:AV} {u:Value} (hd:d<a.tmps.size) (hv:VR E h v u):SR E h (slots.put d (some v)) (a.put (some d) u):=by
 intro t x ht;rw [Tr.get_put] at ht;simp only [Act.put];split at ht
 ·rename_i e
  grind
 ·rename_i e;obtain⟨y,h1,h2⟩:=sr t x ht
  grind
theorem SR.aBF {E:En} {h:Array Obj} {s:St} {a:Act} (sr:SR E h s.slots a) {d:Option Nat} {v:AV} {u:Value} (hd: ∀t,d=some t->t<a.tmps.size) (hv:VR E h v u):SR E h (s.U8 d v).slots (a.put d u):=by
 cases d with
 |none=>exact sr
 |some t=>exact sr.put (hd t rfl) hv
theorem Lu (a:Act) (d:Option Nat) (u:Value):(a.put d u).tmps.size=a.tmps.size:=by cases d<;>simp [Act.put]
theorem put_defers (a:Act) (d:Option Nat) (u:Value):(a.put d u).defers=a.defers:=by cases d<;>rfl
theorem afR (s:St) (d:Option Nat) (v:AV):(s.U8 d v).h=s.h:=by cases d<;>rfl
theorem amL (s:St) (d:Option Nat) (v:AV):(s.U8 d v).pc=s.pc:=by cases d<;>rfl
theorem QC [Glob] {E:En} {s s':St} {a:Act} {w w':World} {v:AV} {u:Value} {d:Option Nat} (f:Fit E s a w) (hs:s'.slots=s.slots) (hp:aW E.ρ s'.pc) (h:After E s w v s' u w') (hd: ∀t,d=some t->t<a.tmps.size) :
 Then E s a w (s'.U8 d v) (a.put d u) w':=by
 obtain⟨E',h1,h2,h3⟩:=h;refine⟨put_defers _ _ _,Lu _ _ _,E',by rw [afR]; exact h1,⟨by rw [afR]; exact h2,?_,by rw [amL,h1.ρ]; exact hp⟩⟩;refine SR.aBF ?_ hd h3;rw [hs];exact f.sr.keep (h1.keeps f.rel)
theorem Then.trans [Glob] {E:En} {s s1 s2:St} {a a1 a2:Act} {w w1 w2:World} (h1:Then E s a w s1 a1 w1) (h2: ∀E1,Stp E s.h w E1 s1.h w1->Fit E1 s1 a1 w1->Then E1 s1 a1 w1 s2 a2 w2):Then E s a w s2 a2 w2:=by obtain⟨d1,z1,E1,st1,f1⟩:=h1;obtain⟨d2,z2,E2,st2,f2⟩:=h2 E1 st1 f1;exact⟨d2.trans d1,z2.trans z1,E2,st1.trans st2,f2⟩
theorem LQ [Glob] {α:Type} {E:En} {w:World} {s:St} {a:Act} {ops:Array Oper} {o:Oper} {f:St->Bool->T α} {r:α} (fit:Fit E s a w) (h:(Di ops.toList s o f).leaf E.ρ=some r) :
 ∃pc',aW E.ρ pc'/\(f { s with pc:=pc' } (Region.wanted o (yielded ops a.tmps))).leaf E.ρ=some r:=by
 unfold Di at h;unfold Region.wanted;split at h
 ·rename_i hg;rw [hg];exact⟨s.pc,fit.pc,h⟩
 ·rename_i j want hg;rw [hg];split at h
  ·rename_i oj hj;rw [bW,aDk] at hj;split at h
   ·rename_i d hd;split at h
    ·rename_i c hc;obtain⟨u,h1,h2⟩:=fit.sr d _ hc;simp only [VR] at h2;subst h2;obtain⟨pc',hp',h3⟩:=bG fit.pc h;refine⟨pc',hp',?_⟩;have:yielded ops a.tmps j=some (c.den E.ρ):=by simp [yielded,hj,hd,h1]
     simp only [this];simpa using h3
    ·rename_i vs hc;obtain⟨u,h1,h2⟩:=fit.sr d _ hc;simp only [VR] at h2;obtain⟨us,rfl,_⟩:=h2;refine⟨s.pc,fit.pc,?_⟩;have:yielded ops a.tmps j=none:=by simp [yielded,hj,hd,h1]
     simp only [this];simpa using h
    ·simp [T.leaf] at h
   ·simp [T.leaf] at h
  ·simp [T.leaf] at h
def axB (n:Nat) (ops:List Oper):Bool:=ops.all fun o=>match o.dst with |some d=>d<n|none=>true
theorem Nj [Glob] {tt:TT} (htt:dU P tt) {call:dQ} (hc:jO P call) {ops:Array Oper} {Q:Exit->Act->World->Prop}: ∀(rest:List Oper) (i:Nat) {E:En} {s s':St} {a:Act} {w:World},ops.toList.drop i=rest->
 (∀o∈rest,∀d,o.dst=some d->d<a.tmps.size)->Fit E s a w->(V6 tt call ops.toList rest s).leaf E.ρ=some s'->
 (∀a' w',Then E s a w s' a' w'->Q .normal a' w')->wpOps P ops Q (List.range' i rest.length) a w
 |[],i,E,s,s',a,w,_,_,fit,h,hq=>by have:=aC h;subst this;exact hq a w (Then.refl fit)
 |o::rest,i,E,s,s',a,w,hi,hd,fit,h,hq=>by
  simp only [V6] at h;obtain⟨pc',hp',h1⟩:=LQ fit h
  have hoi:ops[i]?=some o:=by
   have:=congrArg (·[0]?) hi
   grind
  have hrest:ops.toList.drop (i+1)=rest:=by have:=congrArg List.tail hi;simpa using this
  have fit':Fit E { s with pc:=pc' } a w:=⟨fit.rel,fit.sr,hp'⟩;simp only [aCW,List.range'_succ];show wpOps P ops Q (i::List.range' (i+1) rest.length) a w;simp only [wpOps,hoi];cases hw:Region.wanted o (yielded ops a.tmps)<;>rw [hw] at h1
  ·simp only [aCU,if_false] at h1 ⊢
   have hstep:Then E s a w (St.U8 { s with pc:=pc' } o.dst AV.undef) (a.put o.dst undef) w:=
    QC (s':={ s with pc:=pc' }) fit rfl hp' ⟨E,Stp.refl _ _ _,fit.rel,nX⟩ (hd o (by simp))
   obtain⟨d1,z1,E1,st1,f1⟩:=hstep;refine Nj htt hc rest (i+1) hrest (fun o' ho' d hd'=>by rw [z1]; exact hd o' (by simp [ho']) d hd') f1 (by rw [st1.ρ]; exact h1) fun a' w' ht=>?_;exact hq a' w' ⟨ht.defers.trans d1,ht.size.trans z1,by obtain⟨E2,st2,f2⟩:=ht.step; exact⟨E2,st1.trans st2,f2⟩⟩
  ·simp only [if_true] at h1 ⊢;left;obtain⟨⟨v,s1⟩,h2,h3⟩:=T.fK h1;obtain⟨q1,q2,q3⟩:=Z5 htt hc (o:=o) fit'.rel fit'.sr fit'.pc h2;refine q3 _ _ fun u w1 hu=>?_;have hstep:Then E s a w (s1.U8 o.dst v) (a.put o.dst u) w1:=QC (s:=s) (s':=s1) fit q1 q2 hu (hd o (by simp));obtain⟨d1,z1,E1,st1,f1⟩:=hstep;refine Nj htt hc rest (i+1) hrest (fun o' ho' d hd'=>by rw [z1]; exact hd o' (by simp [ho']) d hd') f1 (by rw [st1.ρ]; exact h3) fun a' w' ht=>?_;exact hq a' w' ⟨ht.defers.trans d1,ht.size.trans z1,by obtain⟨E2,st2,f2⟩:=ht.step; exact⟨E2,st1.trans st2,f2⟩⟩
def apX [Glob] (P:Program) (draw:List Oper->St->T St):Prop:=
 ∀(id:Nat) (ops:Array Oper) (E:En) (s s':St) (a:Act) (w:World) (Q:Exit->Act->World->Prop),(∀o∈ops.toList,∀d,o.dst=some d->d<a.tmps.size)->Fit E s a w->(draw ops.toList s).leaf E.ρ=some s'->
  (∀a' w',Then E s a w s' a' w'->Q .normal a' w')->(Code.region id ops true).wp P Q a w
def CO [Glob] (P:Program) (chk:Nat->List Oper->Bool) (draw:Nat->List Oper->St->T St):Prop:=
 ∀(id:Nat) (ops:Array Oper),chk id ops.toList=true->∀(E:En) (s s':St) (a:Act) (w:World) (Q:Exit->Act->World->Prop),(∀o∈ops.toList,∀d,o.dst=some d->d<a.tmps.size)->Fit E s a w->(draw id ops.toList s).leaf E.ρ=some s'->
  (∀a' w',Then E s a w s' a' w'->Q .normal a' w')->(Code.region id ops true).wp P Q a w
def lU (chk:Nat->List Oper->Bool) (n:Nat):Code->Bool
 | .region id ops d=>axB n ops.toList&&(!d||chk id ops.toList)
 | .seq a b=>lU chk n a&&lU chk n b
 | .cond _ a b=>lU chk n a&&lU chk n b
 | .block _ b=>lU chk n b
 | .loop b=>lU chk n b
 | .scope b=>lU chk n b
 |_=>true
theorem apC {n m:Nat} {ops:List Oper} (h:axB n ops=true) (hm:n<=m): ∀o∈ops,∀d,o.dst=some d->d<m:=by
 intro o ho d hd;unfold axB at h
 grind
def Ep:Ex->Exit
 | .normal=> .normal
 | .exit id=> .exit id
 | .ret=> .ret
def Post [Glob] (E:En) (s:St) (a:Act) (w:World) (e:Ex) (s':St) (x:Exit) (a':Act) (w':World):Prop:=x=Ep e/\Then E s a w s' a' w'
theorem Then.comp [Glob] {E E1:En} {s s1 s2:St} {a a1 a2:Act} {w w1 w2:World} (d1:a1.defers=a.defers) (z1:a1.tmps.size=a.tmps.size) (st1:Stp E s.h w E1 s1.h w1) (h2:Then E1 s1 a1 w1 s2 a2 w2):Then E s a w s2 a2 w2:=by obtain⟨d2,z2,E2,st2,f2⟩:=h2;exact⟨d2.trans d1,z2.trans z1,E2,st1.trans st2,f2⟩
def alJ [Glob] (P:Program) (c:Code) (n:Nat) (f:St->T (Ex×St)):Prop:=
 ∀(E:En) (s s':St) (e:Ex) (a:Act) (w:World),n<=a.tmps.size->Fit E s a w->(f s).leaf E.ρ=some (e,s')->c.wp P (Post E s a w e s') a w
theorem Nk {ρ:Nat->Int} {f:St->T (Ex×St)}: ∀(k:Nat) {s s':St} {e:Ex},(BR f k s).leaf ρ=some (e,s')->e≠.normal
 |0,s,s',e,h=>by simp [BR,T.leaf] at h
 |k+1,s,s',e,h=>by
  simp only [BR] at h;obtain⟨⟨e1,s1⟩,h1,h2⟩:=T.fK h
  cases e1 with
  |normal=>exact Nk k h2
  |exit id=>have:=aC h2; simp only [aCK] at this; rw [<- this.1]; simp
  |ret=>have:=aC h2; simp only [aCK] at this; rw [<- this.1]; simp
theorem QM [Glob] {c:Code} {n:Nat} {f:St->T (Ex×St)} (hf:alJ P c n f): ∀(k:Nat) {E:En} {s s':St} {e:Ex} {a:Act} {w:World},n<=a.tmps.size->Fit E s a w->(BR f k s).leaf E.ρ=some (e,s')->
 ∀(Q:Exit->Act->World->Prop),(∀a' w',Then E s a w s' a' w'->Q (Ep e) a' w')->e≠.normal/\Code.rounds P c Q k a w
 |0,E,s,s',e,a,w,_,_,h,_,_=>by simp [BR,T.leaf] at h
 |k+1,E,s,s',e,a,w,hn,fit,h,Q,hq=>by
  simp only [BR] at h;obtain⟨⟨e1,s1⟩,h1,h2⟩:=T.fK h;have hw:=hf E s s1 e1 a w hn fit h1;rw [rounds_succ]
  cases e1 with
  |normal=>
   simp only at h2;constructor
   ·exact Nk k h2
   ·refine wp_mono hw fun x a1 w1 ⟨hx,ht⟩=>?_;subst hx;obtain⟨d1,z1,E1,st1,f1⟩:=ht;exact (QM hf k (by rw [z1]; exact hn) f1 (by rw [st1.ρ]; exact h2) Q fun a' w' ht'=>hq a' w' (ht'.comp d1 z1 st1)).2
  |exit id=> have:=aC h2;simp only [aCK] at this;obtain⟨rfl,rfl⟩:=this;refine⟨by simp,wp_mono hw fun x a1 w1 ⟨hx,ht⟩=>?_⟩;subst hx;exact hq a1 w1 ht
  |ret=> have:=aC h2;simp only [aCK] at this;obtain⟨rfl,rfl⟩:=this;refine⟨by simp,wp_mono hw fun x a1 w1 ⟨hx,ht⟩=>?_⟩;subst hx;exact hq a1 w1 ht
theorem nG [Glob] {tt:TT} (htt:dU P tt) {call:dQ} (hc:jO P call) {draw:Nat->List Oper->St->T St} {chk:Nat->List Oper->Bool} (hdr:CO P chk draw) {lf n:Nat}: ∀(c:Code),lU chk n c=true->alJ P c n (kU tt call draw lf c)
 | .skip,_,E,s,s',e,a,w,_,fit,h=>by have:=aC h;simp only [aCK] at this;obtain⟨rfl,rfl⟩:=this;exact wp_skip ⟨rfl,Then.refl fit⟩
 | .region id ops d,hdst,E,s,s',e,a,w,hn,fit,h=>by
   simp only [kU] at h;simp only [lU,aCM] at hdst;have hd:=apC hdst.1 hn;cases d
   ·simp only [aCU,if_false] at h;obtain⟨s1,h1,h2⟩:=T.fK h;have:=aC h2;simp only [aCK] at this;obtain⟨rfl,rfl⟩:=this;refine wp_region ?_;have:=Nj (Q:=Post E s a w .normal s1) htt hc ops.toList 0 (by simp) hd fit h1 (fun a' w' ht=> ⟨rfl,ht⟩);rw [List.range_eq_range']
    grind
   ·simp only [if_true] at h;obtain⟨s1,h1,h2⟩:=T.fK h;have:=aC h2;simp only [aCK] at this;obtain⟨rfl,rfl⟩:=this;exact hdr id ops (by simpa using hdst.2) E s s1 a w _ hd fit h1 (fun a' w' ht=> ⟨rfl,ht⟩)
 | .seq x y,hdst,E,s,s',e,a,w,hn,fit,h=>by
   simp only [lU,aCM] at hdst;simp only [kU] at h;obtain⟨⟨e1,s1⟩,h1,h2⟩:=T.fK h;refine wp_seq (wp_mono (nG htt hc hdr x hdst.1 E s s1 e1 a w hn fit h1) fun q a1 w1 ⟨hx,ht⟩=>?_);subst hx
   cases e1 with
   |normal=> simp only at h2;obtain⟨d1,z1,E1,st1,f1⟩:=ht;refine wp_mono (nG htt hc hdr y hdst.2 E1 s1 s' e a1 w1 (by rw [z1]; exact hn) f1 (by rw [st1.ρ]; exact h2)) fun q a2 w2 ⟨hx,ht'⟩=>?_;exact⟨hx,ht'.comp d1 z1 st1⟩
   |exit id=> have:=aC h2;simp only [aCK] at this;obtain⟨rfl,rfl⟩:=this;exact⟨rfl,ht⟩
   |ret=> have:=aC h2;simp only [aCK] at this;obtain⟨rfl,rfl⟩:=this;exact⟨rfl,ht⟩
 | .cond c x y,hdst,E,s,s',e,a,w,hn,fit,h=>by
   simp only [lU,aCM] at hdst;simp only [kU] at h;split at h
   ·rename_i cb hcb;have hv:=iG fit.sr hcb;simp only [VR] at hv;obtain⟨pc',hp',h1⟩:=bG fit.pc h;have fit':Fit E { s with pc:=pc' } a w:=⟨fit.rel,fit.sr,hp'⟩;refine wp_cond hv ?_;cases hcd:cb.den E.ρ<;>rw [hcd] at h1
    ·simp only [aCU,if_false] at h1 ⊢;exact wp_mono (nG htt hc hdr y hdst.2 E _ s' e a w hn fit' h1) fun q a2 w2 ⟨hx,ht⟩=> ⟨hx,ht.defers,ht.size,ht.step⟩
    ·simp only [if_true] at h1 ⊢;exact wp_mono (nG htt hc hdr x hdst.1 E _ s' e a w hn fit' h1) fun q a2 w2 ⟨hx,ht⟩=> ⟨hx,ht.defers,ht.size,ht.step⟩
   ·simp [T.leaf] at h
 | .block id b,hdst,E,s,s',e,a,w,hn,fit,h=>by
   simp only [lU] at hdst;simp only [kU] at h;obtain⟨⟨e1,s1⟩,h1,h2⟩:=T.fK h;refine wp_block (wp_mono (nG htt hc hdr b hdst E s s1 e1 a w hn fit h1) fun q a1 w1 ⟨hx,ht⟩=>?_);subst hx
   cases e1 with
   |normal=> have:=aC h2;simp only [aCK] at this;obtain⟨rfl,rfl⟩:=this;exact⟨rfl,ht⟩
   |exit j=>
    have:=aC h2;simp only [aCK] at this;obtain⟨rfl,rfl⟩:=this;simp only [Ep,Exit.inBlock];by_cases hj:j=id
    ·rw [aCL hj,aCL hj]; exact⟨rfl,ht⟩
    ·rw [aCI hj,aCI hj]; exact⟨rfl,ht⟩
   |ret=> have:=aC h2;simp only [aCK] at this;obtain⟨rfl,rfl⟩:=this;exact⟨rfl,ht⟩
 | .loop b,hdst,E,s,s',e,a,w,hn,fit,h=>by simp only [lU] at hdst;simp only [kU] at h;exact wp_loop_rounds lf (QM (nG htt hc hdr b hdst) lf hn fit h (Post E s a w e s') (fun a' w' ht=> ⟨rfl,ht⟩)).2
 | .exit id,_,E,s,s',e,a,w,_,fit,h=>by have:=aC h;simp only [aCK] at this;obtain⟨rfl,rfl⟩:=this;exact wp_exit ⟨rfl,Then.refl fit⟩
 | .scope b,hdst,E,s,s',e,a,w,hn,fit,h=>by simp only [lU] at hdst;simp only [kU] at h;refine wp_scope_straight (wp_mono (nG htt hc hdr b hdst E s s' e a w hn fit h) fun q a1 w1 ⟨hx,ht⟩=>?_);subst hx;cases e<;>exact⟨rfl,ht⟩
 | .label l,_,E,s,s',e,a,w,_,fit,h=>by have:=aC h;simp only [aCK] at this;obtain⟨rfl,rfl⟩:=this;exact wp_label ⟨rfl,Then.refl fit⟩
 | .ret,_,E,s,s',e,a,w,_,fit,h=>by have:=aC h;simp only [aCK] at this;obtain⟨rfl,rfl⟩:=this;exact wp_ret ⟨rfl,Then.refl fit⟩
 | .rangeFunc _ _ _ _,_,E,s,s',e,a,w,_,fit,h=>by simp [kU,T.leaf] at h
 | .goto _,_,E,s,s',e,a,w,_,fit,h=>by simp [kU,T.leaf] at h
 | .refuse _,_,E,s,s',e,a,w,_,fit,h=>by simp [kU,T.leaf] at h
end
section
variable {P:Program}
theorem VH: ∀(args:List AV) (i:Nat) (t:Tr AV) (k:Nat),(aZ args i t).get k=if i<=k/\k<i+args.length then args[k-i]? else t.get k
 |[],i,t,k=>by
  have: ¬(i<=k/\k<i+([]:List AV).length):=by simp
  rw [aCI this];rfl
 |v::vs,i,t,k=>by
  simp only [aZ,VH vs (i+1),Tr.get_put,aCW]
  grind
theorem bC.get {E:En} {h:Array Obj}: ∀{vs:List AV} {us:List Value},bC E h vs us->∀(i:Nat) (v:AV),vs[i]?=some v->∃u,us[i]?=some u/\VR E h v u
 |[],us,hv,i,v,hi=>by simp at hi
 |x::xs,us,hv,i,v,hi=>by
  cases us with
  |nil=>simp [bC] at hv
  |cons y ys=>
   simp only [bC] at hv;obtain⟨u',us',he,h1,h2⟩:=hv;simp only [List.cons.injEq] at he;obtain⟨rfl,rfl⟩:=he
   cases i with
   |zero=>simp at hi; subst hi; exact⟨y,by simp,h1⟩
   |succ i=>simpa using bC.get h2 i v (by simpa using hi)
theorem F5 {E:En} {h:Array Obj} {args:List AV} {vals:List Value} (hv:bC E h args vals) (n:Nat) :
 SR E h (aZ args 0 .nil) { tmps:=vals.toArray++Array.replicate n undef,defers:=[] }:=by
 intro t v ht;rw [VH] at ht;split at ht
 ·rename_i hk;obtain⟨u,h1,h2⟩:=bC.get hv t v (by simpa using ht)
  grind
 ·simp [Tr.get] at ht
def Bj (a:Act):ResultVar->Sem Value
 | .tmp t=>pure (a.tmps.getD t undef)
 | .cell b t=>do loadVar t (<- asAddr (a.tmps.getD b undef))
def resV (vs:List AV):AV:=match vs with |[x]=>x|vs=> .tuple vs
theorem O4 {vs:List AV} (h: ∀v,vs= [v]->False):resV vs= .tuple vs:=by
 unfold resV
 grind
theorem JX {E:En} {h:Array Obj} {vs:List AV} {us:List Value} (g2:bC E h vs us):VR E h (resV vs) (if h:us.toArray.size=1 then us.toArray[0] else .tuple us.toArray):=by
 cases vs with
 |nil=> simp only [bC] at g2;subst g2;simp [resV,VR,bC]
 |cons x xs=>
  cases xs with
  |nil=> simp only [bC] at g2;obtain⟨u,us',rfl,h1,rfl⟩:=g2;simpa [resV] using h1
  |cons x2 xs=>
   have g3:=g2;simp only [bC] at g2;obtain⟨u,us',rfl,h1,u2,us2,rfl,h2,h3⟩:=g2;have: ¬((u::u2::us2).toArray.size=1):=by simp
   rw [dif_neg this];simp only [resV,VR]
   grind
theorem V5 [Glob] {tt:TT} (htt:dU P tt) {E:En} {s:St} {a:Act} {w:World} (fit:Fit E s a w) {r:ResultVar} {v:AV} (h:Gv tt s r=some v) :
 ∃u,(Bj a r).run P w= .ok u w/\VR E w.heap v u:=by
 cases r with
 |tmp t=> simp only [Gv] at h;obtain⟨u,h1,h2⟩:=fit.sr t v h;exact⟨u,by simp [Bj,h1,aDL],h2⟩
 |cell b t=>
  simp only [Gv] at h;split at h
  ·rename_i p hp;obtain⟨u,h1,h2⟩:=fit.sr b p hp;obtain⟨x,bb,o,rfl,h3,h4⟩:=IE htt fit.rel h2 h;exact⟨x,by simp [Bj,h1,aDL,asAddr,h3],h4⟩
  grind
theorem Ad [Glob] {tt:TT} (htt:dU P tt) {E:En} {s:St} {a:Act} {w:World} (fit:Fit E s a w): ∀{rs:List ResultVar} {vs:List AV},nD tt s rs=some vs->
 ∃us,(rs.mapM (Bj a)).run P w= .ok us w/\bC E w.heap vs us
 |[],vs,h=>by simp [nD] at h;subst h;exact⟨[],by simp,by simp [bC]⟩
 |r::rs,vs,h=>by
  simp only [nD] at h;split at h
  ·grind
  ·rename_i v hv;split at h
   ·grind
   ·rename_i vs' hvs;simp at h;subst h;obtain⟨u,h1,h2⟩:=V5 htt fit hv;obtain⟨us,h3,h4⟩:=Ad htt fit hvs;refine⟨u::us,?_,by simp only [bC]; exact⟨u,us,rfl,h2,h4⟩⟩;rw [aD6];simp [Sem.run_bind,h1,h3]
def adL (P:Program) (chk:Nat->Nat->List Oper->Bool) (ft:Nat->Option Func):Prop:= ∀g fn,ft g=some fn->P.funcs[g]?=some fn/\(fn.name == "runtime.NumGoroutine")=false/\∀c,fn.body=some c->lU (chk g) fn.ntmps c=true
theorem GI [Glob] {tt:TT} (htt:dU P tt) {chk:Nat->Nat->List Oper->Bool} {ft:Nat->Option Func} (hft:adL P chk ft) {hook:Nat->Option (List AV->St->T (AV×St))} (hh: ∀g h,hook g=some h->lX P g h)
 {draw:dQ->Nat->Nat->List Oper->St->T St} (hdr: ∀call,jO P call->∀g,CO P (chk g) (draw call g)) (lf:Nat): ∀(n:Nat),jO P (Ub tt ft hook draw lf n)
 |0=>by intro g args s E w vals v s' _ _ _ h;simp [Ub,T.leaf] at h
 |n+1=>by
  have ih:=GI htt hft hh hdr lf n;intro g args s E w vals v s' r hv hp h;simp only [Ub] at h;split at h
  ·rename_i f hf;exact hh g f hf args s E w vals v s' r hv hp h
  ·split at h
   ·simp [T.leaf] at h
   ·rename_i fn hfn;obtain⟨hf,hname,hdst⟩:=hft g fn hfn;split at h
    ·simp [T.leaf] at h
    ·rename_i c hb;obtain⟨⟨e,s1⟩,h1,h2⟩:=T.fK h
     have fit:Fit E { s with slots:=aZ args 0 .nil } { tmps:=vals.toArray++Array.replicate (fn.ntmps-vals.toArray.size) undef,defers:=[] } w:=
      ⟨r,F5 hv _,hp⟩
     have hwp:=nG htt ih (hdr _ ih g) (lf:=lf) c (hdst c hb) E _ s1 e _ w (by simp; omega) fit h1
     have hout: ∃vs,nD tt s1 fn.results.toList=some vs/\(e= .normal\/e= .ret)/\s'= { s1 with slots:=s.slots }/\v=resV vs:=by
      cases e with
      |exit id=>simp [T.leaf] at h2
      |normal=>
       simp only at h2;split at h2
       ·rename_i x hx;have:=aC h2;simp only [aCK] at this;exact⟨_,hx,.inl rfl,this.2.symm,this.1.symm⟩
       ·rename_i vs hn hx;have:=aC h2;simp only [aCK] at this;refine⟨_,hx,.inl rfl,this.2.symm,?_⟩;rw [<- this.1];exact (O4 hn).symm
       ·simp [T.leaf] at h2
      |ret=>
       simp only at h2;split at h2
       ·rename_i x hx;have:=aC h2;simp only [aCK] at this;exact⟨_,hx,.inr rfl,this.2.symm,this.1.symm⟩
       ·rename_i vs hn hx;have:=aC h2;simp only [aCK] at this;refine⟨_,hx,.inr rfl,this.2.symm,?_⟩;rw [<- this.1];exact (O4 hn).symm
       ·simp [T.leaf] at h2
     obtain⟨vs,hr,he,rfl,rfl⟩:=hout
     have hpc:aW E.ρ s1.pc:=by
      obtain⟨_,_,_,⟨_,ht⟩,_⟩:=hwp default [] [];obtain⟨E1,st1,f1⟩:=ht.step;have:=f1.pc;rw [st1.ρ] at this
      grind
     refine⟨rfl,hpc,?_⟩
     have aB2:Calls P g vals.toArray w fun e w''=> ∃u,e= .returned u/\After E s w (resV vs) { s1 with slots:=s.slots } u w'':=by
      refine calls_of_wp hf hb (wp_mono hwp fun x a1 w1 ⟨hx,ht⟩=>?_);subst hx;obtain⟨d1,z1,E1,st1,f1⟩:=ht;obtain⟨us,g1,g2⟩:=Ad htt f1 hr
      have: ∃u,(results fn a1.tmps).run P w1= .ok u w1/\VR E1 w1.heap (resV vs) u:=by
       refine⟨if h:us.toArray.size=1 then us.toArray[0] else .tuple us.toArray,?_,?_⟩
       ·have hm:(fn.results.mapM (Bj a1)).run P w1= .ok us.toArray w1:=by
         rw [aE6];rw [map_eq_pure_bind];simp only [Sem.run_bind,g1];rfl
        have hres:results fn a1.tmps=(do let vs <- fn.results.mapM (Bj a1); pure (if h:vs.size=1 then vs[0] else .tuple vs)):=rfl;rw [hres];simp only [Sem.run_bind,hm];rfl
       ·exact JX g2
      obtain⟨u,g3,g4⟩:=this;rcases he with rfl|rfl
      ·exact⟨d1,u,g3,u,rfl,E1,st1,f1.rel,g4⟩
      ·exact⟨d1,u,g3,u,rfl,E1,st1,f1.rel,g4⟩
     have hrun:(callFunc g vals.toArray).run P w= .ok (.enter g vals.toArray) w:=by unfold callFunc;simp [hf,hb,by simpa using hname]
     unfold oK sV
     grind
end
def Tr.over {α:Type}:Tr α->Tr α->Tr α
 | .nil,b=>b
 | .node v l r,b=> .node (match v with |some x=>some x|none=>b.val) (Tr.over l b.left) (Tr.over r b.right)
def Tr.minus {α:Type}:Tr α->Tr α->Tr α
 | .nil,b=>b
 | .node v l r,b=> .node (match v with |some _=>none|none=>b.val) (Tr.minus l b.left) (Tr.minus r b.right)
theorem Tr.ML {α:Type}: ∀(a b:Tr α) (k:Nat),(Tr.over a b).get k=match a.get k with |some x=>some x|none=>b.get k
 | .nil,b,k=>by simp [Tr.over,Tr.get]
 | .node v l r,b,k=>by
   simp only [Tr.over];rw [Tr.sH,Tr.sH,Tr.Dv b k];by_cases h0:k=0
   ·grind
   ·simp only [aCI h0];by_cases h1:(k-1) % 2=0
    ·simp only [aCL h1]; exact Tr.ML l b.left _
    ·simp only [aCI h1]; exact Tr.ML r b.right _
theorem Tr.IC {α:Type}: ∀(a b:Tr α) (k:Nat),(Tr.minus a b).get k=match a.get k with |some _=>none|none=>b.get k
 | .nil,b,k=>by simp [Tr.minus,Tr.get]
 | .node v l r,b,k=>by
   simp only [Tr.minus];rw [Tr.sH,Tr.sH,Tr.Dv b k];by_cases h0:k=0
   ·grind
   ·simp only [aCI h0];by_cases h1:(k-1) % 2=0
    ·simp only [aCL h1]; exact Tr.IC l b.left _
    ·simp only [aCI h1]; exact Tr.IC r b.right _
structure Stw (E:En) (H:Hp) (w:World) (E':En) (H':Hp) (w':World):Prop where
 ρ:E'.ρ=E.ρ
 dm: ∀id,E.dm id->E'.dm id
 θ: ∀id,E.dm id->E'.θ id=E.θ id
 κ: ∀id,E.dm id->E'.κ id=E.κ id
 ro: ∀b,E.ro b->E'.ro b
 yA: ∀b,E'.ro b->E.ro b\/(∃id o,H.get id=some o/\(E.θ id).1=b)\/w.heap.size<=b
 os:w'.os=w.os
 tape:w'.tape=w.tape
 output:w'.output=w.output
 size:w.heap.size<=w'.heap.size
 keep: ∀b,b<w.heap.size->(∀id o,H.get id=some o->(E.θ id).1≠b)->w'.heap[b]?=w.heap[b]?
 own: ∀id o,H'.get id=some o->(E'.θ id).1<w.heap.size->∃yH o0,H.get yH=some o0/\(E.θ yH).1=(E'.θ id).1
 hd:E'.hd=E.hd
section
variable {E E' E'':En} {H H' H'':Hp} {w w' w'':World}
theorem Stp.weak (s:Stp E H w E' H' w'):Stw E H w E' H' w':=⟨s.ρ,s.dm,s.θ,s.κ,s.ro,s.yA,s.os,s.tape,s.output,s.size,s.keep,s.own,s.hd⟩
theorem Stw.strong (s:Stw E H w E' H' w') (h1:H.next<=H'.next) (h2:H'.res=none) (h3: ∀id,E'.dm id->E.dm id\/(H.next<=id/\id<H'.next)):Stp E H w E' H' w':=
 ⟨s.ρ,s.dm,s.θ,s.κ,s.ro,s.yA,h1,.inl h2,fun id h=>(h3 id h).elim .inl fun h=> .inr (.inl h),s.os,s.tape,s.output,s.size,s.keep,s.own,s.hd⟩
theorem Stw.trans (a:Stw E H w E' H' w') (b:Stw E' H' w' E'' H'' w''):Stw E H w E'' H'' w'' where
 ρ:=b.ρ.trans a.ρ
 dm:=fun id h=>b.dm id (a.dm id h)
 θ:=fun id h=>(b.θ id (a.dm id h)).trans (a.θ id h)
 κ:=fun id h=>(b.κ id (a.dm id h)).trans (a.κ id h)
 ro:=fun x h=>b.ro x (a.ro x h)
 yA:=fun x h=>by
  rcases b.yA x h with h|⟨id,o,h1,h2⟩|h
  ·exact a.yA x h
  ·rcases aCZ x w.heap.size with hx|hx
   ·obtain⟨yH,o0,h3,h4⟩:=a.own id o h1 (by rw [h2]; exact hx);exact .inr (.inl ⟨yH,o0,h3,h4.trans h2⟩)
   ·exact .inr (.inr hx)
  ·exact .inr (.inr (aDb a.size h))
 os:=b.os.trans a.os
 tape:=b.tape.trans a.tape
 output:=b.output.trans a.output
 size:=aDb a.size b.size
 keep:=fun x hx hn=>by rw [b.keep x (aDA hx a.size) ?_,a.keep x hx hn];intro id o ho he;obtain⟨yH,o0,h0,he0⟩:=a.own id o ho (by rw [he]; exact hx);exact hn yH o0 h0 (he0.trans he)
 own:=fun id o ho hlt=>by obtain⟨id1,o1,h1,he1⟩:=b.own id o ho (aDA hlt a.size);obtain⟨yH,o0,h0,he0⟩:=a.own id1 o1 h1 (by rw [he1]; exact hlt);exact⟨yH,o0,h0,he0.trans he1⟩
 hd:=b.hd.trans a.hd
theorem Stw.keeps [Glob] (s:Stw E H w E' H' w') (r:aO E H w):Keeps E w.heap E' w'.heap:=
 ⟨s.ρ,s.dm,s.θ,s.κ,s.ro,fun b hb=>s.keep b (r.xC b hb) fun id o ho he=>(r.live id o ho).2.2 (by rw [he]; exact hb)⟩
theorem aO.part [Glob] {H1:Hp} (r:aO E H w) (sub: ∀id o,H1.get id=some o->H.get id=some o) (hn:H.next<=H1.next) (hr: ∀q,H1.res=some q->q<H1.next/\¬E.dm q):aO E H1 w:=
 ⟨fun id h=>r.fresh id (aDb hn h),hr,fun id o h=>r.live id o (sub id o h),fun i j o o' h h' e=>r.inj i j o o' (sub _ _ h) (sub _ _ h') e,r.xC,r.glob,fun b x hb=> ⟨(r.hid b x hb).1,(r.hid b x hb).2.1,fun id o h=>(r.hid b x hb).2.2 id o (sub id o h)⟩⟩
theorem aiE [Glob] {H1 Y1:Hp} (r:aO E H w) (sub: ∀id o,H1.get id=some o->H.get id=some o) (st:Stp E H1 w E' Y1 w') (r':aO E' Y1 w') (n:Nat) (hn: ∀id,n<=id->¬E'.dm id) :
 ∃H':Hp,H'=⟨Tr.over Y1.m (Tr.minus H1.m H.m),n,none⟩/\(∀id o,Y1.get id=some o->H'.get id=some o)/\(∀id o,H.get id=some o->H1.get id=none->H'.get id=some o)/\aO E' H' w'/\Stw E H w E' H' w':=by
 have hnot: ∀id o,H.get id=some o->H1.get id=none->Y1.get id=none:=by
  intro id o h h1
  cases h2:Y1.get id with
  |none=>rfl
  |some o'=>
   exfalso;have hd:=(r.live id o h).1;have hθ:=st.θ id hd;obtain⟨yH,o0,g1,g2⟩:=st.own id o' h2 (by rw [hθ]; exact iD r h);have:=r.inj yH id o0 o (sub _ _ g1) h (by rw [g2,hθ])
   grind
 have hget: ∀id,(⟨Tr.over Y1.m (Tr.minus H1.m H.m),n,none⟩ : Hp).get id=match Y1.get id with |some x=>some x|none=>match H1.get id with |some _=>none|none=>H.get id:=by
  intro id;simp only [Hp.get,Tr.ML,Tr.IC]
  grind
 have hcase: ∀id o,(⟨Tr.over Y1.m (Tr.minus H1.m H.m),n,none⟩ : Hp).get id=some o->Y1.get id=some o\/(Y1.get id=none/\H1.get id=none/\H.get id=some o):=by
  intro id o h
  grind
 have hkeep: ∀id o,H1.get id=none->H.get id=some o->w'.heap[(E.θ id).1]?=w.heap[(E.θ id).1]?:=by
  intro id o h1 h;refine st.keep _ (iD r h) fun yH o0 h0 he=>?_;have:=r.inj yH id o0 o (sub _ _ h0) h he
  grind
 have k:Keeps E w.heap E' w'.heap:=⟨st.ρ,st.dm,st.θ,st.κ,st.ro,fun b hb=>st.keep b (r.xC b hb) fun id o ho he=>(r.live id o (sub _ _ ho)).2.2 (by rw [he]; exact hb)⟩;refine⟨_,rfl,fun id o h=>by rw [hget,h],fun id o h h1=>by rw [hget,hnot id o h h1,h1]; exact h,⟨hn,by simp,?_,?_,r'.xC,r'.glob,?_⟩,⟨st.ρ,st.dm,st.θ,st.κ,st.ro,fun b hb=>(st.yA b hb).imp id (Or.imp (fun⟨i,o,h1,h2⟩=> ⟨i,o,sub _ _ h1,h2⟩) id),st.os,st.tape,st.output,st.size,?_,?_,st.hd⟩⟩
 ·intro id o h;rcases hcase id o h with h1|⟨h1,h2,h3⟩
  ·exact r'.live id o h1
  ·obtain⟨g1,g2,g3⟩:=r.live id o h3;refine⟨st.dm id g1,g2.keep k g1 (hkeep id o h2 h3) (r.hdk st.hd (fun b hb hn=>st.keep b hb fun i o ho=>hn i o (sub i o ho)) _),?_⟩;rw [st.θ id g1];intro hr;rcases st.yA _ hr with hr|⟨yH,o0,f1,f2⟩|hr
   ·grind
   ·have:=r.inj yH id o0 o (sub _ _ f1) h3 f2
    grind
   grind [iD]
 ·intro i j o o' h h' he;rcases hcase i o h with h1|⟨h1,h2,h3⟩ <;>rcases hcase j o' h' with g1|⟨g1,g2,g3⟩
  ·exact r'.inj i j o o' h1 g1 he
  ·exfalso;rw [st.θ j (r.live j o' g3).1] at he;obtain⟨yH,o0,f1,f2⟩:=st.own i o h1 (by rw [he]; exact iD r g3);have:=r.inj yH j o0 o' (sub _ _ f1) g3 (f2.trans he)
   grind
  ·exfalso;rw [st.θ i (r.live i o h3).1] at he;obtain⟨yH,o0,f1,f2⟩:=st.own j o' g1 (by rw [<- he]; exact iD r h3);have:=r.inj yH i o0 o (sub _ _ f1) h3 (f2.trans he.symm)
   grind
  ·rw [st.θ i (r.live i o h3).1,st.θ j (r.live j o' g3).1] at he;exact r.inj i j o o' h3 g3 he
 ·refine r.acK st.hd st.size (fun b hb=>(st.yA b hb).imp id (Or.imp (fun⟨i,o,h1,h2⟩=> ⟨i,o,sub _ _ h1,h2⟩) id)) fun id o h hlt=>?_;rcases hcase id o h with h1|⟨h1,h2,h3⟩
  ·obtain⟨yH,o0,f1,f2⟩:=st.own id o h1 hlt;exact⟨yH,o0,sub _ _ f1,f2⟩
  ·exact⟨id,o,h3,by rw [st.θ id (r.live id o h3).1]⟩
 ·intro b hb hno;exact st.keep b hb fun id o h=>hno id o (sub _ _ h)
 ·intro id o h hlt;rcases hcase id o h with h1|⟨h1,h2,h3⟩
  ·obtain⟨yH,o0,f1,f2⟩:=st.own id o h1 hlt
   grind
  ·exact⟨id,o,h3,by rw [st.θ id (r.live id o h3).1]⟩
theorem frame [Glob] {H1 Y1:Hp} (r:aO E H w) (sub: ∀id o,H1.get id=some o->H.get id=some o) (st:Stp E H1 w E' Y1 w') (r':aO E' Y1 w') (n:Nat) (hn: ∀id,n<=id->¬E'.dm id) :
 ∃H':Hp,H'.next=n/\H'.res=none/\(∀id o,Y1.get id=some o->H'.get id=some o)/\(∀id o,H.get id=some o->H1.get id=none->H'.get id=some o)/\aO E' H' w'/\Stw E H w E' H' w':=by
 obtain⟨H',h0,h1,h2,h3,h4⟩:=aiE r sub st r' n hn
 grind
end
section
variable {P:Program}
def Ou [Glob] (P:Program) (ρ:Nat->Int) (ops:Array Oper) (o:Oper) (S:Tr AV) (H:Hp) (v:AV) (H':Hp):Prop:=
 ∀(E:En) (a:Act) (w:World),E.ρ=ρ->aO E H w->SR E w.heap S a->
  (Region.wanted o (yielded ops a.tmps)=false/\v=AV.undef/\H'=H)\/
  (Region.wanted o (yielded ops a.tmps)=true/\vW P o a w (fun u w'=> ∃E',Stp E H w E' H' w'/\aO E' H' w'/\VR E' w'.heap v u))
theorem Ou.wpOp [Glob] {ρ:Nat->Int} {ops:Array Oper} {o:Oper} {S:Tr AV} {H H':Hp} {v:AV} (h:Ou P ρ ops o S H v H') {E:En} {a:Act} {w:World} (hρ:E.ρ=ρ) (r:aO E H w) (sr:SR E w.heap S a)
 {i:Nat} (ho:ops[i]?=some o) {K:Act->World->Prop} {Q:Exit->Act->World->Prop}
 (hk: ∀(u:Value) (E':En) (w':World),Stp E H w E' H' w'->aO E' H' w'->VR E' w'.heap v u->K (a.put o.dst u) w'):wpOp P ops Q i K a w:=by
 unfold Go.wpOp;simp only [ho];rcases h E a w hρ r sr with ⟨h1,rfl,rfl⟩|⟨h1,h2⟩
 ·rw [h1];simp only [aCU,if_false];exact hk undef E w (Stp.refl _ _ _) r nX
 ·rw [h1];simp only [if_true];exact .inl (h2 _ _ fun u w' ⟨E',q1,q2,q3⟩=>hk u E' w' q1 q2 q3)
inductive Kind where
 |pa
 |e
 |r
 deriving DecidableEq
structure Plan [Glob] (P:Program) (ρ:Nat->Int) (ops:Array Oper) (uU:Tr AV) (H0:Hp) where
 base:Nat
 bf:Nat->Nat->Bool
 kd:Nat->Kind
 S:Nat->Tr AV
 val:Nat->AV
 st:Nat->Nat
 nE:Nat
 hp:Nat->Hp
 un:Nat->Nat->Bool
 blk:Nat->Option dG
 gen: ∀i j,bf i j=true->∃(o:Oper) (e:Edge),ops[j]?=some o/\e∈o.after/\Region.binds .any e=true/\(e.on=i\/bf i e.on=true)
 back: ∀(j:Nat) (o:Oper),ops[j]?=some o->∀e∈o.after,Region.binds .any e=true->e.on<j
 dst: ∀(i j:Nat) (oi oj:Oper) (d:Nat),ops[i]?=some oi->ops[j]?=some oj->oi.dst=some d->oj.dst=some d->i=j
 slots: ∀(i:Nat) (o:Oper),ops[i]?=some o->∀t x,(S i).get t=some x->(∃(j:Nat) (oj:Oper),bf j i=true/\ops[j]?=some oj/\oj.dst=some t/\val j=x)\/(uU.get t=some x/\∀(j:Nat) (oj:Oper),ops[j]?=some oj->oj.dst=some t->bf i j=true)
 stl: ∀(j:Nat) (o:Oper),ops[j]?=some o->kd j= .e->st j<nE
 inj: ∀i j,kd i= .e->kd j= .e->st i=st j->i=j
 ayO: ∀(j:Nat) (o:Oper),ops[j]?=some o->kd j= .e->∀m,m<st j->∃i,kd i= .e/\st i=m/\bf i j=true
 pa: ∀(i:Nat) (o:Oper),ops[i]?=some o->kd i= .pa->∃HA N,Ou P ρ ops o (S i) ⟨.nil,N,some (base+i)⟩ (val i) HA/\HA.next=N/\blk i=HA.get (base+i)/\∀k,k<=nE->(hp k).next<=N
 ev: ∀(j:Nat) (o:Oper),ops[j]?=some o->kd j= .e->∃UO,Ou P ρ ops o (S j) UO (val j) (hp (st j+1))/\UO.next=(hp (st j)).next/\UO.res=none/\
  (∀id x,UO.get id=some x->(hp (st j)).get id=some x\/∃a,bf a j=true/\un (st j) a=true/\id=base+a/\blk a=some x)/\
  (∀a,un (st j+1) a=true->un (st j) a=true/\bf a j=false)
 rd: ∀(i:Nat) (o:Oper),ops[i]?=some o->kd i= .r->∀k,k<=nE->(∀j,kd j= .e->bf j i=true->st j<k)->(∀(j:Nat) (oj:Oper),ops[j]?=some oj->kd j= .e->bf i j=true->k<=st j)->
  ∃UO,Ou P ρ ops o (S i) UO (val i) UO/\UO.next=(hp k).next/\UO.res=none/\
   (∀id x,UO.get id=some x->(hp k).get id=some x\/∃a,bf a i=true/\un k a=true/\id=base+a/\blk a=some x)
 unm: ∀k a x,k<=nE->blk a=some x->un k a=true->(hp k).get (base+a)=none
 nob: ∀i,kd i≠.pa->blk i=none
 first:base=H0.next/\base+ops.size<=(hp 0).next/\∀id x,(hp 0).get id=some x->H0.get id=some x
section
variable {gl:Glob} {ρ:Nat->Int} {ops:Array Oper} {uU:Tr AV} {H0:Hp} (p:Plan P ρ ops uU H0)
structure Plan.Inv (E0:En) (a0:Act) (w0:World) (L:Nat->Prop) (a:Act) (w:World):Prop where
 defers:a.defers=a0.defers
 size:a.tmps.size=a0.tmps.size
 closed: ∀i j,p.bf i j=true->L j->L i
 ex: ∃(E:En) (Hc:Hp) (k:Nat),k<=p.nE/\(∀(j:Nat) (o:Oper),ops[j]?=some o->p.kd j= .e->(L j↔p.st j<k))/\E.ρ=ρ/\Stw E0 H0 w0 E Hc w/\aO E Hc w/\Hc.next=(p.hp k).next/\Hc.res=none/\
  p.base+ops.size<=Hc.next/\(∀id,E.dm id->E0.dm id\/H0.next<=id)/\(∀(i:Nat) (o:Oper),ops[i]?=some o->¬L i->¬E.dm (p.base+i))/\
  (∀id x,(p.hp k).get id=some x->Hc.get id=some x)/\(∀b x,L b->p.un k b=true->p.blk b=some x->Hc.get (p.base+b)=some x)/\
  (∀t x,uU.get t=some x->(∀(j:Nat) (oj:Oper),ops[j]?=some oj->oj.dst=some t->¬L j)->∃u,a.tmps[t]?=some u/\VR E w.heap x u)/\
  (∀(j:Nat) (oj:Oper) (t:Nat),L j->ops[j]?=some oj->oj.dst=some t->∃u,a.tmps[t]?=some u/\VR E w.heap (p.val j) u)
theorem LC {a:Act} {d:Option Nat} {u:Value} {t:Nat} (h:d≠some t):(a.put d u).tmps[t]?=a.tmps[t]?:=by
 cases d with
 |none=>rfl
 |some x=>
  simp only [Act.put]
  grind
theorem amU {a:Act} {u:Value} {t:Nat} (h:t<a.tmps.size):(a.put (some t) u).tmps[t]?=some u:=by simp [Act.put,h]
theorem Plan.aBa: ∀(j i:Nat),p.bf i j=true->i<j/\j<ops.size:=by
 intro j
 induction j using Nat.strongRecOn with
 |_ j ih=>
  intro i h;obtain⟨o,e,g1,g2,g3,g4⟩:=p.gen i j h;have hlt:=p.back j o g1 e g2 g3
  grind
theorem Plan.asP {i j:Nat} (h:p.bf i j=true): ∃o:Oper,ops[i]?=some o:=by have:=p.aBa j i h;exact⟨ops[i]'(by omega),by simp⟩
theorem Plan.step {E0:En} {a0:Act} {w0:World} {L:Nat->Prop} {a:Act} {w:World} (hd: ∀o∈ops.toList,∀d,o.dst=some d->d<a0.tmps.size) (inv:p.Inv E0 a0 w0 L a w) {i:Nat} {o:Oper} (ho:ops[i]?=some o) (hL: ¬L i)
 (hr: ∀e∈o.after,Region.binds .any e=true->L e.on) {K:Act->World->Prop} {Q:Exit->Act->World->Prop} (hk: ∀a' w',p.Inv E0 a0 w0 (fun j=>j=i\/L j) a' w'->K a' w'):wpOp P ops Q i K a w:=by
 obtain⟨h1,h2,hcl,E,Hc,k,hkn,hst,hρ,U3,rel,hnx,hres,hroom,hdm,hun,hhp,hbl,hs0,hs1⟩:=inv
 have hbf: ∀j,p.bf j i=true->L j:=by
  intro j hj;obtain⟨o',e,g1,g2,g3,g4⟩:=p.gen j i hj;rw [ho] at g1;simp at g1;subst g1;have:=hr e g2 g3;rcases g4 with rfl|g4
  ·exact this
  ·exact hcl j e.on g4 this
 have hii:p.bf i i≠true:=fun h=>hL (hbf i h);have hin:i<ops.size:=(aDx.1 ho).1
 have sr:SR E w.heap (p.S i) a:=by
  intro t x ht;rcases p.slots i o ho t x ht with ⟨j,oj,g1,g2,g3,g4⟩|⟨g1,g2⟩
  ·subst g4;exact hs1 j oj t (hbf j g1) g2 g3
  ·exact hs0 t x g1 fun j oj hj hjt hLj=>hL (hcl i j (g2 j oj hj hjt) hLj)
 have hcl': ∀x j,p.bf x j=true->(j=i\/L j)->(x=i\/L x):=by
  intro x j hx hj;rcases hj with rfl|hj
  ·exact .inr (hbf x hx)
  ·exact .inr (hcl x j hx hj)
 have fin: ∀(u:Value) (E':En) (Xc:Hp) (w':World) (k':Nat),Stw E Hc w E' Xc w'->aO E' Xc w'->VR E' w'.heap (p.val i) u->k'<=p.nE->(∀(j:Nat) (o:Oper),ops[j]?=some o->p.kd j= .e->((j=i\/L j)↔p.st j<k'))->
  Xc.next=(p.hp k').next->Xc.res=none->Hc.next<=Xc.next->(∀id,E'.dm id->E.dm id\/Hc.next<=id\/id=p.base+i)->(∀id x,(p.hp k').get id=some x->Xc.get id=some x)->
  (∀b x,(b=i\/L b)->p.un k' b=true->p.blk b=some x->Xc.get (p.base+b)=some x)->K (a.put o.dst u) w':=by
  intro u E' Xc w' k' q1 q2 q3 q4 q5 q6 q7 q8 q9 q10 q11;have kp:=q1.keeps rel;refine hk _ _ ⟨by rw [As.put_defers]; exact h1,by rw [Lu]; exact h2,hcl',E',Xc,k',q4,q5,q1.ρ.trans hρ,U3.trans q1,q2,q6,q7,aDb hroom q8,?_,?_,q10,q11,?_,?_⟩
  ·intro id h;rcases q9 id h with h|h|h
   ·exact hdm id h
   ·right;have:=p.first.1;omega
   ·right;have:=p.first.1;omega
  ·intro j oj hj hn hdj;have hj2:=(aDx.1 hj).1;rcases q9 _ hdj with h|h|h
   ·exact hun j oj hj (fun h'=>hn (.inr h')) h
   ·omega
   ·exact hn (.inl (by omega))
  ·intro t x ht hno;obtain⟨y,g1,g2⟩:=hs0 t x ht fun j oj hj hjt h'=>hno j oj hj hjt (.inr h');exact⟨y,by rw [LC (fun e=>hno i o ho e (.inl rfl))]; exact g1,VR.keep kp _ _ g2⟩
  ·intro j oj t hj hoj ht;by_cases hji:j=i
   ·subst hji;rw [ho] at hoj;simp at hoj;subst hoj;rw [ht];exact⟨u,amU (by rw [h2]; exact hd o (Array.mem_toList_iff.2 (aEP ho)) t ht),q3⟩
   ·obtain⟨y,g1,g2⟩:=hs1 j oj t (hj.resolve_left hji) hoj ht;refine⟨y,?_,VR.keep kp _ _ g2⟩;rw [LC]
    ·exact g1
    ·intro h;exact hji (p.dst j i oj o t hoj ho ht h)
 cases hkd:p.kd i with
 |pa=>
  obtain⟨HA,N,g1,g2,g3,g4⟩:=p.pa i o ho hkd;have hN:=g4 k hkn;have aBN:=hun i o ho hL
  have r1:aO E ⟨.nil,N,some (p.base+i)⟩ w:=rel.part (by intro id x h; simp [Hp.get,Tr.get] at h) (by show Hc.next<=N; omega) (by
   intro q hq;simp at hq;subst hq
   exact⟨by show p.base+i<N; omega,aBN⟩)
  refine g1.wpOp hρ r1 sr ho fun u E' w' st r' hv=>?_
  have hdn: ∀id,E'.dm id->E.dm id\/id=p.base+i:=by
   intro id h;rcases st.dmn id h with h|h|h
   ·exact .inl h
   ·have h':N<=id/\id<HA.next:=h;omega
   ·have h':some (p.base+i)=some id:=h;simp at h';exact .inr h'.symm
  obtain⟨Xc,f1,f2,f3,f4,f5,f6⟩:=frame rel (by intro id x h; simp [Hp.get,Tr.get] at h) st r' Hc.next (fun id hid h=>by
   rcases hdn id h with h|h
   ·exact rel.fresh id hid h
   ·omega)
  refine fin u E' Xc w' k f6 f5 hv hkn ?_ (by rw [f1,hnx]) f2 (by omega) (fun id h=>(hdn id h).elim .inl fun h=> .inr (.inr h)) ?_ ?_
  ·intro j oj hoj hj;rw [<- hst j oj hoj hj];constructor
   ·intro h;rcases h with rfl|h
    ·rw [hkd] at hj; simp at hj
    ·exact h
   ·exact .inr
  ·intro id x h;exact f4 id x (hhp id x h) (by simp [Hp.get,Tr.get])
  ·intro b x hb hu hx;by_cases hbi:b=i
   ·subst hbi;rw [hx] at g3;exact f3 _ _ g3.symm
   ·exact f4 _ x (hbl b x (hb.resolve_left hbi) hu hx) (by simp [Hp.get,Tr.get])
 |e=>
  obtain⟨UO,g1,g2,g3,g4,g5⟩:=p.ev i o ho hkd
  have hge:k<=p.st i:=by
   rcases aCZ (p.st i) k with h|h
   ·exact absurd ((hst i o ho hkd).2 h) hL
   ·exact h
  have hsk:p.st i=k:=by
   rcases aCZ k (p.st i) with h|h
   ·obtain⟨j,e1,e2,e3⟩:=p.ayO i o ho hkd k h;have hj:=hbf j e3;obtain⟨oj,hoj⟩:=p.asP e3;have:=(hst j oj hoj e1).1 hj;omega
   ·omega
  rw [hsk] at g1 g2 g4 g5;have hkE:=p.stl i o ho hkd
  have hsub: ∀id x,UO.get id=some x->Hc.get id=some x:=by
   intro id x h;rcases g4 id x h with h|⟨b,e1,e2,rfl,e4⟩
   ·exact hhp id x h
   ·exact hbl b x (hbf b e1) e2 e4
  have r1:aO E UO w:=rel.part hsub (by omega) (by rw [g3]; simp);refine g1.wpOp hρ r1 sr ho fun u E' w' st r' hv=>?_
  have hdn: ∀id,E'.dm id->E.dm id\/Hc.next<=id:=by
   intro id h;rcases st.dmn id h with h|h|h
   ·exact .inl h
   ·right; omega
   ·rw [g3] at h; simp at h
  obtain⟨Xc,f1,f2,f3,f4,f5,f6⟩:=frame rel hsub st r' (p.hp (k+1)).next (fun id hid h=>r'.fresh id hid h)
  have hmono:=st.Zt;refine fin u E' Xc w' (k+1) f6 f5 hv (by omega) ?_ f1 f2 (by omega) (fun id h=>(hdn id h).elim .inl fun h=> .inr (.inl h)) f3 ?_
  ·intro j oj hoj hj;constructor
   ·intro h;rcases h with rfl|h
    ·omega
    ·have:=(hst j oj hoj hj).1 h;omega
   ·intro h;rcases aCZ (p.st j) k with h'|h'
    ·exact .inr ((hst j oj hoj hj).2 h')
    ·exact .inl (p.inj j i hj hkd (by omega))
  ·intro b x hb hu hx;obtain⟨e1,e2⟩:=g5 b hu;by_cases hbi:b=i
   ·subst hbi;rw [p.nob b (by rw [hkd]; simp)] at hx;simp at hx
   ·refine f4 _ x (hbl b x (hb.resolve_left hbi) e1 hx) ?_
    cases hy:UO.get (p.base+b) with
    |none=>rfl
    |some y=>
     exfalso;rcases g4 _ y hy with h|⟨c,c1,c2,c3,c4⟩
     ·rw [p.unm k b x hkn hx e1] at h;simp at h
     ·have:c=b:=by omega
      subst this;rw [e2] at c1;simp at c1
 |r=>
  have hk1: ∀j,p.kd j= .e->p.bf j i=true->p.st j<k:=by intro j hj hb;obtain⟨oj,hoj⟩:=p.asP hb;exact (hst j oj hoj hj).1 (hbf j hb)
  have hk2: ∀(j:Nat) (oj:Oper),ops[j]?=some oj->p.kd j= .e->p.bf i j=true->k<=p.st j:=by
   intro j oj hoj hj hb;rcases aCZ (p.st j) k with h|h
   ·exact absurd (hcl i j hb ((hst j oj hoj hj).2 h)) hL
   ·exact h
  obtain⟨UO,g1,g2,g3,g4⟩:=p.rd i o ho hkd k hkn hk1 hk2
  have hsub: ∀id x,UO.get id=some x->Hc.get id=some x:=by
   intro id x h;rcases g4 id x h with h|⟨b,e1,e2,rfl,e4⟩
   ·exact hhp id x h
   ·exact hbl b x (hbf b e1) e2 e4
  have r1:aO E UO w:=rel.part hsub (by omega) (by rw [g3]; simp);refine g1.wpOp hρ r1 sr ho fun u E' w' st r' hv=>?_
  have hdn: ∀id,E'.dm id->E.dm id:=by
   intro id h;rcases st.dmn id h with h|h|h
   ·exact h
   ·omega
   ·rw [g3] at h; simp at h
  obtain⟨Xc,f1,f2,f3,f4,f5,f6⟩:=frame rel hsub st r' Hc.next (fun id hid h=>rel.fresh id hid (hdn id h))
  have hall: ∀id x,Hc.get id=some x->Xc.get id=some x:=by
   intro id x h
   cases h':UO.get id with
   |none=>exact f4 id x h h'
   |some y=> have:=hsub id y h';rw [h] at this;simp at this;subst this;exact f3 id x h'
  refine fin u E' Xc w' k f6 f5 hv hkn ?_ (by rw [f1,hnx]) f2 (by omega) (fun id h=> .inl (hdn id h)) (fun id x h=>hall id x (hhp id x h)) ?_
  ·intro j oj hoj hj;rw [<- hst j oj hoj hj];constructor
   ·intro h;rcases h with rfl|h
    ·rw [hkd] at hj; simp at hj
    ·exact h
   ·exact .inr
  ·intro b x hb hu hx;by_cases hbi:b=i
   ·subst hbi;rw [p.nob b (by rw [hkd]; simp)] at hx;simp at hx
   ·exact hall _ x (hbl b x (hb.resolve_left hbi) hu hx)
def left (l:Nat->Bool):Nat->Nat
 |0=>0
 |n+1=>left l n+(if l n then 0 else 1)
theorem left_le {l l':Nat->Bool} (h: ∀j,l j=true->l' j=true): ∀n,left l' n<=left l n
 |0=>aCN _
 |n+1=>by
  have:=left_le h n;simp only [left]
  grind
theorem ZC {l l':Nat->Bool} (h: ∀j,l j=true->l' j=true) {i:Nat} (h1:l i=false) (h2:l' i=true): ∀n,i<n->left l' n<left l n
 |0,hi=>by omega
 |n+1,hi=>by
  have hle:=left_le h n;simp only [left];by_cases hin:i=n
  ·grind
  ·have:=ZC h h1 h2 n (by omega)
   grind
theorem Ir {l:Nat->Bool}: ∀n,left l n=0->∀i,i<n->l i=true
 |0,_,i,hi=>by omega
 |n+1,h,i,hi=>by
  simp only [left] at h;by_cases hin:i=n
  ·grind
  ·exact Ir n (by omega) i (by omega)
theorem Plan.ready_nil (q:Plan P ρ ops uU H0) {listed:Array Bool} (hsz:listed.size=ops.size) (h:Region.ready .any ops listed= []): ∀i,i<ops.size->listed[i]?=some true:=by
 intro i
 induction i using Nat.strongRecOn with
 |_ i ih=>
  intro hi
  cases hl:listed[i]? with
  |none=>rw [aE7] at hl; omega
  |some b=>
   cases b with
   |true=>rfl
   |false=>
    exfalso;have ho:ops[i]?=some ops[i]:=by simp [hi]
    have:i∈Region.ready .any ops listed:=by rw [mem_ready];refine⟨by simp [hl],ops[i],ho,fun e he hb=>?_⟩;have hlt:=q.back i _ ho e he hb;simp [ih e.on hlt (by omega)]
    grind
theorem Plan.any {E0:En} {a0:Act} {w0:World} (hd: ∀o∈ops.toList,∀d,o.dst=some d->d<a0.tmps.size) {Q:Exit->Act->World->Prop} (hq: ∀a w,p.Inv E0 a0 w0 (fun i=>i<ops.size) a w->Q .normal a w) :
 ∀(fuel:Nat) (listed:Array Bool) (a:Act) (w:World),listed.size=ops.size->left (fun i=>listed.getD i true) ops.size<=fuel->p.Inv E0 a0 w0 (fun i=>listed[i]?=some true) a w->wpAny P .any ops Q fuel listed a w:=by
 have hend: ∀(listed:Array Bool) (a:Act) (w:World),listed.size=ops.size->p.Inv E0 a0 w0 (fun i=>listed[i]?=some true) a w->Region.ready .any ops listed= []->Q .normal a w:=by
  intro listed a w hsz inv hnil;have hall:=p.ready_nil hsz hnil;refine hq a w ?_
  have:(fun i=>listed[i]?=some true)=(fun i=>i<ops.size):=by
   grind
  grind
 intro fuel
 induction fuel with
 |zero=>
  intro listed a w hsz hleft inv;have hall:=Ir (l:=fun i=>listed.getD i true) ops.size (by omega)
  have hnil:Region.ready .any ops listed= []:=by
   rw [aEs];intro i hi;rw [mem_ready] at hi
   grind
  exact⟨hnil,hend listed a w hsz inv hnil⟩
 |succ fuel ih=>
  intro listed a w hsz hleft inv;refine⟨hend listed a w hsz inv,fun i hi=>?_⟩;rw [mem_ready] at hi;obtain⟨h1,o,h2,h3⟩:=hi;have hin:=(aDx.1 h2).1
  have hlf:listed[i]?=some false:=by simp_all
  refine p.step hd inv h2 (by rw [hlf]; simp) (fun e he hb=>?_) fun a' w' aCx=>?_
  ·have:=h3 e he hb
   cases hc:listed[e.on]? with
   |none=>simp [hc] at this
   |some b=>simp [hc] at this; rw [this]
  ·refine ih _ a' w' (by simpa using hsz) ?_ ?_
   ·have:=ZC (l:=fun j=>listed.getD j true) (l':=fun j=>(listed.setIfInBounds i true).getD j true) (i:=i) (fun j hj=>?_) h1 ?_ ops.size hin
    ·omega
    ·by_cases hij:i=j
     all_goals simp_all
    simp_all
   grind
theorem Plan.start {E0:En} {s0:St} {a0:Act} {w0:World} (hs:s0.slots=uU) (hh:s0.h=H0) (hρ:E0.ρ=ρ) (fit:Fit E0 s0 a0 w0) (listed:Array Bool) (hl: ∀(i:Nat),listed[i]?≠some true):p.Inv E0 a0 w0 (fun i=>listed[i]?=some true) a0 w0:=by
 subst hs hh;obtain⟨h1,h2,h3⟩:=p.first;have rel:=fit.rel;have r1:aO E0 ⟨s0.h.m,(p.hp 0).next,none⟩ w0:=rel.part (fun id x h=>h) (by show s0.h.next<=(p.hp 0).next; omega) (by simp);refine⟨rfl,rfl,fun i j _ h=>absurd h (hl j),E0,⟨s0.h.m,(p.hp 0).next,none⟩,0,aDP _,fun j o _ _=> ⟨fun h=>absurd h (hl j),fun h=>by omega⟩,hρ,?_,r1,rfl,rfl,h2,fun id h=> .inl h,?_,fun id x h=>h3 id x h,fun b x h=>absurd h (hl b),?_,fun j oj t h=>absurd h (hl j)⟩
 ·have:=(Stp.refl E0 s0.h w0).weak;exact⟨this.ρ,this.dm,this.θ,this.κ,this.ro,this.yA,this.os,this.tape,this.output,this.size,this.keep,this.own,this.hd⟩
 ·intro i o _ _ hdm;exact rel.fresh _ (by omega) hdm
 ·intro t x ht _;exact fit.sr t x ht
theorem Plan.finish {E0:En} {s0 s':St} {a0 a:Act} {w0 w:World} (hh:s0.h=H0) (inv:p.Inv E0 a0 w0 (fun i=>i<ops.size) a w) (hpc:aW ρ s'.pc)
 (aBQ: ∀t x,s'.slots.get t=some x->(∃(j:Nat) (oj:Oper),ops[j]?=some oj/\oj.dst=some t/\p.val j=x)\/(uU.get t=some x/\∀(j:Nat) (oj:Oper),ops[j]?=some oj->oj.dst≠some t))
 (hheap: ∀id x,s'.h.get id=some x->(p.hp p.nE).get id=some x\/∃b,b<ops.size/\p.un p.nE b=true/\id=p.base+b/\p.blk b=some x)
 (hnext:(p.hp p.nE).next=s'.h.next) (hres:s'.h.res=none) (hall: ∀(m:Nat),m<p.nE->∃(j:Nat) (o:Oper),ops[j]?=some o/\p.kd j= .e/\p.st j=m):Then E0 s0 a0 w0 s' a w:=by
 subst hh;obtain⟨h1,h2,hcl,E,Hc,k,hkn,hst,hρ,U3,rel,hnx,hrs,hroom,hdm,hun,hhp,hbl,hs0,hs1⟩:=inv
 have hk:k=p.nE:=by
  rcases aCZ k p.nE with h|h
  all_goals grind
 subst hk
 have hsub: ∀id x,s'.h.get id=some x->Hc.get id=some x:=by
  intro id x h
  grind
 have hf:=p.first.1;refine⟨h1,h2,E,?_,rel.part hsub (by omega) (by rw [hres]; simp),?_,by rw [hρ]; exact hpc⟩
 ·refine Stw.strong ⟨U3.ρ,U3.dm,U3.θ,U3.κ,U3.ro,U3.yA,U3.os,U3.tape,U3.output,U3.size,U3.keep,fun id o h=>U3.own id o (hsub id o h),U3.hd⟩ (by omega) hres fun id h=>?_;rcases hdm id h with g|g
  ·grind
  ·right;refine⟨g,?_⟩;rcases aCZ id s'.h.next with g'|g'
   ·exact g'
   ·exact absurd h (rel.fresh id (by omega))
 ·intro t x ht
  grind
end
end
end Go.As
end
section
namespace Go.As
noncomputable section
mutual
def dZ:AV->AV->Bool
 | .bool a,.bool b=>tC a b
 | .int k a,.int l b=>decide (k=l)&&fD a b
 | .str a,.str b=>decide (a=b)
 | .ptr i o,.ptr j p=>decide (i=j)&&decide (o=p)
 | .kM,.kM=>true
 | .qX a,.qX b=>jU a b
 | .slice i o l c,.slice j p m d=>decide (i=j)&&decide (o=p)&&decide (l=m)&&decide (c=d)
 | .aQ,.aQ=>true
 | .ro a n f,.ro b m g=>jU a b&&decide (n=m)&&decide (f=g)
 | .map i,.map j=>decide (i=j)
 | .qK,.qK=>true
 | .func f a b,.func g c d=>decide (f=g)&&jU a c&&jU b d
 | .BA,.BA=>true
 | .iface t v,.iface u x=>decide (t=u)&&dZ v x
 | .EG,.EG=>true
 | .agg a,.agg b=>jU a b
 | .tuple a,.tuple b=>jU a b
 | .opq i,.opq j=>decide (i=j)
 | .inp i a,.inp j b=>decide (i=j)&&decide (a=b)
 | .emp,.emp=>true
 | .dat a t,.dat b u=>fD a b&&Nat.beq t u
 | .lQ a,.lQ b=>fD a b
 | .qO i n t,.qO j m u=>Nat.beq i j&&fD n m&&Nat.beq t u
 | .pX i a x o,.pX j b y p=>Nat.beq i j&&Nat.beq a b&&fD x y&&Nat.beq o p
 | .AL i l n t,.AL j k m u=>Nat.beq i j&&fD l k&&fD n m&&Nat.beq t u
 | .any,.any=>true
 | .Ec a t,.Ec b u=>fD a b&&Nat.beq t u
 |_,_=>false
def jU:List AV->List AV->Bool
 |[],[]=>true
 |x::xs,y::ys=>dZ x y&&jU xs ys
 |_,_=>false
end
mutual
theorem lK: ∀(x y:AV),dZ x y=true->x=y
 | .bool a,y,h=>by cases y<;>simp [dZ] at h<;>rw [xU _ _ h]
 | .int k a,y,h=>by cases y<;>simp [dZ] at h<;>rw [h.1,bI _ _ h.2]
 | .str a,y,h=>by cases y<;>simp [dZ] at h<;>simp [h]
 | .ptr i o,y,h=>by cases y<;>simp [dZ] at h<;>simp [h]
 | .kM,y,h=>by cases y<;>simp [dZ] at h<;>rfl
 | .qX a,y,h=>by cases y<;>simp [dZ] at h; rw [gI _ _ h]
 | .slice i o l c,y,h=>by cases y<;>simp [dZ] at h<;>simp [h]
 | .aQ,y,h=>by cases y<;>simp [dZ] at h<;>rfl
 | .ro a n f,y,h=>by cases y<;>simp [dZ] at h; rw [gI _ _ h.1.1,h.1.2,h.2]
 | .map i,y,h=>by cases y<;>simp [dZ] at h<;>simp [h]
 | .qK,y,h=>by cases y<;>simp [dZ] at h<;>rfl
 | .func f a b,y,h=>by cases y<;>simp [dZ] at h; rw [h.1.1,gI _ _ h.1.2,gI _ _ h.2]
 | .BA,y,h=>by cases y<;>simp [dZ] at h<;>rfl
 | .iface t v,y,h=>by cases y<;>simp [dZ] at h; rw [h.1,lK _ _ h.2]
 | .EG,y,h=>by cases y<;>simp [dZ] at h<;>rfl
 | .agg a,y,h=>by cases y<;>simp [dZ] at h; rw [gI _ _ h]
 | .tuple a,y,h=>by cases y<;>simp [dZ] at h; rw [gI _ _ h]
 | .opq i,y,h=>by cases y<;>simp [dZ] at h<;>simp [h]
 | .inp i a,y,h=>by cases y<;>simp [dZ] at h<;>simp [h]
 | .emp,y,h=>by cases y<;>simp [dZ] at h<;>rfl
 | .dat a t,y,h=>by cases y<;>simp [dZ] at h<;>rw [h.2,bI _ _ h.1]
 | .lQ a,y,h=>by cases y<;>simp [dZ] at h<;>rw [bI _ _ h]
 | .qO i n t,y,h=>by cases y<;>simp [dZ] at h<;>rw [h.1.1,bI _ _ h.1.2,h.2]
 | .pX i a x o,y,h=>by cases y<;>simp [dZ] at h<;>rw [h.1.1.1,h.1.1.2,bI _ _ h.1.2,h.2]
 | .AL i l n t,y,h=>by cases y<;>simp [dZ] at h<;>rw [h.1.1.1,bI _ _ h.1.1.2,bI _ _ h.1.2,h.2]
 | .any,y,h=>by cases y<;>simp [dZ] at h<;>rfl
 | .Ec a t,y,h=>by cases y<;>simp [dZ] at h<;>rw [h.2,bI _ _ h.1]
theorem gI: ∀(xs ys:List AV),jU xs ys=true->xs=ys
 |[],ys,h=>by cases ys<;>simp [jU] at h; rfl
 |x::xs,ys,h=>by
  cases ys with
  |nil=>simp [jU] at h
  |cons y ys=>simp [jU] at h; rw [lK _ _ h.1,gI _ _ h.2]
end
def LP (o:Op):List Nat:=o.operands.toList.filterMap fun
 | .tmp t=>some t
 |_=>none
def reads (all:List Oper) (o:Oper):List Nat:=match o.guard with
 |none=>LP o.op
 |some (j,_)=>match fF all j with
  |some oj=>match oj.dst with
   |some d=>d::LP o.op
   |none=>LP o.op
  |none=>LP o.op
def kindOf (tt:TT):Op->Kind
 | .load _ _=> .r
 | .lookup _ _ _ _=> .r
 | .call c=>match c.callee with
   | .builtin b=>match b with
     | .len=> .r
     | .min=> .pa
     | .max=> .pa
     |_=> .e
   |_=> .e
 | .store _ _ _=> .e
 | .insert _ _ _ _=> .e
 | .mapUpdate _ _ _ _=> .e
 | .next _ _=> .e
 | .range _ _=> .e
 | .convert t u _=>match tt t with
   |some i=>match i.kind with
    | .slice _=>match tt u with
      |some j=>match j.kind with
       | .string=> .r
       |_=> .e
      |none=> .e
    |_=> .pa
   |none=> .e
 | .panic _=> .e
 |_=> .pa
def sK (ms:List Nat):List Edge->Nat
 |[]=>0
 |e::es=>if Region.binds .any e then ((1 <<<e.on)|||ms.getD e.on 0)|||sK ms es else sK ms es
def wH:List Oper->List Nat->List Nat
 |[],ms=>ms
 |o::os,ms=>wH os (ms++ [sK ms o.after.toList])
structure Item where
 i:Nat
 o:Oper
 m:Nat
 k:Kind
 st:Nat
 rd:List Nat
def items (tt:TT) (all:List Oper) (ms:List Nat):List Oper->Nat->Nat->List Item
 |[],_,_=>[]
 |o::os,i,n=> ⟨i,o,ms.getD i 0,kindOf tt o.op,n,reads all o⟩ ::items tt all ms os (i+1) (match kindOf tt o.op with | .e=>n+1|_=>n)
def Kind.isE:Kind->Bool
 | .e=>true
 |_=>false
def Kind.X0:Kind->Bool
 | .r=>true
 |_=>false
def ED (ms:List Nat) (is:List Item) (x:Item):Bool:=
 x.o.after.toList.all (fun e=>!Region.binds .any e||decide (e.on<x.i))&&
 decide (x.m=sK ms x.o.after.toList)&&
 x.rd.all (fun t=>is.all fun y=>decide (y.o.dst≠some t)||x.m.testBit y.i||(!x.k.X0&&y.m.testBit x.i))&&
 is.all (fun y=>decide (y.i=x.i)||(match y.o.dst with |some d=>decide (x.o.dst≠some d)|none=>true))&&
 (!x.k.isE||is.all fun y=>!y.k.isE||!decide (y.i<x.i)||x.m.testBit y.i)
def stages (is:List Item) (n:Nat) (x:Item):List Nat:=
 (List.range (n+1)).filter fun k=>is.all fun y=>!y.k.isE||((!x.m.testBit y.i||decide (y.st<k))&&(!y.m.testBit x.i||decide (k<=y.st)))
structure Stat where
 is:List Item
 nE:Nat
 rs:List (Item×List Nat)
def lS:List Item->Nat
 |[]=>0
 |x::xs=>match x.k with | .e=>lS xs+1|_=>lS xs
def stat (tt:TT) (all:List Oper):Option Stat:=
 let ms:=wH all [];let is:=items tt all ms all 0 0
 if is.all (ED ms is) then
  some ⟨is,lS is,(is.filter (·.k.X0)).map fun x=>(x,stages is (lS is) x)⟩
 else none
def only (slots:Tr AV):List Nat->Tr AV
 |[]=> .nil
 |t::ts=>match slots.get t with
  |some v=>(only slots ts).put t (some v)
  |none=>only slots ts
structure Y3 where
 slots:Tr AV
 pF:List (Hp×Nat)
 blks:List (Nat×dG)
 obs:List (Option dG)
 vs:List AV
def fV (base bm mm:Nat):List (Nat×dG)->Hp->Hp
 |[],h=>h
 |(a,x)::r,h=>if bm.testBit a&&!mm.testBit a then (fV base bm mm r h).put (base+a) x else fV base bm mm r h
def ev1 (tt:TT) (call:dQ) (all:List Oper) (o:Oper) (s:St):T (AV×St):=
 Di all s o fun s b=>if b then TW tt call s o.op else .ret (AV.undef,s)
def Bf (slots:Tr AV) (d:Option Nat) (v:AV):Tr AV:=match d with
 |some t=>slots.put t (some v)
 |none=>slots
def akG (tt:TT) (call:dQ) (all:List Oper) (base N:Nat) (pc:List (SB×Bool)) (x:Item) (d:Y3):T Y3:=
 match d.pF with
 |[]=> .fail
 |(h,mm)::rest=>
  match x.k with
  | .pa=>(ev1 tt call all x.o ⟨only d.slots x.rd,⟨.nil,N,some (base+x.i)⟩,pc⟩).bind fun (v,s')=>
    if s'.h.next=N then
     .ret ⟨Bf d.slots x.o.dst v,d.pF,match s'.h.get (base+x.i) with |some b=>(x.i,b)::d.blks|none=>d.blks,s'.h.get (base+x.i)::d.obs,v::d.vs⟩
    else .fail
  | .e=>(ev1 tt call all x.o ⟨only d.slots x.rd,fV base x.m mm d.blks h,pc⟩).bind fun (v,s')=>
    if s'.h.next<=N/\s'.h.res=none then
     .ret ⟨Bf d.slots x.o.dst v,(s'.h,mm|||x.m)::(h,mm)::rest,d.blks,none::d.obs,v::d.vs⟩
    else .fail
  | .r=>(ev1 tt call all x.o ⟨only d.slots x.rd,fV base x.m mm d.blks h,pc⟩).bind fun (v,_)=>
    .ret ⟨Bf d.slots x.o.dst v,d.pF,d.blks,none::d.obs,v::d.vs⟩
def T.Hf {α β:Type} (pc:List (SB×Bool)) (f:List (SB×Bool)->α->T β):T α->T β
 | .fail=> .fail
 | .ret a=>f pc a
 | .split c x y=>match lV pc c with
   |some true=>T.Hf pc f x
   |some false=>T.Hf pc f y
   |none=> .split c (T.Hf ((c,true)::pc) f x) (T.Hf ((c,false)::pc) f y)
def adD (tt:TT) (call:dQ) (all:List Oper) (base N:Nat):List Item->List (SB×Bool)->Y3->T (List (SB×Bool)×Y3)
 |[],pc,d=> .ret (pc,d)
 |x::xs,pc,d=>(akG tt call all base N pc x d).Hf pc (adD tt call all base N xs)
def JY (tt:TT) (call:dQ) (all:List Oper) (base:Nat) (pc:List (SB×Bool)) (x:Item) (v:AV) (S:Tr AV) (blks:List (Nat×dG)) (pF:List (Hp×Nat)):List Nat->T Unit
 |[]=> .ret ()
 |k::ks=>match fF pF k with
  |some (h,mm)=>(ev1 tt call all x.o ⟨S,fV base x.m mm blks h,pc⟩).bind fun (u,_)=>
   if dZ u v then JY tt call all base pc x v S blks pF ks else .fail
  |none=> .fail
def Sl (tt:TT) (call:dQ) (all:List Oper) (base:Nat) (d:Y3) (pF:List (Hp×Nat)) (vs:List AV):List (Item×List Nat)->List (SB×Bool)->T (List (SB×Bool))
 |[],pc=> .ret pc
 |(x,ks)::r,pc=>match fF vs x.i with
  |some v=>(JY tt call all base pc x v (only d.slots x.rd) d.blks pF ks).Hf pc fun pc _=>Sl tt call all base d pF vs r pc
  |none=> .fail
def Rz (base:Nat) (blks:List (Nat×dG)) (pF:List (Hp×Nat)):Bool:=
 blks.all fun (a,_)=>pF.all fun (h,mm)=>mm.testBit a||(h.get (base+a)).isNone
def NH (tt:TT) (call:dQ) (all:List Oper) (q:Stat) (s:St):T St:=
 match s.h.res with
 |some _=> .fail
 |none=>
 let base:=s.h.next;let n:=all.length;let N:=base+n+1099511627776
 (adD tt call all base N q.is s.pc ⟨s.slots,[(⟨s.h.m,base+n,none⟩,0)],[],[],[]⟩).bind fun (pc,d)=>
  match d.pF with
  |[]=> .fail
  |(h,mm)::_=>
   (Sl tt call all base d d.pF.reverse d.vs.reverse q.rs pc).bind fun pc=>
    if Rz base d.blks d.pF then .ret ⟨d.slots,fV base ((1 <<<n)-1) mm d.blks h,pc⟩ else .fail
def draw (tt:TT) (call:dQ) (all:List Oper) (s:St):T St:=
 match stat tt all with
 |none=> .fail
 |some q=>NH tt call all q s
end
end Go.As
end
section
namespace Go.As
section
variable {P:Program}
theorem Un [Glob] {tt:TT} (htt:dU P tt) {call:dQ} (hc:jO P call) {ops:Array Oper} {o:Oper} {s s':St} {v:AV} {ρ:Nat->Int} (hp:aW ρ s.pc) (h:(ev1 tt call ops.toList o s).leaf ρ=some (v,s')) :
 Ou P ρ ops o s.slots s.h v s'.h:=by
 intro E a w hρ r sr;subst hρ;unfold ev1 at h;obtain⟨pc',hp',h1⟩:=LQ ⟨r,sr,hp⟩ h;cases hw:Region.wanted o (yielded ops a.tmps)<;>rw [hw] at h1
 ·grind [aC]
 ·simp only [if_true] at h1;obtain⟨_,_,q3⟩:=Z5 htt hc (s:={ s with pc:=pc' }) (o:=o) r sr hp' h1;exact .inr ⟨rfl,q3⟩
theorem jV {α:Type} {ρ:Nat->Int} {s:St} {c:SB} {f:St->Bool->T α} {r:α} (h:(lT s c f).leaf ρ=some r): ∃pc' b,(f { s with pc:=pc' } b).leaf ρ=some r:=by
 unfold lT at h;split at h
 ·rename_i b _; exact⟨s.pc,b,h⟩
 grind [T.leaf]
theorem SH {α:Type} {ρ:Nat->Int} {s:St} {all:List Oper} {o:Oper} {f:St->Bool->T α} {r:α} (h:(Di all s o f).leaf ρ=some r): ∃pc' b,(f { s with pc:=pc' } b).leaf ρ=some r:=by
 unfold Di at h;split at h
 ·exact⟨s.pc,true,h⟩
 ·split at h
  ·split at h
   ·split at h
    ·obtain⟨pc',b,h1⟩:=jV h; exact⟨pc',_,h1⟩
    ·exact⟨s.pc,_,h⟩
    grind [T.leaf]
   grind [T.leaf]
  grind [T.leaf]
theorem LU {ρ:Nat->Int} {s:St} {x:Operand} {f:AV->T (AV×St)} {r:AV×St} (h:(Hq s x f).leaf ρ=some r): ∃v,(f v).leaf ρ=some r:=by
 grind [Hq,T.leaf]
theorem C9 {ρ:Nat->Int} {s s':St} {x:Option AV} {v:AV} (h:(yB s x).leaf ρ=some (v,s')):s'=s:=by
 unfold yB at h
 grind [aC,T.leaf]
theorem auR {tt:TT} {op:Op} (h:kindOf tt op= .r):(∃t x,op= .load t x)\/(∃t x i ok,op= .lookup t x i ok)\/(∃c:Call,op= .call c/\c.callee= .builtin .len)\/∃t u x i j e,op= .convert t u x/\tt t=some i/\i.kind= .slice e/\tt u=some j/\j.kind= .string:=by
 unfold kindOf at h;split at h<;>try (simp at h; done)
 all_goals grind
theorem Px {α:Type} {ρ:Nat->Int} {s:St} {i n:SE} {f:St->T α} {r:α} (h:(FT s i n f).leaf ρ=some r): ∃pc',(f { s with pc:=pc' }).leaf ρ=some r:=by
 unfold FT at h;obtain⟨pc1,b1,h1⟩:=jV h;split at h1
 ·grind [T.leaf]
 ·obtain⟨pc2,b2,h2⟩:=jV h1
  grind [T.leaf]
theorem Aj {α:Type} {ρ:Nat->Int} {kk:TK} {k:AV} {r:α} {f:St->T α}: ∀{es:List (AV×AV×Nat)} {s:St},(Ak kk k es s f).leaf ρ=some r->∃pc',(f { s with pc:=pc' }).leaf ρ=some r
 |[],s,h=> ⟨s.pc,h⟩
 |(k',v,b)::es,s,h=>by
  simp only [Ak] at h;split at h
  ·split at h
   ·exact⟨s.pc,h⟩
   ·exact Aj h
  ·split at h
   ·obtain⟨pc1,b1,h1⟩:=jV h;split at h1
    ·grind
    ·obtain⟨pc2,h2⟩:=Aj h1
     grind
   ·exact⟨s.pc,h⟩
theorem Ov {α:Type} {ρ:Nat->Int} {tt:TT} {t:Nat} {m k:AV} {r:α} {f:St->T α} {s:St} (h:(rW tt t m k s f).leaf ρ=some r): ∃pc',(f { s with pc:=pc' }).leaf ρ=some r:=by
 unfold rW at h;split at h
 ·split at h
  ·split at h
   ·split at h
    ·exact Aj h
    ·exact⟨s.pc,h⟩
   ·exact⟨s.pc,h⟩
  ·exact⟨s.pc,h⟩
 ·exact⟨s.pc,h⟩
theorem aoU {s s':St} {cs:List AV} {e:SE} {v:AV} {ρ:Nat->Int} (h:(QJ s cs e).leaf ρ=some (v,s')):s'.h=s.h:=by
 grind [QJ,T.leaf,Px,aC]
theorem acY {tt:TT} {s s':St} {ty t:Nat} {k:AV} {ok:Bool} {e:SE} {v:AV} {ρ:Nat->Int} (h:(Gy tt ty k ok e t s).leaf ρ=some (v,s')):s'.h=s.h:=by
 unfold Gy at h;split at h
 ·grind [T.leaf]
 ·split at h
  ·grind [T.leaf]
  ·obtain⟨pc',b,h1⟩:=jV h
   grind [aC]
theorem I5 {α:Type} {ρ:Nat->Int} {i:SE} {r:α}: ∀{ov:List (SE×List AV)} {s:St} {k:St->T α},(Ba i ov s k).leaf ρ=some r->∃pc',(k { s with pc:=pc' }).leaf ρ=some r
 |[],s,k,h=> ⟨s.pc,h⟩
 |(j,c)::l,s,k,h=>by
  simp only [Ba] at h;split at h
  ·exact⟨s.pc,h⟩
  ·obtain⟨pc1,b1,h1⟩:=jV h;split at h1
   ·grind
   ·obtain⟨pc2,h2⟩:=I5 h1
    grind
theorem acZ {tt:TT} {s s':St} {ty id es off:Nat} {i:SE} {v:AV} {ρ:Nat->Int} (h:(Gz tt s ty id es i off).leaf ρ=some (v,s')):s'.h=s.h:=by
 unfold Gz at h;split at h
 ·split at h
  ·grind [T.leaf,aoU]
  ·split at h
   all_goals grind [Px,I5,C9,T.leaf]
  grind [T.leaf]
 grind [T.leaf]
theorem Gt {α:Type} {ρ:Nat->Int} {x:SE} {r:α}: ∀{ov:List (SE×AV)} {s:St} {k:Option AV->St->T α},(Ac x ov s k).leaf ρ=some r->∃o pc',(k o { s with pc:=pc' }).leaf ρ=some r
 |[],s,k,h=> ⟨none,s.pc,h⟩
 |(j,c)::l,s,k,h=>by
  simp only [Ac] at h;split at h
  ·exact⟨_,s.pc,h⟩
  ·obtain⟨pc1,b1,h1⟩:=jV h;split at h1
   ·exact⟨_,pc1,h1⟩
   ·obtain⟨o,pc2,h2⟩:=Gt h1;exact⟨o,pc2,h2⟩
theorem acX {tt:TT} {ty:Nat} {k:AV} {ok:Bool} {e:SE} {ov:List (SE×AV)} {s s':St} {v:AV} {ρ:Nat->Int} (h:(Gx tt ty k ok e ov s).leaf ρ=some (v,s')):s'.h=s.h:=by
 unfold Gx at h;split at h
 ·simp [T.leaf] at h
 ·split at h
  ·simp [T.leaf] at h
  ·obtain⟨o,pc1,h1⟩:=Gt h;split at h1
   ·have:=aC h1;simp only [aCK] at this;rw [<- this.2]
   ·obtain⟨pc2,b2,h2⟩:=jV h1;split at h2
    ·have:=aC h2;simp only [aCK] at this;rw [<- this.2]
    ·simp [T.leaf] at h2
theorem awJ {tt:TT} {call:dQ} {op:Op} {s s':St} {v:AV} {ρ:Nat->Int} (hk:kindOf tt op= .r) (h:(TW tt call s op).leaf ρ=some (v,s')):s'.h=s.h:=by
 rcases auR hk with ⟨t,x,rfl⟩|⟨t,x,i,ok,rfl⟩|⟨c,rfl,hc⟩|⟨t,u,x,i,j,e,rfl,hi,he,hj,hs⟩
 ·grind [TW,LU,acZ,C9]
 ·grind [TW,LU,acY,acX,Ov,C9,T.leaf]
 ·simp only [TW,Uh] at h;split at h
  ·grind [T.leaf]
  ·rw [hc] at h;simp only [Dz] at h
   grind [C9,T.leaf]
 ·simp only [TW] at h;obtain⟨p,h1⟩:=LU h;split at h1
  ·grind [Kz,T.leaf]
  obtain⟨H,e1,rfl⟩:=uY h1;unfold uQ at e1;rw [hi,hj] at e1;simp only [hs,he] at e1;split at e1
  ·grind
  ·split at e1
   ·split at e1
    ·grind
    ·split at e1
     ·rw [aCX] at e1
      grind
     grind
    grind
   grind
theorem aAV {tt:TT} {call:dQ} {all:List Oper} {o:Oper} {s s':St} {v:AV} {ρ:Nat->Int} (hk:kindOf tt o.op= .r) (h:(ev1 tt call all o s).leaf ρ=some (v,s')):s'.h=s.h:=by
 unfold ev1 at h;obtain⟨pc',b,h1⟩:=SH h;cases b
 ·grind [aC]
 ·simp only [if_true] at h1;exact awJ (s:={ s with pc:=pc' }) hk h1
theorem sS {base bm mm:Nat}: ∀{l:List (Nat×dG)} {h:Hp} {id:Nat} {x:dG},(fV base bm mm l h).get id=some x->h.get id=some x\/∃a,(a,x)∈l/\bm.testBit a=true/\mm.testBit a=false/\id=base+a
 |[],h,id,x,hh=> .inl hh
 |(a,y)::r,h,id,x,hh=>by
  simp only [fV] at hh;split at hh
  ·rename_i hb;rw [Hp.get_put] at hh;split at hh
   ·rename_i e
    grind
   ·rcases sS hh with h1|⟨b,h1,h2⟩
    all_goals grind
  ·rcases sS hh with h1|⟨b,h1,h2⟩
   all_goals grind
theorem lI {base bm mm:Nat}: ∀(l:List (Nat×dG)) (h:Hp),(fV base bm mm l h).next=h.next/\(fV base bm mm l h).res=h.res
 |[],h=> ⟨rfl,rfl⟩
 |(a,y)::r,h=>by
  have:=lI (base:=base) (bm:=bm) (mm:=mm) r h;simp only [fV];split
  ·exact this
  grind
theorem FQ {slots:Tr AV}: ∀{ts:List Nat} {t:Nat} {x:AV},(only slots ts).get t=some x->t∈ts/\slots.get t=some x
 |[],t,x,h=>by simp [only,Tr.get] at h
 |u::us,t,x,h=>by
  simp only [only] at h;split at h
  ·rename_i v hv;rw [Tr.get_put] at h;split at h
   ·rename_i e
    grind
   ·have:=FQ h
    grind
  ·have:=FQ h
   grind
theorem CX {slots:Tr AV} {d:Option Nat} {v:AV} {t:Nat}:(Bf slots d v).get t=if d=some t then some v else slots.get t:=by
 cases d with
 |none=>simp [Bf]
 |some u=>
  grind [Bf,Tr.get_put]
theorem uH {ms:List Nat} {i:Nat}: ∀{es:List Edge},(sK ms es).testBit i=true->∃e∈es,Region.binds .any e=true/\(e.on=i\/(ms.getD e.on 0).testBit i=true)
 |[],h=>by simp [sK] at h
 |e::es,h=>by
  simp only [sK] at h;split at h
  ·rename_i hb;simp only [Nat.testBit_or,aDM] at h;rcases h with (h|h)|h
   ·rw [Nat.shiftLeft_eq,aDS,Nat.testBit_two_pow] at h
    grind
   ·grind
   ·obtain⟨e',h1,h2⟩:=uH h
    grind
  ·obtain⟨e',h1,h2⟩:=uH h
   grind
def lH (tt:TT):List Oper->Nat
 |[]=>0
 |o::os=>(match kindOf tt o.op with | .e=>1|_=>0)+lH tt os
theorem lN {tt:TT} {all:List Oper} {ms:List Nat}: ∀(os:List Oper) (i n j:Nat),(items tt all ms os i n)[j]?=(os[j]?).map fun o=> ⟨i+j,o,ms.getD (i+j) 0,kindOf tt o.op,n+lH tt (os.take j),reads all o⟩
 |[],i,n,j=>by simp [items]
 |o::os,i,n,j=>by
  simp only [items]
  cases j with
  |zero=>simp [lH]
  |succ j=>
   rw [aC7,lN os]
   grind [lH]
theorem zC {tt:TT} {all:List Oper} {ms:List Nat}: ∀(os:List Oper) (i n:Nat),(items tt all ms os i n).length=os.length
 |[],i,n=>rfl
 |o::os,i,n=>by simp [items,zC os]
theorem qL {tt:TT} {all:List Oper} {ms:List Nat}: ∀(os:List Oper) (i n:Nat),lS (items tt all ms os i n)=lH tt os
 |[],i,n=>rfl
 |o::os,i,n=>by
  simp only [items,lS,lH,qL os]
  grind
end
section
variable {P:Program}
def Oi [Glob] (P:Program) (ρ:Nat->Int) (ops:Array Oper) (base N:Nat) (x:Item) (d:Y3) (v:AV) (ob:Option dG) (d1:Y3):Prop:=
 ∃h mm rest,d.pF=(h,mm)::rest/\match x.k with
  | .pa=>d1.pF=d.pF/\∃HA,Ou P ρ ops x.o (only d.slots x.rd) ⟨.nil,N,some (base+x.i)⟩ v HA/\HA.next=N/\ob=HA.get (base+x.i)
  | .e=>ob=none/\∃hn,d1.pF=(hn,mm|||x.m)::d.pF/\hn.next<=N/\hn.res=none/\Ou P ρ ops x.o (only d.slots x.rd) (fV base x.m mm d.blks h) v hn
  | .r=>ob=none/\d1.pF=d.pF
theorem akF [Glob] {tt:TT} (htt:dU P tt) {call:dQ} (hc:jO P call) {ops:Array Oper} {base N:Nat} {pc:List (SB×Bool)} {ρ:Nat->Int} (hp:aW ρ pc) {x:Item} {d d1:Y3} (h:(akG tt call ops.toList base N pc x d).leaf ρ=some d1) :
 ∃v ob,d1.slots=Bf d.slots x.o.dst v/\d1.vs=v::d.vs/\d1.obs=ob::d.obs/\d1.blks=(match ob with |some b=>(x.i,b)::d.blks|none=>d.blks)/\Oi P ρ ops base N x d v ob d1:=by
 unfold akG at h;split at h
 ·grind [T.leaf]
 ·rename_i h0 mm rest hs;split at h
  ·rename_i hk;obtain⟨⟨v,s'⟩,h1,h2⟩:=T.fK h;have ha:=Un htt hc (s:=⟨only d.slots x.rd,⟨.nil,N,some (base+x.i)⟩,pc⟩) hp h1;simp only at h2;split at h2
   ·rename_i hn;have:=aC h2;subst this;refine⟨v,s'.h.get (base+x.i),rfl,rfl,rfl,?_,h0,mm,rest,hs,?_⟩
    all_goals grind
   grind [T.leaf]
  ·rename_i hk;obtain⟨⟨v,s'⟩,h1,h2⟩:=T.fK h;have ha:=Un htt hc (s:=⟨only d.slots x.rd,fV base x.m mm d.blks h0,pc⟩) hp h1;simp only at h2;split at h2
   ·rename_i hn;have:=aC h2;subst this;refine⟨v,none,rfl,rfl,rfl,rfl,h0,mm,rest,hs,?_⟩
    grind
   ·simp [T.leaf] at h2
  ·rename_i hk;obtain⟨⟨v,s'⟩,h1,h2⟩:=T.fK h;have:=aC h2;subst this;refine⟨v,none,rfl,rfl,rfl,rfl,h0,mm,rest,hs,?_⟩
   grind
theorem Oi.pF [Glob] {ρ:Nat->Int} {ops:Array Oper} {base N:Nat} {x:Item} {d d1:Y3} {v:AV} {ob:Option dG} (h:Oi P ρ ops base N x d v ob d1): ∃pre,d1.pF=pre++d.pF/\pre.length=lS [x]:=by
 obtain⟨h0,mm,rest,hs,h1⟩:=h;cases hk:x.k<;>rw [hk] at h1
 ·simp_all [lS]
 ·obtain⟨_,hn,h2,_⟩:=h1;exact⟨[(hn,mm|||x.m)],by rw [h2]; rfl,by simp [lS,hk]⟩
 simp_all [lS]
theorem Oi.nxt [Glob] {ρ:Nat->Int} {ops:Array Oper} {base N:Nat} {x:Item} {d d1:Y3} {v:AV} {ob:Option dG} (h:Oi P ρ ops base N x d v ob d1) (hh: ∀q∈d.pF,q.1.next<=N/\q.1.res=none): ∀q∈d1.pF,q.1.next<=N/\q.1.res=none:=by
 obtain⟨h0,mm,rest,hs,h1⟩:=h
 grind
structure aBi [Glob] (P:Program) (ρ:Nat->Int) (ops:Array Oper) (base N:Nat) (xs:List Item) (d d':Y3):Prop where
 vs: ∃pre,d'.vs=pre++d.vs/\pre.length=xs.length
 obs: ∃pre,d'.obs=pre++d.obs/\pre.length=xs.length
 pF: ∃pre,d'.pF=pre++d.pF/\pre.length=lS xs
 blk: ∀a b,(a,b)∈d'.blks->(a,b)∈d.blks\/∃p x,xs[p]?=some x/\x.i=a/\d'.obs.reverse[d.obs.length+p]?=some (some b)
 aCe: ∀p x b,xs[p]?=some x->d'.obs.reverse[d.obs.length+p]?=some (some b)->(x.i,b)∈d'.blks
 aCG: ∀q,q∈d.blks->q∈d'.blks
 slot: ∀t x,d'.slots.get t=some x->(∃p y,xs[p]?=some y/\y.o.dst=some t/\d'.vs.reverse[d.vs.length+p]?=some x)\/(d.slots.get t=some x/\∀y∈xs,y.o.dst≠some t)
 same: ∀t,(∀y∈xs,y.o.dst≠some t)->d'.slots.get t=d.slots.get t
 nxt:(∀q∈d.pF,q.1.next<=N/\q.1.res=none)->∀q∈d'.pF,q.1.next<=N/\q.1.res=none
 at_: ∀p x,xs[p]?=some x->∃dp dp1 v ob pre,Oi P ρ ops base N x dp v ob dp1/\d'.vs.reverse[d.vs.length+p]?=some v/\d'.obs.reverse[d.obs.length+p]?=some ob/\d'.pF=pre++dp1.pF/\dp.pF.length=d.pF.length+lS (xs.take p)/\
  (∀q,q∈dp.blks->q∈d'.blks)/\(∀t,(∀y∈xs.drop p,y.o.dst≠some t)->d'.slots.get t=dp.slots.get t)/\
  (∀t z,dp.slots.get t=some z->(∃p' y,p'<p/\xs[p']?=some y/\y.o.dst=some t/\d'.vs.reverse[d.vs.length+p']?=some z)\/(d.slots.get t=some z/\∀y∈xs.take p,y.o.dst≠some t))
theorem rev_at {α:Type} {l pre l0:List α} {v:α} (h:l=pre++v::l0):l.reverse[l0.length]?=some v:=by
 grind
theorem Jy (x:Item) (xs:List Item):lS (x::xs)=lS [x]+lS xs:=by
 grind [lS]
theorem T.oQ {α β:Type} {ρ:Nat->Int} {f:List (SB×Bool)->α->T β} {r:β}: ∀{x:T α} {pc:List (SB×Bool)},aW ρ pc->(x.Hf pc f).leaf ρ=some r->∃a pc',x.leaf ρ=some a/\aW ρ pc'/\(f pc' a).leaf ρ=some r
 | .fail,pc,_,h=>by simp [T.Hf,T.leaf] at h
 | .ret a,pc,hp,h=> ⟨a,pc,rfl,hp,h⟩
 | .split c x y,pc,hp,h=>by
   simp only [T.Hf] at h
   cases hd:lV pc c with
   |some b=>
    rw [hd] at h;have hb:=iQ hp hd;simp only [T.leaf,hb]
    cases b with
    |true=>exact T.oQ hp h
    |false=>exact T.oQ hp h
   |none=>
    rw [hd] at h;simp only [T.leaf] at h ⊢
    cases hb:c.den ρ with
    |true=>
     rw [hb] at h
     exact T.oQ (x:=x) (pc:=(c,true)::pc) (fun c' b' hm=>by
      rcases aCP.1 hm with he|hm
      ·simp only [aCK] at he; rw [he.1,he.2]; exact hb
      ·exact hp c' b' hm) h
    |false=>
     rw [hb] at h
     exact T.oQ (x:=y) (pc:=(c,false)::pc) (fun c' b' hm=>by
      rcases aCP.1 hm with he|hm
      ·simp only [aCK] at he; rw [he.1,he.2]; exact hb
      ·exact hp c' b' hm) h
theorem aaC {tt:TT} {call:dQ} {all:List Oper} {base N:Nat} {ρ:Nat->Int}: ∀(xs:List Item) {pc pc':List (SB×Bool)} {d d':Y3},aW ρ pc->(adD tt call all base N xs pc d).leaf ρ=some (pc',d')->aW ρ pc'
 |[],pc,pc',d,d',hp,h=>by
  have:=aC h
  grind
 |x::xs,pc,pc',d,d',hp,h=>by simp only [adD] at h;obtain⟨d1,pc1,_,hp1,h2⟩:=T.oQ hp h;exact aaC xs hp1 h2
theorem aaD [Glob] {tt:TT} (htt:dU P tt) {call:dQ} (hc:jO P call) {ops:Array Oper} {base N:Nat} {ρ:Nat->Int}: ∀(xs:List Item) {pc pc':List (SB×Bool)} {d d':Y3},aW ρ pc->(adD tt call ops.toList base N xs pc d).leaf ρ=some (pc',d')->aBi P ρ ops base N xs d d'
 |[],pc,pc',d,d',hp,h=>by have:=aC h;simp only [aCK] at this;obtain⟨_,rfl⟩:=this;exact⟨⟨[],rfl,rfl⟩,⟨[],rfl,rfl⟩,⟨[],rfl,rfl⟩,fun a b h=> .inl h,fun p x b hh=>by simp at hh,fun q h=>h,fun t x h=> .inr ⟨h,by simp⟩,fun t _=>rfl,fun h=>h,fun p x hh=>by simp at hh⟩
 |x::xs,pc,pc',d,d',hp,h=>by
  simp only [adD] at h;obtain⟨d1,pc1,h1,hp1,h2⟩:=T.oQ hp h;obtain⟨v,ob,e1,e2,e3,e4,hF⟩:=akF htt hc hp h1;obtain⟨⟨pv,v1,v2⟩,⟨po,o1,o2⟩,⟨ps,s1,s2⟩,b1,b2,b3,sl,sm,nx,hat⟩:=aaD htt hc xs hp1 h2;obtain⟨qs,t1,t2⟩:=hF.pF;have hv0:d'.vs.reverse[d.vs.length]?=some v:=rev_at (by rw [v1,e2]);have ho0:d'.obs.reverse[d.obs.length]?=some ob:=rev_at (by rw [o1,e3]);have hvl:d1.vs.length=d.vs.length+1:=by rw [e2]; rfl
  have hol:d1.obs.length=d.obs.length+1:=by rw [e3]; rfl
  have hb0: ∀q,q∈d.blks->q∈d1.blks:=by
   intro q hq
   grind
  have hsh: ∀(p n:Nat),n+1+p=n+(p+1):=by intro p n; omega
  refine⟨⟨pv++ [v],by rw [v1,e2]; simp,by simp [v2]⟩,⟨po++ [ob],by rw [o1,e3]; simp,by simp [o2]⟩,⟨ps++qs,by rw [s1,t1]; simp,by rw [aC5,Jy,s2,t2]; omega⟩,?_,?_,fun q hq=>b3 q (hb0 q hq),?_,?_,fun hh=>nx (hF.nxt hh),?_⟩
  ·intro a b hab;rcases b1 a b hab with hh|⟨p,y,g1,g2,g3⟩
   ·rw [e4] at hh
    cases ob with
    |none=>exact .inl hh
    |some c=>
     simp only [aCP,aCK] at hh;rcases hh with ⟨rfl,rfl⟩|hh
     ·exact .inr ⟨0,x,rfl,rfl,ho0⟩
     ·exact .inl hh
   ·exact .inr ⟨p+1,y,by simpa using g1,g2,by rw [<- hsh,<- hol]; exact g3⟩
  ·intro p y b hy hb
   cases p with
   |zero=> simp at hy;subst hy;rw [aDf,ho0] at hb;simp at hb;subst hb;exact b3 _ (by rw [e4]; simp)
   |succ p=> refine b2 p y b (by simpa using hy) ?_;rw [hol,hsh];exact hb
  ·intro t y hy;rcases sl t y hy with ⟨p,z,g1,g2,g3⟩|⟨g1,g2⟩
   ·exact .inl ⟨p+1,z,by simpa using g1,g2,by rw [<- hsh,<- hvl]; exact g3⟩
   ·rw [e1,CX] at g1;split at g1
    ·rename_i hd;simp at g1;subst g1;exact .inl ⟨0,x,rfl,hd,hv0⟩
    ·rename_i hd;refine .inr ⟨g1,fun z hz=>?_⟩;rcases aCP.1 hz with rfl|hz
     ·exact hd
     ·exact g2 z hz
  ·intro t ht;rw [sm t fun y hy=>ht y (by simp [hy]),e1,CX,aCI (ht x (by simp))]
  ·intro p y hy
   cases p with
   |zero=> simp at hy;subst hy;refine⟨d,d1,v,ob,ps,hF,hv0,ho0,s1,by simp [lS],fun q hq=>b3 q (hb0 q hq),fun t ht=>?_,fun t z hz=> .inr ⟨hz,by simp⟩⟩;rw [sm t fun y hy=>ht y (by simp [hy]),e1,CX,aCI (ht x (by simp))]
   |succ p=>
    obtain⟨dp,dp1,v',ob',pre,g1,g2,g3,g4,g5,g6,g7,g8⟩:=hat p y (by simpa using hy);refine⟨dp,dp1,v',ob',pre,g1,by rw [<- hsh,<- hvl]; exact g2,by rw [<- hsh,<- hol]; exact g3,g4,?_,g6,fun t ht=>g7 t (by simpa using ht),fun t z hz=>?_⟩
    ·rw [g5,aDW,Jy,t1,aC5,t2];omega
    ·rcases g8 t z hz with ⟨p',y',q1,q2,q3,q4⟩|⟨q1,q2⟩
     ·exact .inl ⟨p'+1,y',by omega,by simpa using q2,q3,by rw [<- hsh,<- hvl]; exact q4⟩
     ·rw [e1,CX] at q1;split at q1
      ·rename_i hd;simp at q1;subst q1;exact .inl ⟨0,x,by omega,rfl,hd,hv0⟩
      ·rename_i hd;refine .inr ⟨q1,fun u hu=>?_⟩;rw [aDW] at hu;rcases aCP.1 hu with rfl|hu
       ·exact hd
       ·exact q2 u hu
end
section
variable {P:Program}
theorem DI {tt:TT}: ∀{l:List Oper} {i:Nat} {o:Oper},l[i]?=some o->lH tt (l.take (i+1))=lH tt (l.take i)+(match kindOf tt o.op with | .e=>1|_=>0)
 |[],i,o,h=>by simp at h
 |x::xs,0,o,h=>by
  simp at h;subst h;simp only [aCR,aDW,List.take_zero,lH]
  grind
 |x::xs,i+1,o,h=>by simp only [aDW,lH];rw [DI (l:=xs) (by simpa using h)];omega
theorem WB {tt:TT} {l:List Oper} {i:Nat} (h:l[i]?=none):lH tt (l.take (i+1))=lH tt (l.take i):=by have:=aD8.1 h;rw [aD0 (by omega),aD0 (by omega)]
theorem Rk {tt:TT} {l:List Oper} {i:Nat}: ∀{j:Nat},i<=j->lH tt (l.take i)<=lH tt (l.take j)
 |0,h=>by
  grind
 |j+1,h=>by
  by_cases e:i=j+1
  ·grind
  ·have:=Rk (tt:=tt) (l:=l) (i:=i) (j:=j) (by omega)
   cases ho:l[j]? with
   |none=>rw [WB ho]; exact this
   |some o=>rw [DI ho]; omega
theorem UA {tt:TT} {l:List Oper} {i j:Nat} {o:Oper} (ho:l[i]?=some o) (hk:kindOf tt o.op= .e) (h:i<j):lH tt (l.take i)<lH tt (l.take j):=by
 have h1:=DI (tt:=tt) ho;rw [hk] at h1;have h2:=Rk (tt:=tt) (l:=l) (i:=i+1) (j:=j) h
 grind
theorem DF {tt:TT} {l:List Oper} {m:Nat}: ∀{j:Nat},m<lH tt (l.take j)->∃i o,i<j/\l[i]?=some o/\kindOf tt o.op= .e/\lH tt (l.take i)=m
 |0,h=>by simp [lH] at h
 |j+1,h=>by
  cases ho:l[j]? with
  |none=>
   rw [WB ho] at h;obtain⟨i,o,h1,h2⟩:=DF h
   grind
  |some o=>
   rw [DI ho] at h;rcases aCZ m (lH tt (l.take j)) with h'|h'
   ·obtain⟨i,o,h1,h2⟩:=DF h'
    grind
   grind
def Hr (tt:TT) (all:List Oper) (ms:List Nat) (j:Nat) (o:Oper):Item:=⟨j,o,ms.getD j 0,kindOf tt o.op,lH tt (all.take j),reads all o⟩
theorem jW {tt:TT} {all:List Oper} {ms:List Nat} {j:Nat} {o:Oper} (h:all[j]?=some o):(items tt all ms all 0 0)[j]?=some (Hr tt all ms j o):=by rw [lN,h];simp [Hr]
theorem PV {tt:TT} {all:List Oper} {ms:List Nat} {x:Item} (h:x∈items tt all ms all 0 0): ∃j o,all[j]?=some o/\x=Hr tt all ms j o:=by
 obtain⟨j,hj⟩:=aEt h
 cases ho:all[j]? with
 |none=>rw [lN,ho] at hj; simp at hj
 |some o=>
  rw [jW ho] at hj
  grind
structure asQ (tt:TT) (all:List Oper) (ms:List Nat):Prop where
 back: ∀(j:Nat) (o:Oper),all[j]?=some o->∀e∈o.after,Region.binds .any e=true->e.on<j
 mask: ∀(j:Nat) (o:Oper),all[j]?=some o->ms.getD j 0=sK ms o.after.toList
 rd: ∀(j:Nat) (o:Oper),all[j]?=some o->∀t∈reads all o,∀(i:Nat) (oi:Oper),all[i]?=some oi->oi.dst=some t->(ms.getD j 0).testBit i=true\/(kindOf tt o.op≠.r/\(ms.getD i 0).testBit j=true)
 dst: ∀(i j:Nat) (oi oj:Oper) (d:Nat),all[i]?=some oi->all[j]?=some oj->oi.dst=some d->oj.dst=some d->i=j
 tot: ∀(i j:Nat) (oi oj:Oper),all[i]?=some oi->all[j]?=some oj->kindOf tt oi.op= .e->kindOf tt oj.op= .e->i<j->(ms.getD j 0).testBit i=true
theorem amE {tt:TT} {all:List Oper} {q:Stat} (h:stat tt all=some q): ∃ms,q.is=items tt all ms all 0 0/\q.nE=lH tt all/\q.rs=((q.is.filter (·.k.X0)).map fun x=>(x,stages q.is q.nE x))/\asQ tt all ms:=by
 unfold stat at h;simp only at h;split at h
 ·rename_i hok;simp at h;subst h;refine⟨wH all [],rfl,qL _ _ _,rfl,?_⟩;have key: ∀(j:Nat) (o:Oper),all[j]?=some o->ED (wH all []) (items tt all (wH all []) all 0 0) (Hr tt all (wH all []) j o)=true:=fun j o ho=>aC0.1 hok _ (aDi (jW ho));have mem: ∀(j:Nat) (o:Oper),all[j]?=some o->Hr tt all (wH all []) j o∈items tt all (wH all []) all 0 0:=fun j o ho=>aDi (jW ho);refine⟨?_,?_,?_,?_,?_⟩
  ·intro j o ho e he hb;have:=key j o ho;simp only [ED,aCM,aC0] at this;have:=this.1.1.1.1 e (by simpa [Hr] using he);simpa [hb,Hr] using this
  ·intro j o ho;have:=key j o ho;simp only [ED,aCM] at this;have:=this.1.1.1.2;simpa [Hr] using this
  ·intro j o ho t ht i oi hoi hd;have:=key j o ho;simp only [ED,aCM,aC0] at this;have:=this.1.1.2 t ht _ (mem i oi hoi);simp only [Hr,hd,ne_eq,not_true_eq_false,decide_false,aEc,aDM,aCM,aDC] at this;rcases this with h|⟨h1,h2⟩
   ·grind
   ·refine .inr ⟨fun hk=>?_,h2⟩;rw [hk] at h1;simp [Kind.X0] at h1
  ·intro i j oi oj d hi hj hdi hdj;have:=key i oi hi;simp only [ED,aCM,aC0] at this;have:=this.1.2 _ (mem j oj hj);simp [Hr,hdi,hdj] at this
   grind
  ·intro i j oi oj hi hj hki hkj hlt;have:=key j oj hj;simp only [ED,aCM,aC0] at this;have:=this.2;simp only [Hr,hkj,Kind.isE,aEu,aEc,aC0] at this;have:=this _ (mem i oi hi);simpa [Hr,hki,Kind.isE,hlt] using this
 grind
theorem Lp [Glob] {tt:TT} (htt:dU P tt) {call:dQ} (hc:jO P call) {ops:Array Oper} {base:Nat} {pc:List (SB×Bool)} {ρ:Nat->Int} (hp:aW ρ pc) {x:Item} (hk:kindOf tt x.o.op= .r) {v:AV} {S:Tr AV} {blks:List (Nat×dG)} {pF:List (Hp×Nat)}: ∀(ks:List Nat),(JY tt call ops.toList base pc x v S blks pF ks).leaf ρ=some ()->
 ∀k∈ks,∃h mm,pF[k]?=some (h,mm)/\Ou P ρ ops x.o S (fV base x.m mm blks h) v (fV base x.m mm blks h)
 |[],_=>by simp
 |k::ks,h=>by
  simp only [JY] at h;split at h
  ·rename_i h0 mm hn;obtain⟨⟨u,s'⟩,h1,h2⟩:=T.fK h;simp only at h2;split at h2
   ·rename_i hs;have ha:=Un htt hc (s:=⟨S,fV base x.m mm blks h0,pc⟩) hp h1;have hr:=aAV hk h1;rw [hr,lK _ _ hs] at ha;intro k' hk';rcases aCP.1 hk' with rfl|hk'
    ·exact⟨h0,mm,by rw [<- bW]; exact hn,ha⟩
    ·exact Lp htt hc hp hk ks h2 k' hk'
   ·simp [T.leaf] at h2
  ·simp [T.leaf] at h
theorem O5 [Glob] {tt:TT} (htt:dU P tt) {call:dQ} (hc:jO P call) {ops:Array Oper} {base:Nat} {ρ:Nat->Int} {d:Y3} {pF:List (Hp×Nat)} {vs:List AV}: ∀(rs:List (Item×List Nat)) {pc pc':List (SB×Bool)},aW ρ pc->(∀r∈rs,kindOf tt r.1.o.op= .r)->(Sl tt call ops.toList base d pF vs rs pc).leaf ρ=some pc'->
 aW ρ pc'/\∀r∈rs,∃v,vs[r.1.i]?=some v/\∀k∈r.2,∃h mm,pF[k]?=some (h,mm)/\Ou P ρ ops r.1.o (only d.slots r.1.rd) (fV base r.1.m mm d.blks h) v (fV base r.1.m mm d.blks h)
 |[],pc,pc',hp,_,h=>by
  have:=aC h
  grind
 |(x,ks)::rs,pc,pc',hp,hk,h=>by
  simp only [Sl] at h;split at h
  ·rename_i v hv;obtain⟨⟨⟩,pc1,h1,hp1,h2⟩:=T.oQ hp h;obtain⟨hp2,ih⟩:=O5 htt hc rs hp1 (fun r hr=>hk r (by simp [hr])) h2;refine⟨hp2,fun r hr=>?_⟩;rcases aCP.1 hr with rfl|hr
   ·exact⟨v,by rw [<- bW]; exact hv,Lp htt hc hp (hk _ (by simp)) ks h1⟩
   grind
  ·simp [T.leaf] at h
end
section
variable {P:Program}
theorem amQ {α:Type} {l pre:List α} {a b:α} {l0:List α} (h:l=pre++a::b::l0):l.reverse[l0.length]?=some b/\l.reverse[l0.length+1]?=some a:=by
 grind
theorem abD {n b:Nat} (h:((1 <<<n)-1).testBit b=true):b<n:=by
 rw [Nat.shiftLeft_eq,aDS,Nat.testBit_two_pow_sub_one] at h
 grind
theorem amV [Glob] {tt:TT} {ops:Array Oper} {ms:List Nat} {ρ:Nat->Int} {uU:Tr AV} {H0:Hp} {base N:Nat} {d:Y3} (sf:asQ tt ops.toList ms) (hb:base=H0.next) (hN:base+ops.size<=N)
 (rf:aBi P ρ ops base N (items tt ops.toList ms ops.toList 0 0) ⟨uU,[(⟨H0.m,base+ops.size,none⟩,0)],[],[],[]⟩ d)
 (hrs: ∀r∈((items tt ops.toList ms ops.toList 0 0).filter (·.k.X0)).map fun x=>(x,stages (items tt ops.toList ms ops.toList 0 0) (lH tt ops.toList) x),∃v,d.vs.reverse[r.1.i]?=some v/\∀k∈r.2,∃h mm,d.pF.reverse[k]?=some (h,mm)/\Ou P ρ ops r.1.o (only d.slots r.1.rd) (fV base r.1.m mm d.blks h) v (fV base r.1.m mm d.blks h))
 (hun:Rz base d.blks d.pF=true) :
 ∃p:Plan P ρ ops uU H0,p.base=base/\p.nE=lH tt ops.toList/\(∀i,p.val i=(d.vs.reverse[i]?).getD .kM)/\(∀k h mm,d.pF.reverse[k]?=some (h,mm)->p.hp k=h/\∀a,p.un k a=!mm.testBit a)/\(∀i,p.blk i=(d.obs.reverse[i]?).getD none)/\
  (∀(m:Nat),m<p.nE->∃(j:Nat) (o:Oper),ops[j]?=some o/\p.kd j= .e/\p.st j=m):=by
 have hsz: ∀(j:Nat),ops.toList[j]?=ops[j]?:=fun j=>aDk;have hlt: ∀{j:Nat} {o:Oper},ops[j]?=some o->j<ops.size:=fun h=>(aDx.1 h).1;have hci:lS (items tt ops.toList ms ops.toList 0 0)=lH tt ops.toList:=qL _ _ _;have hfull:lH tt ops.toList=lH tt (ops.toList.take ops.size):=by rw [aD0 (by simp)]
 obtain⟨ps,s1,s2⟩:=rf.pF;rw [hci] at s2;have aCz:d.pF.length=lH tt ops.toList+1:=by rw [s1,aC5,s2]; rfl
 have aBP:d.pF.reverse[0]?=some (⟨H0.m,base+ops.size,none⟩,0):=by rw [s1]; simp
 have aAe: ∀k,k<=lH tt ops.toList->∃h mm,d.pF.reverse[k]?=some (h,mm):=by
  intro k hk;have:k<d.pF.reverse.length:=by rw [aEQ]; omega
  exact⟨d.pF.reverse[k].1,d.pF.reverse[k].2,aCV this⟩
 have hnx:=rf.nxt (by
  intro q hq;simp only [aCP,aDt,or_false] at hq;subst hq
  exact⟨hN,rfl⟩)
 have hnx2: ∀(k:Nat) (h:Hp) (mm:Nat),d.pF.reverse[k]?=some (h,mm)->h.next<=N/\h.res=none:=by intro k h mm hh;exact hnx (h,mm) (by have:=aDi hh; simpa using this)
 let hpf:Nat->Hp:=fun k=>((d.pF.reverse[k]?).map (·.1)).getD ⟨.nil,0,none⟩
 let unf:Nat->Nat->Bool:=fun k a=>match d.pF.reverse[k]? with |some q=>!q.2.testBit a|none=>false
 let bff:Nat->Nat->Bool:=fun i j=>match ops[j]? with |some _=>(ms.getD j 0).testBit i|none=>false
 let kdf:Nat->Kind:=fun i=>match ops[i]? with |some o=>kindOf tt o.op|none=> .pa
 let UD:Nat->Option dG:=fun i=>(d.obs.reverse[i]?).getD none
 have hpe: ∀k h mm,d.pF.reverse[k]?=some (h,mm)->hpf k=h/\∀a,unf k a=!mm.testBit a:=by intro k h mm hh;refine⟨by simp only [hpf,hh]; rfl,fun a=>by simp only [unf,hh]⟩
 have bfe: ∀{i j:Nat} {o:Oper},ops[j]?=some o->bff i j=(ms.getD j 0).testBit i:=by intro i j o ho;simp only [bff,ho]
 have kde: ∀{j:Nat} {o:Oper},ops[j]?=some o->kdf j=kindOf tt o.op:=by intro j o ho;simp only [kdf,ho]
 have kdE: ∀{j:Nat},kdf j= .e->∃o,ops[j]?=some o/\kindOf tt o.op= .e:=by
  intro j hj
  cases ho:ops[j]? with
  |none=>simp only [kdf,ho] at hj; simp at hj
  |some o=>exact⟨o,rfl,by rw [<- kde ho]; exact hj⟩
 have hbelow: ∀(k:Nat),∀(o':Oper),ops[k]?=some o'->∀b,(ms.getD k 0).testBit b=true->b<k:=by
  intro k
  induction k using Nat.strongRecOn with
  |_ k ih=>
   intro o' ho' b hb';rw [sf.mask k o' (by rw [hsz]; exact ho')] at hb';obtain⟨e,e1,e2,e3⟩:=uH hb';have e1':e∈o'.after:=by simpa using e1
   have hlt':=sf.back k o' (by rw [hsz]; exact ho') e e1' e2;rcases e3 with rfl|e3
   ·exact hlt'
   ·have:=hlt ho';have:=ih e.on hlt' (ops[e.on]'(by omega)) (by simp) b e3;omega
 have aB4: ∀(i:Nat),∃S:Tr AV,∀(o:Oper),ops[i]?=some o->∃dp dp1 v ob pre,dp.slots=S/\Oi P ρ ops base N (Hr tt ops.toList ms i o) dp v ob dp1/\d.vs.reverse[i]?=some v/\d.obs.reverse[i]?=some ob/\d.pF=pre++dp1.pF/\dp.pF.length=1+lH tt (ops.toList.take i)/\
  (∀q,q∈dp.blks->q∈d.blks)/\(∀t x,S.get t=some x->(∃p oj,p<i/\ops[p]?=some oj/\oj.dst=some t/\d.vs.reverse[p]?=some x)\/(uU.get t=some x/\∀(p:Nat) (oj:Oper),p<i->ops[p]?=some oj->oj.dst≠some t)):=by
  intro i
  cases hoi:ops[i]? with
  |none=>exact⟨.nil,fun o h=>by simp at h⟩
  |some o0=>
   have hx:(items tt ops.toList ms ops.toList 0 0)[i]?=some (Hr tt ops.toList ms i o0):=jW (by rw [hsz]; exact hoi);obtain⟨dp,dp1,v,ob,pre,g1,g2,g3,g4,g5,g6,g7,g8⟩:=rf.at_ i _ hx;refine⟨dp.slots,fun o ho=>?_⟩;simp only [aCJ] at ho;subst ho;refine⟨dp,dp1,v,ob,pre,rfl,g1,by simpa using g2,by simpa using g3,g4,?_,g6,?_⟩
   ·rw [g5];congr 1
    have:(items tt ops.toList ms ops.toList 0 0).take i=items tt ops.toList ms (ops.toList.take i) 0 0:=by
     apply aEk;intro j;rw [aDK,lN,lN,aDK];split
     ·rename_i hj;rw [List.take_take,aER (by omega)]
     ·rfl
    rw [this,qL]
   ·intro t x ht;rcases g8 t x ht with ⟨p,y,q1,q2,q3,q4⟩|⟨q1,q2⟩
    ·cases hoj:ops.toList[p]? with
     |none=>rw [lN,hoj] at q2; simp at q2
     |some oj=> rw [jW hoj] at q2;simp at q2;subst q2;exact .inl ⟨p,oj,q1,by rw [<- hsz]; exact hoj,q3,by simpa using q4⟩
    ·refine .inr ⟨q1,fun p oj hp hoj=>?_⟩
     have hm:Hr tt ops.toList ms p oj∈(items tt ops.toList ms ops.toList 0 0).take i:=by refine aDi (i:=p) ?_;rw [aDK,aCL hp];exact jW (by rw [hsz]; exact hoj)
     exact q2 _ hm
 obtain⟨Sd,hat⟩:=Classical.skolem.1 aB4
 let Sf:Nat->Tr AV:=fun i=>match ops[i]? with
  |some o=>(match kindOf tt o.op with
   | .r=>only d.slots (reads ops.toList o)
   |_=>only (Sd i) (reads ops.toList o))
  |none=> .nil
 have SfR: ∀{i:Nat} {o:Oper},ops[i]?=some o->kindOf tt o.op= .r->Sf i=only d.slots (reads ops.toList o):=by intro i o ho hk;simp only [Sf,ho,hk]
 have SfN: ∀{i:Nat} {o:Oper},ops[i]?=some o->kindOf tt o.op≠.r->Sf i=only (Sd i) (reads ops.toList o):=by
  intro i o ho hk;have:Sf i=(match kindOf tt o.op with | .r=>only d.slots (reads ops.toList o)|_=>only (Sd i) (reads ops.toList o)):=by simp only [Sf,ho]
  rw [this]
  cases hh:kindOf tt o.op with
  |r=>exact absurd hh hk
  |pa=>rfl
  |e=>rfl
 have hblk: ∀a b,(a,b)∈d.blks->UD a=some b:=by
  intro a b hab;rcases rf.blk a b hab with h|⟨p,x,g1,g2,g3⟩
  ·simp at h
  ·cases ho:ops.toList[p]? with
   |none=>rw [lN,ho] at g1; simp at g1
   |some o=> rw [jW ho] at g1;simp at g1;subst g1;have:p=a:=g2;subst this;simp only [aC3,aCR] at g3;simp only [UD,g3,aCT]
 have hblk2: ∀a b,UD a=some b->(a,b)∈d.blks:=by
  intro a b hab
  have hob:d.obs.reverse[a]?=some (some b):=by
   simp only [UD] at hab
   cases hh:d.obs.reverse[a]? with
   |none=>rw [hh] at hab; simp at hab
   |some x=>rw [hh] at hab; simp at hab; rw [hab]
  obtain⟨po,o1,o2⟩:=rf.obs
  have hal:a<ops.size:=by have h1:=(aC1.1 hob).1;rw [aEQ,o1,aDX,o2,zC] at h1;simpa using h1
  have hx:(items tt ops.toList ms ops.toList 0 0)[a]?=some (Hr tt ops.toList ms a ops[a]):=jW (by rw [hsz]; simp [hal]);exact rf.aCe a _ b hx (by simpa using hob)
 refine⟨{
  base:=base,bf:=bff,kd:=kdf,S:=Sf,val:=fun i=>(d.vs.reverse[i]?).getD .kM,st:=fun i=>lH tt (ops.toList.take i),nE:=lH tt ops.toList,hp:=hpf,un:=unf,blk:=UD,
  gen:=?_,back:=?_,dst:=?_,slots:=?_,stl:=?_,inj:=?_,ayO:=?_,pa:=?_,ev:=?_,rd:=?_,unm:=?_,nob:=?_,first:=?_ },rfl,rfl,fun i=>rfl,hpe,fun i=>rfl,?_⟩
 ·intro i j h
  cases ho:ops[j]? with
  |none=>simp only [bff,ho] at h; simp at h
  |some o=>
   rw [bfe ho,sf.mask j o (by rw [hsz]; exact ho)] at h;obtain⟨e,e1,e2,e3⟩:=uH h;have e1':e∈o.after:=by simpa using e1
   refine⟨o,e,rfl,e1',e2,e3.imp id fun h3=>?_⟩;have hl:=sf.back j o (by rw [hsz]; exact ho) e e1' e2;have hj:=hlt ho;rw [bfe (o:=ops[e.on]'(by omega)) (by simp)];exact h3
 ·intro j o ho e he hb';exact sf.back j o (by rw [hsz]; exact ho) e he hb'
 ·intro i j oi oj dd hi hj h1 h2;exact sf.dst i j oi oj dd (by rw [hsz]; exact hi) (by rw [hsz]; exact hj) h1 h2
 ·intro i o ho t x ht
  cases hk:kindOf tt o.op with
  |r=>
   rw [SfR ho hk] at ht;obtain⟨h1,h2⟩:=FQ ht;rcases rf.slot t x h2 with ⟨p,y,g1,g2,g3⟩|⟨g1,g2⟩
   ·cases hoj:ops.toList[p]? with
    |none=>rw [lN,hoj] at g1; simp at g1
    |some oj=>
     rw [jW hoj] at g1;simp at g1;subst g1;have hp:ops[p]?=some oj:=by rw [<- hsz]; exact hoj
     refine .inl ⟨p,oj,?_,hp,g2,?_⟩
     ·rw [bfe ho];rcases sf.rd i o (by rw [hsz]; exact ho) t h1 p oj hoj g2 with h|⟨h,_⟩
      ·exact h
      ·exact absurd hk h
     ·simp only [aC3,aCR] at g3;simp only [g3,aCT]
   ·refine .inr ⟨g1,fun j oj hoj hd=>?_⟩;exact absurd hd (g2 _ (aDi (jW (by rw [hsz]; exact hoj))))
  |_=>
   rw [SfN ho (by rw [hk]; simp)] at ht;obtain⟨h1,h2⟩:=FQ ht;obtain⟨dp,dp1,v,ob,pre,_,_,_,_,_,_,_,g8⟩:=hat i o ho;rcases g8 t x h2 with ⟨p,oj,q1,q2,q3,q4⟩|⟨q1,q2⟩
   ·refine .inl ⟨p,oj,?_,q2,q3,by rw [q4]; rfl⟩;rw [bfe ho];rcases sf.rd i o (by rw [hsz]; exact ho) t h1 p oj (by rw [hsz]; exact q2) q3 with h|⟨_,h⟩
    ·exact h
    ·have:=hbelow p oj q2 i h;omega
   ·refine .inr ⟨q1,fun j oj hoj hd=>?_⟩;rw [bfe hoj];rcases sf.rd i o (by rw [hsz]; exact ho) t h1 j oj (by rw [hsz]; exact hoj) hd with h|⟨_,h⟩
    ·exact absurd hd (q2 j oj (hbelow i o ho j h) hoj)
    ·exact h
 ·intro j o ho hk;rw [kde ho] at hk;rw [hfull];exact UA (by rw [hsz]; exact ho) hk (hlt ho)
 ·intro i j hi hj he;obtain⟨oi,hoi,hki⟩:=kdE hi;obtain⟨oj,hoj,hkj⟩:=kdE hj;rcases aEO i j with h|h|h
  ·have:=UA (tt:=tt) (l:=ops.toList) (by rw [hsz]; exact hoi) hki h;omega
  ·exact h
  ·have:=UA (tt:=tt) (l:=ops.toList) (by rw [hsz]; exact hoj) hkj h;omega
 ·intro j o ho hk m hm;obtain⟨i,oi,h1,h2,h3,h4⟩:=DF hm;rw [kde ho] at hk;have h2':ops[i]?=some oi:=by rw [<- hsz]; exact h2
  refine⟨i,by rw [kde h2']; exact h3,h4,?_⟩;rw [bfe ho];exact sf.tot i j oi o h2 (by rw [hsz]; exact ho) h3 hk h1
 ·intro i o ho hk;rw [kde ho] at hk;obtain⟨dp,dp1,v,ob,pre,hdp,hF,g2,g3,g4,g5,g6,g7⟩:=hat i o ho;obtain⟨h0,mm,rest,hs,hF⟩:=hF;simp only [Hr,hk] at hF;obtain⟨_,HA,f1,f2,f3⟩:=hF;rw [hdp] at f1;refine⟨HA,N,?_,f2,?_,?_⟩
  ·rw [SfN ho (by rw [hk]; simp)];simp only [g2,aCT];exact f1
  ·simp only [UD,g3,aCT];exact f3
  ·intro k hk2;obtain⟨h2,mm2,hh⟩:=aAe k hk2;rw [(hpe _ _ _ hh).1];exact (hnx2 _ _ _ hh).1
 ·intro j o ho hk;rw [kde ho] at hk;obtain⟨dp,dp1,v,ob,pre,hdp,hF,g2,g3,g4,g5,g6,g7⟩:=hat j o ho;obtain⟨h0,mm,rest,hs,hF⟩:=hF;simp only [Hr,hk] at hF;obtain⟨_,hn,f1,f2,f3,f4⟩:=hF;rw [hdp] at f4;rw [f1,hs] at g4;have hrl:rest.length=lH tt (ops.toList.take j):=by rw [hs] at g5; simp at g5; omega
  obtain⟨r1,r2⟩:=amQ g4;rw [hrl] at r1 r2;obtain⟨p1,p2⟩:=hpe _ _ _ r1;obtain⟨p3,p4⟩:=hpe _ _ _ r2;refine⟨fV base (ms.getD j 0) mm dp.blks h0,?_,?_,?_,?_,?_⟩
  ·rw [SfN ho (by rw [hk]; simp)];simp only [g2,aCT,p3];exact f4
  ·rw [(lI _ _).1,p1]
  ·rw [(lI _ _).2];exact (hnx2 _ _ _ r1).2
  ·intro id x hx;rcases sS hx with h|⟨a,a1,a2,a3,a4⟩
   ·left; rw [p1]; exact h
   ·right;exact⟨a,by rw [bfe ho]; exact a2,by rw [p2,a3]; rfl,a4,hblk a x (g6 _ a1)⟩
  ·intro a ha;rw [p4] at ha;simp only [Nat.testBit_or,Bool.not_or,aCM,aDC] at ha;refine⟨by rw [p2,ha.1]; rfl,?_⟩;rw [bfe ho];exact ha.2
 ·intro i o ho hk k hkn h1 h2;rw [kde ho] at hk;have hmem:Hr tt ops.toList ms i o∈items tt ops.toList ms ops.toList 0 0:=aDi (jW (by rw [hsz]; exact ho))
  obtain⟨v,g1,g2⟩:=hrs (Hr tt ops.toList ms i o,stages (items tt ops.toList ms ops.toList 0 0) (lH tt ops.toList) (Hr tt ops.toList ms i o)) (by
   rw [aC4]
   exact⟨_,aDF.2 ⟨hmem,by simp [Hr,hk,Kind.X0]⟩,rfl⟩)
  have hks:k∈stages (items tt ops.toList ms ops.toList 0 0) (lH tt ops.toList) (Hr tt ops.toList ms i o):=by
   unfold stages;rw [aDF,aDv];refine⟨by omega,aC0.2 fun y hy=>?_⟩;obtain⟨j,oj,hoj,rfl⟩:=PV hy;have anN:ops[j]?=some oj:=by rw [<- hsz]; exact hoj
   cases hkj:kindOf tt oj.op with
   |pa=>simp [Hr,hkj,Kind.isE]
   |r=>simp [Hr,hkj,Kind.isE]
   |e=>
    simp only [Hr,hkj,Kind.isE,aEu,aEc,aCM,aDM,aDC,decide_eq_true_eq];constructor
    ·cases hbit:(ms.getD i 0).testBit j with
     |false=>exact .inl rfl
     |true=>exact .inr (h1 j (by rw [kde anN]; exact hkj) (by rw [bfe ho]; exact hbit))
    ·cases hbit:(ms.getD j 0).testBit i with
     |false=>exact .inl rfl
     |true=>exact .inr (h2 j oj anN (by rw [kde anN]; exact hkj) (by rw [bfe anN]; exact hbit))
  obtain⟨h0,mm,g3,g4⟩:=g2 k hks;obtain⟨p1,p2⟩:=hpe _ _ _ g3;refine⟨fV base (ms.getD i 0) mm d.blks h0,?_,?_,?_,?_⟩
  ·have g1':d.vs.reverse[i]?=some v:=g1;rw [SfR ho hk];simp only [g1',aCT];exact g4
  ·rw [(lI _ _).1,p1]
  ·rw [(lI _ _).2];exact (hnx2 _ _ _ g3).2
  ·intro id x hx;rcases sS hx with h|⟨a,a1,a2,a3,a4⟩
   ·left; rw [p1]; exact h
   ·right;exact⟨a,by rw [bfe ho]; exact a2,by rw [p2,a3]; rfl,a4,hblk a x a1⟩
 ·intro k a x hk hx hu;obtain⟨h0,mm,hh⟩:=aAe k hk;obtain⟨p1,p2⟩:=hpe _ _ _ hh;rw [p1];rw [p2] at hu;unfold Rz at hun;have:=aC0.1 hun _ (hblk2 a x hx)
  have:=aC0.1 this (h0,mm) (by
   have:=aDi hh
   simpa using this)
  simp only [aDM,Option.isNone_iff_eq_none] at this;simp only [aDC] at hu;rcases this with h|h
  ·rw [hu] at h; simp at h
  ·exact h
 ·intro i hk
  cases ho:ops[i]? with
  |none=>
   obtain⟨po,o1,o2⟩:=rf.obs
   have hnone:d.obs.reverse[i]?=none:=by rw [aD8,aEQ,o1,aDX,o2,zC];have:=aE7.1 ho;simpa using this
   simp only [UD,hnone,aDR]
  |some o=>
   obtain⟨dp,dp1,v,ob,pre,hdp,hF,g2,g3,g4,g5,g6,g7⟩:=hat i o ho;obtain⟨h0,mm,rest,hs,hF⟩:=hF;rw [kde ho] at hk
   cases hkk:kindOf tt o.op with
   |pa=>exact absurd hkk hk
   |e=> simp only [Hr,hkk] at hF;simp only [UD,g3,aCT,hF.1]
   |r=> simp only [Hr,hkk] at hF;simp only [UD,g3,aCT,hF.1]
 ·have:=(hpe 0 _ _ aBP).1;refine⟨hb,by rw [this]; exact aCN _,fun id x h=>?_⟩;rw [this] at h;exact h
 ·intro m hm;have hm':m<lH tt (ops.toList.take ops.size):=by rw [<- hfull]; exact hm
  obtain⟨i,oi,h1,h2,h3,h4⟩:=DF hm';have h2':ops[i]?=some oi:=by rw [<- hsz]; exact h2
  exact⟨i,oi,h2',by show kdf i=_; rw [kde h2']; exact h3,h4⟩
end
section
variable {P:Program}
theorem ND [Glob] {tt:TT} (htt:dU P tt) {call:dQ} (hc:jO P call) {ops:Array Oper} {E:En} {s s':St} {a:Act} {w:World} {Q:Exit->Act->World->Prop}
 (hd: ∀o∈ops.toList,∀d,o.dst=some d->d<a.tmps.size) (fit:Fit E s a w) (h:(draw tt call ops.toList s).leaf E.ρ=some s') (hq: ∀a' w',Then E s a w s' a' w'->Q .normal a' w') :
 wpAny P .any ops Q ops.size (Array.replicate ops.size false) a { w with drawn:=w.drawn+1 }:=by
 unfold draw NH at h;split at h
 ·simp [T.leaf] at h
 ·rename_i q hq0;split at h
  ·simp [T.leaf] at h
  ·rename_i hres;simp only at h;obtain⟨⟨pc1,d⟩,h1,h2⟩:=T.fK h;simp only at h2;obtain⟨ms,e1,e2,e3,sf⟩:=amE hq0;rw [e1,] at h1;have rf:=aaD htt hc _ fit.pc h1;have hp1:=aaC _ fit.pc h1;split at h2
   ·simp [T.leaf] at h2
   ·rename_i h0 mm rest aBO;obtain⟨pc2,h3,h4⟩:=T.fK h2;split at h4
    ·rename_i hun;have:=aC h4;subst this
     have aAf:=O5 htt hc q.rs hp1 (by
      intro r hr;rw [e3,aC4] at hr;obtain⟨x,hx,rfl⟩:=hr;rw [aDF,e1] at hx;obtain⟨j,o,ho,rfl⟩:=PV hx.1;have h5:(kindOf tt o.op).X0=true:=hx.2;show kindOf tt o.op= .r;revert h5
      cases kindOf tt o.op<;>simp [Kind.X0]) h3
     have hp2:=aAf.1;have hrs:=aAf.2;rw [e3,e1,e2] at hrs;obtain⟨p,p1,p2,p3,p4,p5,p6⟩:=amV sf (base:=s.h.next) (H0:=s.h) rfl (Nat.le_add_right _ _) rf hrs hun;have hsz: ∀(j:Nat),ops.toList[j]?=ops[j]?:=fun j=>aDk;let w1:World:={ w with drawn:=w.drawn+1 };have aB6:Fit E s a w1:=⟨⟨fit.rel.fresh,fit.rel.res,fit.rel.live,fit.rel.inj,fit.rel.xC,fit.rel.glob,fit.rel.hid⟩,fit.sr,fit.pc⟩
     have hlist: ∀(i:Nat),(Array.replicate ops.size false)[i]?≠some true:=by
      intro i hh
      grind
     refine p.any (E0:=E) (a0:=a) (w0:=w1) hd ?_ ops.size _ a w1 (by simp) ?_ (p.start rfl rfl rfl aB6 _ hlist)
     ·intro a' w' inv;obtain⟨ps,s1,s2⟩:=rf.pF;rw [qL] at s2
      have hlen:rest.length=lH tt ops.toList:=by
       have:d.pF.length=lH tt ops.toList+1:=by rw [s1,aC5,s2]; rfl
       grind
      have hlast:d.pF.reverse[lH tt ops.toList]?=some (h0,mm):=by
       grind
      obtain⟨q1,q2⟩:=p4 _ _ _ hlast
      have hnx:=rf.nxt (by
       intro q hq;simp only [aCP,aDt,or_false] at hq;subst hq
       exact⟨Nat.le_add_right _ _,rfl⟩) (h0,mm) (by rw [aBO]; simp)
      have ht:=p.finish (s0:=s) (s':=⟨d.slots,fV s.h.next ((1 <<<ops.toList.length)-1) mm d.blks h0,pc2⟩) (w0:=w1) rfl inv hp2 ?_ ?_ ?_ ?_ p6
      ·refine hq a' w' ⟨ht.defers,ht.size,?_⟩;obtain⟨E',st,f'⟩:=ht.step;exact⟨E',⟨st.ρ,st.dm,st.θ,st.κ,st.ro,st.yA,st.Zt,st.rsm,st.dmn,st.os,st.tape,st.output,st.size,st.keep,st.own,st.hd⟩,f'⟩
      ·intro t x ht;rcases rf.slot t x ht with ⟨j,y,g1,g2,g3⟩|⟨g1,g2⟩
       ·cases hoj:ops.toList[j]? with
        |none=>rw [lN,hoj] at g1; simp at g1
        |some oj=>
         rw [jW hoj] at g1;simp at g1;subst g1;refine .inl ⟨j,oj,by rw [<- hsz]; exact hoj,g2,?_⟩
         grind
       ·refine .inr ⟨g1,fun j oj hoj=>?_⟩;exact g2 _ (aDi (jW (by rw [hsz]; exact hoj)))
      ·intro id x hx;rw [p2,q1,p1];rcases sS hx with h|⟨b,b1,b2,b3,b4⟩
       ·grind
       ·right
        have hlt:b<ops.size:=by
         have:=abD b2
         grind
        refine⟨b,hlt,by rw [q2,b3]; rfl,b4,?_⟩;rcases rf.blk b x b1 with h|⟨j,y,g1,g2,g3⟩
        ·grind
        ·cases hoj:ops.toList[j]? with
         |none=>rw [lN,hoj] at g1; simp at g1
         |some oj=>
          rw [jW hoj] at g1;simp at g1;subst g1;have:j=b:=g2
          grind
      ·rw [p2,q1];exact (lI _ _).1.symm
      ·show (fV s.h.next ((1 <<<ops.toList.length)-1) mm d.blks h0).res=none;rw [(lI _ _).2]
       grind
     ·have: ∀(l:Nat->Bool) (n:Nat),left l n<=n:=by
       intro l n
       induction n with
       |zero=>exact aCN _
       |succ n ih=>simp only [left]; split<;>omega
      grind
    ·simp [T.leaf] at h4
theorem apD [Glob] {tt:TT} (htt:dU P tt) (hm:P.follows .mixedOrders=true) {call:dQ} (hc:jO P call):apX P (draw tt call):=by intro id ops E s s' a w Q hd fit h hq;exact wp_region_any hm (ND htt hc hd fit h hq)
end
end Go.As
end
section
namespace Go.As
noncomputable section
open Go.RowKit
section
variable {P:Program}
def En.zero (ρ:Nat->Int) (ro:Nat->Prop):En:={ ρ:=ρ,θ:=fun _=>(0,0),κ:=fun _=>0,dm:=fun _=>False,ro:=ro }
def Hp.zero:Hp:=⟨.nil,0,none⟩
theorem UU [Glob] (ρ:Nat->Int) (ro:Nat->Prop) (w:World) (h: ∀b,ro b->b<w.heap.size) (hg:Glob.ok ρ ro w.heap):aO (En.zero ρ ro) Hp.zero w:=
 ⟨fun _ _ h=>h,by simp [Hp.zero],fun id o h=>by simp [Hp.zero,Hp.get,Tr.get] at h,fun id _ o _ h=>by simp [Hp.zero,Hp.get,Tr.get] at h,h,hg,fun _ _ h=>by simp [En.zero] at h⟩
theorem Stp.below {E E':En} {H':Hp} {w w':World} (s:Stp E Hp.zero w E' H' w'):Below w.heap.size w w':=
 ⟨s.os,s.tape,s.output,s.size,fun k hk=>s.keep k hk fun id o h=>by simp [Hp.zero,Hp.get,Tr.get] at h⟩
theorem G5 [Glob] {g:FuncId} {f:List AV->St->T (AV×St)} (hf:lX P g f) {fn:Func} (hfn:P.funcs[g]?=some fn) (hname:(fn.name == "runtime.NumGoroutine")=false) {c:Code} (hb2:fn.body=some c)
 {ρ:Nat->Int} {ro:Nat->Prop} {w:World} (hro: ∀b,ro b->b<w.heap.size) (hg:Glob.ok ρ ro w.heap) {args:List AV} {vals:List Value} (hv:bC (En.zero ρ ro) w.heap args vals) {v:AV} {s':St}
 (h:(f args ⟨.nil,Hp.zero,[]⟩).leaf ρ=some (v,s')):Calls P g vals.toArray w fun e w'=> ∃u E',e= .returned u/\VR E' w'.heap v u/\E'.ρ=ρ/\Below w.heap.size w w':=by
 obtain⟨_,_,h3⟩:=hf args ⟨.nil,Hp.zero,[]⟩ (En.zero ρ ro) w vals v s' (UU ρ ro w hro hg) hv (by simp [aW]) h
 have hrun:(callFunc g vals.toArray).run P w= .ok (.enter g vals.toArray) w:=by unfold callFunc;simp [hfn,hb2,by simpa using hname]
 unfold oK sV at h3;rw [hrun] at h3;exact Calls.mono h3 fun e w' ⟨u,he,E',st,_,hv⟩=> ⟨u,E',he,hv,st.ρ,st.below⟩
end
end
end Go.As
end

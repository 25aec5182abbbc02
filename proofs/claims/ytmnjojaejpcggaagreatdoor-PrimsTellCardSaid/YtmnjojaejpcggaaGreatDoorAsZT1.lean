import Derived.Lib.Bytealg
import Derived.Lib.IndexMore
import Derived.Test.YtmnjojaejpcggaaGreatDoorAsZT0
set_option linter.unusedSectionVars false
set_option linter.unusedVariables false
set_option linter.unusedSimpArgs false
section
namespace Go.As
theorem lV.rd {ro:Nat->Prop} {h:Array Obj} {c:CK} {d:D} {u:Value} (r:lV ro h c d u) (wf:wV c d):Rd ro h c d u:=by
 cases c with
 |int k=> simp only [lV,wV] at r wf;rw [wf,r];exact .int k d.n
 |bool=>
  simp only [lV,wV] at r wf;subst r;rcases wf with rfl|rfl
  ·exact .bool false
  ·exact .bool true
 |str=>exact r
 |sl t=>exact r
theorem dW.get {ro:Nat->Prop} {h:Array Obj} {d:D}: ∀{cs:List CK} {j:Nat} {us:List Value},dW ro h cs j d us->∀{k:Nat} {c:CK},cs[k]?=some c->∃u,us[k]?=some u/\lV ro h c (d.hd (j+k)) u
 |[],_,_,_,k,c,hk=>by simp at hk
 |c0::cs,j,us,hh,k,c,hk=>by
  simp only [dW] at hh;obtain⟨u,vs,rfl,h1,h2⟩:=hh
  cases k with
  |zero=> simp at hk;subst hk;exact⟨u,rfl,h1⟩
  |succ k=> obtain⟨x,h3,h4⟩:=h2.get (by simpa using hk);exact⟨x,by simpa using h3,by rw [show j+(k+1)=j+1+k by omega]; exact h4⟩
theorem dW.length {ro:Nat->Prop} {h:Array Obj} {d:D}: ∀{cs:List CK} {j:Nat} {us:List Value},dW ro h cs j d us->us.length=cs.length
 |[],_,us,hh=>by simp only [dW] at hh; subst hh; rfl
 |c::cs,j,us,hh=>by simp only [dW] at hh;obtain⟨u,vs,rfl,_,h2⟩:=hh;simp [h2.length]
theorem dW.shift {ro:Nat->Prop} {h:Array Obj} {a b:D}: ∀{cs:List CK} {j:Nat} {us:List Value},dW ro h cs (j+1) (.p a b) us↔dW ro h cs j b us
 |[],_,us=>by simp only [dW]
 |c::cs,j,us=>by
  simp only [dW,GI];constructor
  ·rintro⟨u,vs,rfl,h1,h2⟩;exact⟨u,vs,rfl,h1,dW.shift.1 h2⟩
  ·rintro⟨u,vs,rfl,h1,h2⟩;exact⟨u,vs,rfl,h1,dW.shift.2 h2⟩
section
variable {P:Program} {E:En} {w:World}
theorem vP {ρ:Nat->Int} {c:CK} {v:AV} {a:SE} (h:sJ c v=some a):wV c (dec (a.den ρ)):=by
 unfold sJ at h;split at h
 ·split at h
  ·split at h
   ·simp only [aHe] at h;subst h;simp only [wV,pU,aC,D.n]
   ·simp at h
  ·simp at h
 ·split at h
  ·split at h
   ·rename_i b;simp only [aHe] at h;subst h;simp only [wV,SE.den,aC];cases b<;>simp
   ·split at h
    ·split at h
     ·split at h
      ·simp only [aHe] at h;subst h;simp only [wV,SE.den,jC.den,aC];split<;>simp
      ·simp at h
     ·simp at h
    ·simp at h
   ·simp at h
  ·simp at h
 ·trivial
 ·trivial
theorem qQ {h:Array Obj} {c:CK} {v:AV} {u:Value} {a:SE} (hv:VR E h v u) (hc:sJ c v=some a):lV E.ro h c (dec (a.den E.ρ)) u:=by
 unfold sJ at hc;split at hc
 ·split at hc
  ·split at hc
   ·rename_i hk;subst hk;simp only [aHe] at hc;subst hc;simp only [VR] at hv;simp only [lV,pU,aC,D.n];exact hv
   ·simp at hc
  ·simp at hc
 ·split at hc
  ·split at hc
   ·rename_i b;simp only [aHe] at hc;subst hc;simp only [VR,SB.den] at hv;subst hv;simp only [lV,SE.den,aC];cases b<;>rfl
   ·split at hc
    ·split at hc
     ·split at hc
      ·rename_i x n hn;subst hn;simp only [aHe] at hc;subst hc;simp only [VR,SB.den,SE.den] at hv;subst hv;simp only [lV,SE.den,jC.den,pU,aC,D.n];congr 2;split
       ·rename_i hz; rw [hz]
       ·rename_i hz; simpa using hz
      ·simp at hc
     ·simp at hc
    ·simp at hc
   ·simp at hc
  ·simp at hc
 ·obtain⟨s,rfl,hs⟩:=FX hv hc;simp only [lV,hs];exact .str s
 ·split at hc
  ·split at hc
   ·rename_i ht;subst ht;simp only [aHe] at hc;subst hc;exact hv
   ·simp at hc
  ·simp only [aHe] at hc;subst hc;simp only [VR] at hv;subst hv;simp only [lV,SE.den,aC];exact .nil _
  ·split at hc
   ·rename_i ht;subst ht;simp only [aHe] at hc;subst hc;simp only [VR] at hv;exact hv.2
   ·simp at hc
  ·split at hc
   ·simp only [aHe] at hc;subst hc;simp only [VR] at hv;obtain⟨_,a,cap,rfl,_⟩:=hv;simp only [lV,SE.den,aC];exact .non _ _ _
   ·simp at hc
  ·simp at hc
theorem Hw {ρ:Nat->Int}: ∀{cs:List CK} {vs:List AV} {x:SE},codeCells cs vs=some x->Wh cs (dec (x.den ρ))
 |[],[],x,h=>by
  simp only [codeCells,aHe] at h;subst h;refine⟨?_,?_,?_⟩
  ·simp only [SE.den,aC]; rfl
  ·simp only [SE.den,aC]; rfl
  ·intro j c y hj; simp at hj
 |[],_::_,x,h=>by simp [codeCells] at h
 |_::_,[],x,h=>by simp [codeCells] at h
 |c::cs,v::vs,x,h=>by
  simp only [codeCells] at h;split at h
  ·simp at h
  ·rename_i a ha;split at h
   ·simp at h
   ·rename_i b hb;simp only [aHe] at h;subst h;obtain⟨h1,h2,h3⟩:=Hw (ρ:=ρ) hb;refine⟨?_,?_,?_⟩
    ·simp only [iL,SE.den,jC.den,aC,D.l,dL];rw [<- h1]
    ·simp only [iL,SE.den,jC.den,aC,D.l,aHq,h2]
    ·intro j c' y hj hy;simp only [iL,SE.den,jC.den,aC,D.l] at hy
     cases j with
     |zero=> simp only [aHA,aHe] at hj hy;subst hj hy;exact vP ha
     |succ j=>exact h3 j c' y (by simpa using hj) (by simpa using hy)
theorem Hy {h:Array Obj}: ∀{cs:List CK} {vs:List AV} {us:List Value} {x:SE},bT E h vs us->codeCells cs vs=some x->dW E.ro h cs 0 (dec (x.den E.ρ)) us
 |[],[],us,x,hv,hc=>by simp only [bT] at hv; subst hv; simp [dW]
 |[],_::_,_,x,_,hc=>by simp [codeCells] at hc
 |_::_,[],_,x,_,hc=>by simp [codeCells] at hc
 |c::cs,v::vs,us,x,hv,hc=>by
  simp only [codeCells] at hc;rw [bC] at hv;obtain⟨u,us',rfl,h1,h2⟩:=hv;split at hc
  ·simp at hc
  ·rename_i a ha;split at hc
   ·simp at hc
   ·rename_i b hb;simp only [aHe] at hc;subst hc;simp only [dW,iL,SE.den,jC.den,aC];refine⟨u,us',rfl,by rw [GH]; exact qQ h1 ha,?_⟩;rw [dW.shift];exact Hy h2 hb
theorem AL {ρ:Nat->Int} {r:Row} {cs:List AV} {x:SE} (h:codeRow r cs=some x):wU r (dec (x.den ρ)):=by
 unfold codeRow at h;split at h
 ·split at h
  ·exact vP h
  ·simp at h
 ·exact Hw h
theorem AO {h:Array Obj} {r:Row} {cs:List AV} {us:List Value} {x:SE} (hv:bT E h cs us) (hc:codeRow r cs=some x):Ep E.ro h r (dec (x.den E.ρ)) us:=by
 unfold codeRow at hc;split at hc
 ·split at hc
  ·rw [bC] at hv;obtain⟨u,us',rfl,h1,h2⟩:=hv;rw [lC] at h2;subst h2;exact⟨u,rfl,qQ h1 hc⟩
  ·simp at hc
 ·exact Hy hv hc
theorem CX {ρ:Nat->Int} {r:Row}: ∀(m:Nat) {e e1:SE} {news:List AV},pY r e m news=some e1->
 ∃ds:List D,ds.length=m/\(dec (e1.den ρ)).l=(dec (e.den ρ)).l++ds/\(dec (e.den ρ)=dL (dec (e.den ρ)).l->dec (e1.den ρ)=dL (dec (e1.den ρ)).l)/\(∀d∈ds,wU r d)/\
  ∀(E':En) (h:Array Obj) (us:List Value) (j:Nat),E'.ρ=ρ->bT E' h news us->bT E' h (aK ρ r [] ds j) us
 |0,e,e1,[],h=>by simp only [pY,aHe] at h;subst h;exact⟨[],rfl,by simp,id,by simp,fun E' h us j _ hv=>by simpa [aK] using hv⟩
 |0,e,e1,_::_,h=>by simp [pY] at h
 |m+1,e,e1,news,h=>by
  simp only [pY] at h;split at h
  ·simp at h
  ·rename_i x hx;obtain⟨ds,h1,h2,h3,h4,h5⟩:=CX (ρ:=ρ) m h;have hs:dec ((SE.op .snoc e x).den ρ)=dL ((dec (e.den ρ)).l++ [dec (x.den ρ)]):=by simp only [SE.den,jC.den,aC]
   refine⟨dec (x.den ρ)::ds,by simp [h1],?_,fun _=>h3 (by rw [hs,aA]),?_,?_⟩
   ·rw [h2,hs,aA]; simp
   ·intro d hd;rcases aHm.1 hd with rfl|hd
    ·exact AL hx
    ·exact h4 d hd
   ·intro E' h us j hρ hv;rw [<- aIs r.es news] at hv;obtain⟨a,b,rfl,a1,a2⟩:=hv.split;simp only [aK,dX];refine bT.append ?_ (h5 E' h b (j+1) hρ a2);rw [iO];simp only [SE.den,aC];have:=AO a1 hx;rw [hρ] at this;exact this
theorem abU {h:Array Obj} {id:Nat} {e:SE} {t:Nat} {ty:TypeId} {ro:Nat->Prop} (hro: ∀b,E.ro b->ro b) (hb:ro (E.θ id).1) (ho:OR E h id (.vec e t ty [])) {k cap:Nat} {a:Addr} (hk:k=(dec (e.den E.ρ)).l.length) (hcap:k<=cap)
 (hc:0<k->a=⟨(E.θ id).1,(E.θ id).2,none⟩):Rd ro h (.sl t) (dec (e.den E.ρ)) (.slice (some a) k cap):=by
 obtain⟨⟨hov,hwf⟩,hcl⟩:=OR.vG.1 ho;obtain⟨us,h1,h2,h3⟩:=EJ hcl;obtain⟨w1,w2,w3⟩:=hwf;rcases aIt k with h0|hpos
 ·subst h0;exact absurd (aH6 hk.symm) w3
 ·have ha:a=⟨(E.θ id).1,(E.θ id).2,none⟩:=hc hpos;subst ha;subst hk
  have hrow: ∀(i:Nat) (x:D),(dec (e.den E.ρ)).l[i]?=some x->∃rs,Ep ro h (rowOf t) x rs/\∀j u,rs[j]?=some u->us[i*(rowOf t).es+j]?=some u:=by
   intro i x hx;obtain⟨c1,c2⟩:=lY (ρ:=E.ρ) hov (j:=0) hx;unfold bV at h1;rw [c1] at h1;obtain⟨p,q,rfl,p1,p2⟩:=h1.split;obtain⟨q1,q2,rfl,r1,r2⟩:=p2.split;have hp:=p1.length;rw [c2] at hp;refine⟨q1,?_,?_⟩
   ·have r1':bT E h (jP (rowOf t) (.dat x)) q1:=r1;rw [iO] at r1';simp only [SE.den,aC] at r1'
    have mono: ∀c d u,lV E.ro h c d u->lV ro h c d u:=by
     intro c d u hh
     cases c with
     |int k=>exact hh
     |bool=>exact hh
     |str=>exact Rd.keep hro (fun _ _=>rfl) hh
     |sl t=>exact Rd.keep hro (fun _ _=>rfl) hh
    have aEv: ∀(cs:List CK) (j:Nat) (d:D) (us:List Value),dW E.ro h cs j d us->dW ro h cs j d us:=by
     intro cs
     induction cs with
     |nil=>intro j d us hh; exact hh
     |cons c cs ih=> intro j d us hh;obtain⟨u,vs,rfl,g1,g2⟩:=hh;exact⟨u,vs,rfl,mono _ _ _ g1,ih _ _ _ g2⟩
    cases hr:rowOf t with
    |one c=> rw [hr] at r1';obtain⟨u,rfl,g1⟩:=r1';exact⟨u,rfl,mono _ _ _ g1⟩
    |many cs=> rw [hr] at r1';exact aEv _ _ _ _ r1'
   ·intro j u hj;rw [aJh (by omega),hp];rw [show i*(rowOf t).es+j-i*(rowOf t).es=j by omega];have:=(aHB.1 hj).1;rw [aJi this];exact hj
  rw [w1];simp only [aA] at hrow ⊢;generalize hL:(dec (e.den E.ρ)).l=L at *
  cases hr:rowOf t with
  |one c=>
   refine .one t c _ _ cap L (fun i=>(us[i]?).getD undef) hr hcap hb ?_ ?_
   ·intro i d hd;obtain⟨rs,g1,g2⟩:=hrow i d hd;rw [hr] at g1;obtain⟨u,rfl,g3⟩:=g1;have:=g2 0 u rfl;rw [hr] at this;simp only [Row.es,aIT,aHJ] at this;rw [this];exact h2 i u this
   ·intro i d hd;obtain⟨rs,g1,g2⟩:=hrow i d hd;rw [hr] at g1;obtain⟨u,rfl,g3⟩:=g1;have:=g2 0 u rfl;rw [hr] at this;simp only [Row.es,aIT,aHJ] at this;rw [this];have hw:=w2 d (aHK hd);rw [hr] at hw;exact g3.rd hw
  |many cs=>
   have hwr: ∀d∈L,Wh cs d:=by intro d hd;have:=w2 d hd;rw [hr] at this;exact this
   have hLm:L=(L.map D.l).map dL:=by rw [aIy];have:L.map (dL ∘ D.l)=L.map (fun d=>d):=aI6 fun d hd=>(hwr d hd).1.symm;rw [this,List.map_id']
   have hlen:(L.map D.l).length=L.length:=by simp
   have hcap':(L.map D.l).length<=cap:=by rw [hlen]; exact hcap
   have goal:Rd ro h (.sl t) (dL ((L.map D.l).map dL)) (.slice (some ⟨(E.θ id).1,(E.θ id).2,none⟩) (L.map D.l).length cap):=by
    refine .many t cs _ _ cap (L.map D.l) (fun i j=>(us[i*cs.length+j]?).getD undef) hr hcap' hb ?_ ?_ ?_
    ·intro r hrm;rw [aHF] at hrm;obtain⟨d,hd,rfl⟩:=hrm;exact (hwr d hd).2.1
    ·intro i r j d hi hj;rw [aHG,aHy] at hi;obtain⟨x,hx,rfl⟩:=hi;obtain⟨rs,g1,g2⟩:=hrow i x hx;rw [hr] at g1;have hjl:j<cs.length:=by rw [<- (hwr x (aHK hx)).2.1]; exact (aHB.1 hj).1
     obtain⟨u,g3,g4⟩:=dW.get g1 (aHu hjl);have:=g2 j u g3;rw [hr] at this;simp only [Row.es] at this;rw [this,aHR];exact h2 _ u this
    ·intro i r j d c hi hj hcj;rw [aHG,aHy] at hi;obtain⟨x,hx,rfl⟩:=hi;obtain⟨rs,g1,g2⟩:=hrow i x hx;rw [hr] at g1;obtain⟨u,g3,g4⟩:=dW.get g1 hcj;have:=g2 j u g3;rw [hr] at this;simp only [Row.es] at this;rw [this];rw [aHn] at g4;have hd:x.hd j=d:=by simp [D.hd,hj]
     rw [hd] at g4;exact g4.rd ((hwr x (aHK hx)).2.2 j c d hcj hj)
   rw [<- hLm,hlen] at goal;exact goal
theorem ajG {h:Array Obj} {id:Nat} {e:SE} {t:Nat} {ty:TypeId} {ro:Nat->Prop} (hro: ∀b,E.ro b->ro b) (hb:ro (E.θ id).1) (ho:OR E h id (.vec e t ty [])) {k cap:Nat} {a:Addr} (hk:k=(dec (e.den E.ρ)).l.length) (hcap:k<=cap)
 (hc:gJ E id 0 k a cap (.rest (rowOf t).es)):Rd ro h (.sl t) (dec (e.den E.ρ)) (.slice (some a) k cap):=by
 refine abU hro hb ho hk hcap fun hpos=>?_;simp only [gJ] at hc;rcases hc with hc|hc
 ·simpa using hc.1
 ·omega
structure Sub (H' H:Hp):Prop where
 get: ∀j o,H'.get j=some o->H.get j=some o
 next:H'.next=H.next
 res:H'.res=H.res
theorem Sub.refl (H:Hp):Sub H H:=⟨fun _ _ h=>h,rfl,rfl⟩
theorem Sub.trans {A B C:Hp} (a:Sub B A) (b:Sub C B):Sub C A:=⟨fun j o h=>a.get j o (b.get j o h),b.next.trans a.next,b.res.trans a.res⟩
theorem Sub.drop (H:Hp) (id:Nat):Sub (H.drop id) H:=by
 refine⟨fun j o hj=>?_,rfl,rfl⟩;rw [Hp.uG] at hj;split at hj
 ·simp at hj
 ·exact hj
theorem VL [Glob] {H:Hp} (r:bG E H w) {id:Nat} {o:eP} (hl:H.get id=some o) :
 Keeps E w.heap { E with ro:=fun b=>E.ro b\/b=(E.θ id).1 } w.heap/\Stp E H w { E with ro:=fun b=>E.ro b\/b=(E.θ id).1 } (H.drop id) w/\bG { E with ro:=fun b=>E.ro b\/b=(E.θ id).1 } (H.drop id) w:=by
 have hk:Keeps E w.heap { E with ro:=fun b=>E.ro b\/b=(E.θ id).1 } w.heap:=⟨rfl,fun _ h=>h,fun _ _=>rfl,fun _ _=>rfl,fun _ h=> .inl h,fun _ _=>rfl⟩
 have hg: ∀j o,(H.drop id).get j=some o->H.get j=some o/\j≠id:=by
  intro j o hj;rw [Hp.uG] at hj;split at hj
  ·simp at hj
  ·rename_i hne; exact⟨hj,hne⟩
 refine⟨hk,⟨rfl,fun _ h=>h,fun _ _=>rfl,fun _ _=>rfl,fun _ h=> .inl h,?_,aHh _,.inr rfl,fun _ h=> .inl h,rfl,rfl,rfl,aHh _,fun _ _ _=>rfl,fun j o hj _=> ⟨j,o,(hg j o hj).1,rfl⟩⟩,
  ⟨r.fresh,r.res,?_,?_,?_,Glob.keep r.glob (fun _ h=> .inl h) (fun _ _=>rfl)⟩⟩
 ·intro b hb;rcases hb with hb|rfl
  ·exact .inl hb
  ·exact .inr (.inl ⟨id,_,hl,rfl⟩)
 ·intro j o hj;obtain⟨h1,h2⟩:=hg j o hj;obtain⟨g1,g2,g3⟩:=r.live j o h1;refine⟨g1,g2.keep hk g1 rfl,?_⟩;rintro (hb|hb)
  ·exact g3 hb
  ·exact h2 (r.inj j id o _ h1 hl hb)
 ·intro i j x y hi hj he;exact r.inj i j x y (hg i x hi).1 (hg j y hj).1 he
 ·intro b hb;rcases hb with hb|rfl
  ·exact r.BO b hb
  ·exact jS r hl
theorem aCd [Glob] {H H':Hp} (r:bG E H w) {v v':AV} (h:frz v H=(v',H')) :
 ∃E',E'.ρ=E.ρ/\Stp E H w E' H' w/\bG E' H' w/\(∀u,VR E w.heap v u->VR E' w.heap v' u)/\Sub H' H:=by
 have same:(v,H)=(v',H')->∃E',E'.ρ=E.ρ/\Stp E H w E' H' w/\bG E' H' w/\(∀u,VR E w.heap v u->VR E' w.heap v' u)/\Sub H' H:=by intro he;simp only [aHf] at he;obtain⟨rfl,rfl⟩:=he;exact⟨E,rfl,Stp.refl _ _ _,r,fun _ h=>h,Sub.refl _⟩
 unfold frz at h;split at h
 ·rename_i id n t;split at h
  ·rename_i o hl;split at h
   ·rename_i e t' ty ov;split at h
    ·split at h
     ·rename_i ht;split at h
      ·rename_i hn;simp only [aHf] at h;obtain⟨rfl,rfl⟩:=h;have ht:=aHj ht;have hn:=dD _ _ hn;subst ht hn;have hlive:=r.live id _ hl;obtain⟨hk,s1,r1⟩:=VL r hl;refine⟨{ E with ro:=fun b=>E.ro b\/b=(E.θ id).1 },rfl,s1,r1,fun u hv=>?_,Sub.drop _ _⟩;simp only [VR] at hv ⊢;obtain⟨hid,k,a,cap,h1,rfl,h2,h3⟩:=hv;rw [bW] at h1;exact ajG (fun _ h=> .inl h) (.inr rfl) hlive.2.1 (by omega) h2 h3
      ·exact same h
     ·exact same h
    ·exact same h
   ·exact same h
  ·exact same h
 ·simp only [aHf] at h;obtain⟨rfl,rfl⟩:=h;exact⟨E,rfl,Stp.refl _ _ _,r,fun u hu=>by simp only [VR] at hu ⊢; exact hu.2,Sub.refl _⟩
 ·exact same h
end
section
variable {P:Program} {E:En} {w:World}
theorem Rd.part {ro:Nat->Prop} {h:Array Obj} {t:Nat} {d:D} {b o n cap l k:Nat} (r:Rd ro h (.sl t) d (.slice (some ⟨b,o,none⟩) n cap)) (hl:l<=k) (hk:k<=n) (hn:n<=cap) :
 Rd ro h (.sl t) (iR d ((d.l.take k).drop l)) (.slice (some (if cap=l then⟨b,o,none⟩ else⟨b,o+l*(rowOf t).es,none⟩)) (k-l) (cap-l)):=by
 by_cases h0:k-l=0
 ·have:(d.l.take k).drop l= []:=by
   apply aJT;rw [aHr];omega
  have hd:d≠.i 1:=by intro q;obtain⟨_,q2,_⟩:=RZ r;have:=q2 q;simp at this
  rw [this,h0];simp only [iR];rw [aHc hd];exact .non _ _ _
 ·rw [aHc (by omega)]
  have hne:(d.l.take k).drop l≠[]:=by intro q;have:=congrArg List.length q;obtain⟨x,cap',hv,_⟩:=r.slice;simp only [Value.slice.injEq] at hv;rw [aHI,aHr] at this;simp at this;omega
  rw [Ho hne];generalize hc:CK.sl t=c at r;generalize hv:Value.slice (some ⟨b,o,none⟩) n cap=v at r
  cases r with
  |int k n=>simp at hc
  |bool b=>simp at hc
  |str s=>simp at hc
  |nil t=>simp at hv
  |non t a cap=> simp only [Value.slice.injEq] at hv;omega
  |one t' c b' o' cap' ds f hr hcp hb h1 h2=>
   simp only [CK.sl.injEq] at hc;subst hc;simp only [Value.slice.injEq,aHe,Addr.mk.injEq] at hv;obtain⟨⟨rfl,rfl,_⟩,rfl,rfl⟩:=hv;rw [aA];have hlen:((ds.take k).drop l).length=k-l:=by rw [aHI,aHr]; omega
   have hget: ∀i d,((ds.take k).drop l)[i]?=some d->ds[l+i]?=some d:=by
    intro i d hd;rw [aIq,aIn] at hd;split at hd
    ·exact hd
    ·simp at hd
   rw [<- hlen];refine .one t c b (o+l*(rowOf t).es) (cap-l) ((ds.take k).drop l) (fun i=>f (l+i)) hr (by rw [hlen]; omega) hb ?_ ?_
   ·intro i d hd;have:=h1 (l+i) d (hget i d hd);rw [hr,show o+l*(Row.one c).es+i=o+(l+i) by simp only [Row.es]; omega];exact this
   ·intro i d hd;exact h2 (l+i) d (hget i d hd)
  |many t' cs b' o' cap' rows f hr hcp hb hll h1 h2=>
   simp only [CK.sl.injEq] at hc;subst hc;simp only [Value.slice.injEq,aHe,Addr.mk.injEq] at hv;obtain⟨⟨rfl,rfl,_⟩,rfl,rfl⟩:=hv;rw [aA];have hlen:((rows.take k).drop l).length=k-l:=by rw [aHI,aHr]; omega
   have hget: ∀i d,((rows.take k).drop l)[i]?=some d->rows[l+i]?=some d:=by
    intro i d hd;rw [aIq,aIn] at hd;split at hd
    ·exact hd
    ·simp at hd
   rw [<- hlen,<- aIS,<- aJb];refine .many t cs b (o+l*(rowOf t).es) (cap-l) ((rows.take k).drop l) (fun i=>f (l+i)) hr (by rw [hlen]; omega) hb (fun r hrm=>hll r (aHS (aHQ hrm))) ?_ ?_
   ·intro i r j d hi hj;have:=h1 (l+i) r j d (hget i r hi) hj;rw [hr,show o+l*(Row.many cs).es+i*cs.length+j=o+(l+i)*cs.length+j by simp only [Row.es,aIa]; omega];exact this
   ·intro i r j d c hi hj hcj;exact h2 (l+i) r j d c (hget i r hi) hj hcj
theorem Rd.aEg {ro:Nat->Prop} {h:Array Obj} {t:Nat} {d:D} {x:Option Addr} {n cap l k:Nat} (r:Rd ro h (.sl t) d (.slice x n cap)) (hl:l<=k) (hk:k<=n) (hn:n<=cap) :
 Rd ro h (.sl t) (iR d ((d.l.take k).drop l)) (.slice (match x with |some a=>some (if cap=l then a else a.add (l*(rowOf t).es))|none=>none) (k-l) (cap-l)):=by
 have hx:(∃b o,x=some ⟨b,o,none⟩)\/(d= .i 1/\x=none/\n=0/\cap=0)\/(d= .i 2/\n=0/\∃a,x=some a):=by
  generalize hc:CK.sl t=c at r;generalize hv:Value.slice x n cap=v at r
  cases r with
  |int k n=>simp at hc
  |bool b=>simp at hc
  |str s=>simp at hc
  |nil t=>simp only [Value.slice.injEq] at hv; exact .inr (.inl ⟨rfl,hv.1,hv.2.1,hv.2.2⟩)
  |non t a cap=>simp only [Value.slice.injEq] at hv; exact .inr (.inr ⟨rfl,hv.2.1,a,hv.1⟩)
  |one t' c b' o' cap' ds f hr hcp hb h1 h2=>simp only [Value.slice.injEq] at hv; exact .inl ⟨_,_,hv.1⟩
  |many t' cs b' o' cap' rows f hr hcp hb hll h1 h2=>simp only [Value.slice.injEq] at hv; exact .inl ⟨_,_,hv.1⟩
 rcases hx with ⟨b,o,rfl⟩|⟨rfl,rfl,rfl,rfl⟩|⟨rfl,rfl,a,rfl⟩
 ·have:=r.part hl hk hn;simp only [gQ];exact this
 ·obtain rfl:k=0:=by omega
  obtain rfl:l=0:=by omega
  exact .nil _
 ·obtain rfl:k=0:=by omega
  obtain rfl:l=0:=by omega
  exact .non _ _ _
theorem arZ (l:List D):dL l≠.i 1:=by cases l<;>simp [dL]
theorem Rd.empty0 {ro:Nat->Prop} {h:Array Obj} {t:Nat} {d:D} {x:Option Addr} {n cap:Nat} (r:Rd ro h (.sl t) d (.slice x n cap)):Rd ro h (.sl t) (iR d []) (.slice x 0 0):=by
 generalize hc:CK.sl t=c at r;generalize hv:Value.slice x n cap=v at r
 cases r with
 |int k n=>simp at hc
 |bool b=>simp at hc
 |str s=>simp at hc
 |nil t=> simp only [Value.slice.injEq] at hv;obtain⟨rfl,_,_⟩:=hv;exact .nil _
 |non t a cap=> simp only [Value.slice.injEq] at hv;obtain⟨rfl,_,_⟩:=hv;exact .non _ _ _
 |one t' c b' o' cap' ds f hr hcp hb h1 h2=> simp only [Value.slice.injEq] at hv;obtain⟨rfl,_,_⟩:=hv;rw [vO (arZ _)];exact .non _ _ _
 |many t' cs b' o' cap' rows f hr hcp hb hll h1 h2=> simp only [Value.slice.injEq] at hv;obtain⟨rfl,_,_⟩:=hv;rw [vO (arZ _)];exact .non _ _ _
theorem aaO [Glob] {tt:TT} (htt:fE P tt) {s s':St} (hp:bK E.ρ s.pc) {ty t:Nat} {e:SE} {lo hi mx:Option AV} {lo' hi' mx':Option Value} {v:AV} {u:Value} (hx:VR E w.heap (.dat e t) u)
 (hlo:jH E w.heap lo lo') (hhi:jH E w.heap hi hi') (hmx:jH E w.heap mx mx') (h:(Vt tt s ty t e lo hi mx).leaf E.ρ=some (v,s')) :
 s'.slots=s.slots/\s'.h=s.h/\bK E.ρ s'.pc/\∃r,(Instr.sliceAt ty u lo' hi' mx').run P w= .ok r w/\VR E w.heap v r:=by
 unfold Vt at h;split at h
 ·rename_i m;split at h
  ·rename_i hm;split at h
   ·simp [T.leaf] at h
   ·rename_i z hz;split at h
    ·split at h
     ·rename_i hv;split at h
      ·rename_i hh;have:=aF h;simp only [aHf] at this;obtain⟨rfl,rfl⟩:=this;refine⟨rfl,rfl,hp,?_⟩;obtain⟨el,ie,hu,hie,rfl⟩:=sH htt hz;have hsz:=eU (htt el ie hie);simp only [VR] at hx;obtain⟨x,cap,rfl,hcap⟩:=hx.slice
       have zb: ∀(a:AV),KO a=true->∀d y,bnd (some a) d y=some 0:=by
        intro a ha d y;unfold KO at ha;unfold bnd;split at ha
        ·rename_i n hn;have:=DW ha;subst this;simp only [hn];rw [aHd (aIz y)]
        ·simp at ha
       obtain⟨e1,e2⟩:=iU (P:=P) (w:=w) (isSlice:=true) (len:=(dec (e.den E.ρ)).l.length) (cap:=cap) (m0:=cap) (d:=0) (m:=0) (h0:=0) (h:=0) (l:=0) hlo hhi hmx (fun _=>rfl) (.inr ⟨m,rfl,zb m hm _ _,aHh _⟩) (zb hv hh _ _) ⟨fun q=>by simp at q,fun _=>rfl⟩ (by simp [bnd]);refine⟨.slice x 0 0,?_,?_⟩
       rotate_left
       ·simp only [VR];refine⟨⟨x,rfl⟩,?_⟩;simp only [SE.den,jC.den,aC];exact hx.empty0
       cases x with
       |none=>simp [Instr.sliceAt,run_underlying hu,Instr.slice,e1,hsz]
       |some a=>simp [Instr.sliceAt,run_underlying hu,Instr.slice,e1,hsz]
      ·simp [T.leaf] at h
     ·simp [T.leaf] at h
    ·simp [T.leaf] at h
  ·simp [T.leaf] at h
 ·simp only [jH] at hmx;subst hmx;split at h
  ·simp [T.leaf] at h
  ·rename_i z hz;split at h
   ·rename_i hes;obtain⟨el,ie,hu,hie,rfl⟩:=sH htt hz;have hsz:=eU (htt el ie hie);simp only [VR] at hx;obtain⟨x,cap,rfl,hcap⟩:=hx.slice
    have fin: ∀(l k:Nat) (e':SE) (lo2 hi2:Option AV),jH E w.heap lo2 lo'->jH E w.heap hi2 hi'->bnd hi2 (dec (e.den E.ρ)).l.length (dec (e.den E.ρ)).l.length=some k->bnd lo2 0 k=some l->dec (e'.den E.ρ)=iR (dec (e.den E.ρ)) (((dec (e.den E.ρ)).l.take k).drop l)->
     ∃r,(Instr.sliceAt ty (.slice x (dec (e.den E.ρ)).l.length cap) lo' hi' none).run P w= .ok r w/\VR E w.heap (.dat e' t) r:=by
     intro l k e' lo2 hi2 h1 h2 h3 h4 h5;obtain⟨e1,e2⟩:=iU (P:=P) (w:=w) (isSlice:=true) (len:=(dec (e.den E.ρ)).l.length) (cap:=cap) (m0:=cap) (d:=0) (m:=cap) h1 h2 (mx:=none) (mx':=none) (by simp [jH]) (by simp) (.inl ⟨rfl,rfl,aHh _⟩) h3 ⟨fun _=>hcap,by simp⟩ h4;have hk:=pG h3;have hrd:=hx.aEg e2 hk hcap;refine⟨_,?_,by simp only [VR,h5]; exact hrd⟩
     cases x with
     |none=>simp [Instr.sliceAt,run_underlying hu,Instr.slice,e1,hsz]
     |some a=>simp [Instr.sliceAt,run_underlying hu,Instr.slice,e1,hsz,hes]<;>split<;>rfl
    have lit: ∀(k:IntKind) (n:Nat) (q:SE) (o:Option Value),q.den E.ρ=(n:Int)->jH E w.heap (some (.int k q)) o->jH E w.heap (some (.int k (.lit (Int.ofNat n)))) o:=by intro k n q o hq ho;obtain⟨y,rfl,hy⟩:=ho;refine⟨y,rfl,?_⟩;simp only [VR,SE.den] at hy ⊢;rw [hy,hq];rfl
    have bl: ∀(k:IntKind) (n d y:Nat),n<=y->bnd (some (.int k (.lit (Int.ofNat n)))) d y=some n:=by intro k n d y hn;simp [bnd,nY,hn]
    split at h
    ·
     simp only [jH] at hhi;subst hhi;split at h
     ·rename_i kl ql;obtain⟨pc1,hp1,h1⟩:=dB hp h;split at h1
      ·simp [T.leaf] at h1
      ·rename_i t1;obtain⟨pc2,hp2,h2⟩:=dB (s:={ s with pc:=pc1 }) hp1 h1;split at h2
       ·simp [T.leaf] at h2
       ·rename_i t2;have:=aF h2;simp only [aHf] at this;obtain⟨rfl,rfl⟩:=this;rw [dU,decide_eq_false_iff_not] at t1 t2;rw [bW] at t2;simp only [SE.den,aIB] at t1 t2;obtain⟨l,hl⟩ : ∃l:Nat,ql.den E.ρ=(l:Int):=⟨(ql.den E.ρ).toNat,by omega⟩;refine⟨rfl,rfl,hp2,fin l (dec (e.den E.ρ)).l.length _ _ none (lit kl l ql lo' hl hlo) (by simp [jH]) (by simp [bnd]) (bl _ _ _ _ (by omega)) ?_⟩;simp only [SE.den,jC.den,aC,hl,aHH,aIF]
     ·simp [T.leaf] at h
    ·rename_i kh qh;obtain⟨pc1,hp1,h1⟩:=dB hp h;split at h1
     ·simp [T.leaf] at h1
     ·rename_i t1;rw [dU,decide_eq_false_iff_not,bW] at t1;split at h1
      ·simp only [jH] at hlo;subst hlo;obtain⟨pc2,hp2,h2⟩:=dB (s:={ s with pc:=pc1 }) hp1 h1;split at h2
       ·simp [T.leaf] at h2
       ·rename_i t2;have:=aF h2;simp only [aHf] at this;obtain⟨rfl,rfl⟩:=this;rw [dU,decide_eq_false_iff_not] at t2;simp only [SE.den,aIB] at t2;obtain⟨k,hk⟩ : ∃k:Nat,qh.den E.ρ=(k:Int):=⟨(qh.den E.ρ).toNat,by omega⟩;refine⟨rfl,rfl,hp2,fin 0 k _ none _ (by simp [jH]) (lit kh k qh hi' hk hhi) (bl _ _ _ _ (by omega)) (by simp [bnd]) ?_⟩;simp only [SE.den,jC.den,aC,hk,aHH,aH4]
      ·rename_i kl ql;obtain⟨pc2,hp2,h2⟩:=dB (s:={ s with pc:=pc1 }) hp1 h1;split at h2
       ·simp [T.leaf] at h2
       ·rename_i t2;obtain⟨pc3,hp3,h3⟩:=dB (s:={ s with pc:=pc2 }) hp2 h2;split at h3
        ·simp [T.leaf] at h3
        ·rename_i t3;have:=aF h3;simp only [aHf] at this;obtain⟨rfl,rfl⟩:=this;rw [dU,decide_eq_false_iff_not] at t2 t3;simp only [SE.den,aIB] at t2 t3;obtain⟨l,hl⟩ : ∃l:Nat,ql.den E.ρ=(l:Int):=⟨(ql.den E.ρ).toNat,by omega⟩;obtain⟨k,hk⟩ : ∃k:Nat,qh.den E.ρ=(k:Int):=⟨(qh.den E.ρ).toNat,by omega⟩;refine⟨rfl,rfl,hp3,fin l k _ _ _ (lit kl l ql lo' hl hlo) (lit kh k qh hi' hk hhi) (bl _ _ _ _ (by omega)) (bl _ _ _ _ (by omega)) ?_⟩;simp only [SE.den,jC.den,aC,hl,hk,aHH,aH];exact FC fun q=>by rw [q]; simp [D.l]
      ·simp [T.leaf] at h1
    ·simp [T.leaf] at h
   ·simp [T.leaf] at h
end
theorem N8 {e:SE} (h:isZ e=true):e= .lit 0:=by
 unfold isZ at h;split at h
 ·rw [DW h]
 ·simp at h
theorem vT (ρ:Nat->Int) (a b:SE):(zB a b).den ρ=a.den ρ+b.den ρ:=by
 unfold zB;split
 ·rename_i h;rw [N8 h];simp only [SE.den,Int.zero_add]
 ·rfl
theorem agJ (ρ:Nat->Int) (a b:SE):(MK a b).den ρ=a.den ρ-b.den ρ:=by
 unfold MK;split
 ·rename_i h;rw [N8 h];simp only [SE.den,Int.sub_zero]
 ·rfl
theorem Ns {ρ:Nat->Int} {e lo n:SE} {l k:Nat} (hl:lo.den ρ=(l:Int)) (hn:n.den ρ=(k:Int)) :
 dec ((UF e lo n).den ρ)=iR (dec (e.den ρ)) (((dec (e.den ρ)).l.take (l+k)).drop l):=by
 unfold UF;split
 ·rename_i h;have h:=N8 h;subst h;simp only [SE.den] at hl;have:l=0:=by omega
  subst this;simp only [SE.den,jC.den,aC,hn,aHH,aHn,aH4]
 ·have h2:((l:Int)+(k:Int)).toNat=l+k:=by omega
  simp only [SE.den,jC.den,aC,hl,hn,h2,aHH,aH];exact FC fun h=>by rw [h]; simp [D.l]
theorem IX {α:Type} {ρ:Nat->Int} {e lo n:SE} {s:St} {k:St->T α} {x:α} (hp:bK ρ s.pc) (h:(IY e lo n s k).leaf ρ=some x) :
 ∃pc',bK ρ pc'/\0<=lo.den ρ/\0<=n.den ρ/\lo.den ρ+n.den ρ<=((dec (e.den ρ)).l.length:Int)/\(k { s with pc:=pc' }).leaf ρ=some x:=by
 unfold IY at h;obtain⟨pc1,hp1,h1⟩:=dB hp h;split at h1
 ·simp [T.leaf] at h1
 ·rename_i hb1;obtain⟨pc2,hp2,h2⟩:=dB (s:={ s with pc:=pc1 }) hp1 h1;split at h2
  ·simp [T.leaf] at h2
  ·rename_i hb2;obtain⟨pc3,hp3,h3⟩:=dB (s:={ s with pc:=pc2 }) hp2 h2;split at h3
   ·simp [T.leaf] at h3
   ·rename_i hb3;rw [dU,decide_eq_false_iff_not] at hb1 hb2 hb3;rw [bW,vT] at hb3;simp only [SE.den] at hb1 hb2;exact⟨pc3,hp3,by omega,by omega,by omega,h3⟩
theorem zK {h:Hp} {id t:Nat} {e:SE} {ty:TypeId} (hv:QF h id t=some (e,ty)):h.get id=some (.vec e t ty []):=by
 unfold QF at hv;split at hv
 ·rename_i o ho;split at hv
  ·split at hv
   ·split at hv
    ·rename_i ht;have ht:=aHj ht;simp only [aHe,aHf] at hv;obtain⟨rfl,rfl⟩:=hv;rw [ho,ht]
    ·simp at hv
   ·simp at hv
  ·simp at hv
 ·simp at hv
theorem Rd.aD9 {ro:Nat->Prop} {h:Array Obj} {t:Nat} {d:D} {a:Addr} {n cap cap':Nat} (r:Rd ro h (.sl t) d (.slice (some a) n cap)) (hc:n<=cap'):Rd ro h (.sl t) d (.slice (some a) n cap'):=by
 generalize hk:CK.sl t=c at r;generalize hv:Value.slice (some a) n cap=v at r
 cases r with
 |int k n=>simp at hk
 |bool b=>simp at hk
 |str s=>simp at hk
 |nil t=>simp at hv
 |non t a cap=> simp only [CK.sl.injEq] at hk;simp only [Value.slice.injEq,aHe] at hv;obtain⟨rfl,rfl,rfl⟩:=hv;subst hk;exact .non _ _ _
 |one t' c b' o' cap' ds f hr hcp hb h1 h2=> simp only [CK.sl.injEq] at hk;simp only [Value.slice.injEq,aHe] at hv;obtain⟨rfl,rfl,rfl⟩:=hv;subst hk;exact .one _ _ _ _ _ _ _ hr hc hb h1 h2
 |many t' cs b' o' cap' rows f hr hcp hb hll h1 h2=> simp only [CK.sl.injEq] at hk;simp only [Value.slice.injEq,aHe] at hv;obtain⟨rfl,rfl,rfl⟩:=hv;subst hk;exact .many _ _ _ _ _ _ _ hr hc hb hll h1 h2
section
variable {P:Program} {E:En} {w:World}
theorem ajH {h:Array Obj} {id:Nat} {e:SE} {t:Nat} {ty:TypeId} {ro:Nat->Prop} (hro: ∀b,E.ro b->ro b) (hb:ro (E.θ id).1) (ho:OR E h id (.vec e t ty [])) {l k cap:Nat} {a:Addr} (hk:l+k<=(dec (e.den E.ρ)).l.length) (hcap:k<=cap)
 (hc:gJ E id (l*(rowOf t).es) k a cap (.rest (rowOf t).es)):Rd ro h (.sl t) (iR (dec (e.den E.ρ)) (((dec (e.den E.ρ)).l.take (l+k)).drop l)) (.slice (some a) k cap):=by
 have hw:=(OR.vG.1 ho).1.2
 have hne:dec (e.den E.ρ)≠.i 1:=by intro q;have:=hw.2.2;rw [q] at this;exact this rfl
 rcases aIt k with h0|hpos
 ·subst h0
  have:((dec (e.den E.ρ)).l.take (l+0)).drop l= []:=by apply aJT;rw [aHr];omega
  rw [this,vO hne];exact .non _ _ _
 ·simp only [gJ] at hc
  obtain⟨rfl,_⟩ : a=⟨(E.θ id).1,(E.θ id).2+l*(rowOf t).es,none⟩/\l*(rowOf t).es+cap*(rowOf t).es=E.κ id:=by
   rcases hc with hc|hc
   ·exact hc
   ·omega
  have r0:=abU hro hb ho (k:=(dec (e.den E.ρ)).l.length) (cap:=(dec (e.den E.ρ)).l.length+l+1) (a:=⟨(E.θ id).1,(E.θ id).2,none⟩) rfl (by omega) (fun _=>rfl);have r1:=r0.part (l:=l) (k:=l+k) (by omega) hk (by omega);rw [aHc (by omega),show l+k-l=k by omega] at r1;exact r1.aD9 hcap
structure YD [Glob] (E:En) (w:World) (H:Hp) (E':En) (H':Hp):Prop where
 ρ:E'.ρ=E.ρ
 fD:Stp E H w E' H' w
 rel:bG E' H' w
 sub:Sub H' H
theorem YD.refl [Glob] {H:Hp} (r:bG E H w):YD E w H E H:=⟨rfl,Stp.refl _ _ _,r,Sub.refl _⟩
theorem YD.trans [Glob] {E1 E2:En} {H H1 H2:Hp} (a:YD E w H E1 H1) (b:YD E1 w H1 E2 H2):YD E w H E2 H2:=
 ⟨b.ρ.trans a.ρ,a.fD.trans b.fD,b.rel,a.sub.trans b.sub⟩
theorem afB [Glob] {α:Type} {ρ:Nat->Int} {v:AV} {s:St} {k:AV->St->T α} {x:α} (hρ:E.ρ=ρ) (r:bG E s.h w) (hp:bK ρ s.pc) (h:(ahX v s k).leaf ρ=some x) :
 ∃v' h' pc' E',bK ρ pc'/\YD E w s.h E' h'/\(∀u,VR E w.heap v u->VR E' w.heap v' u)/\(k v' { s with h:=h',pc:=pc' }).leaf ρ=some x:=by
 unfold ahX at h;split at h
 ·rename_i id lo n t;split at h
  ·rename_i e ty hv;have hl:=zK hv;obtain⟨pc',hp',h1,h2,h3,h4⟩:=IX hp h;obtain⟨hk,s1,r1⟩:=VL r hl;refine⟨_,_,pc',{ E with ro:=fun b=>E.ro b\/b=(E.θ id).1 },hp',⟨rfl,s1,r1,Sub.drop _ _⟩,fun u hu=>?_,h4⟩;simp only [VR] at hu ⊢;obtain⟨hid,l,m,a,cap,q1,q2,rfl,q4,q5⟩:=hu;rw [Ns q1 q2];rw [hρ] at q1 q2;have hh:=ajH (E:=E) (ro:=fun b=>E.ro b\/b=(E.θ id).1) (fun _ h=> .inl h) (.inr rfl) (r.live id _ hl).2.1 (l:=l) (k:=m) (by rw [hρ]; omega) q4 q5;exact hh
  ·exact⟨_,_,s.pc,E,hp,YD.refl r,fun _ h=>h,h⟩
 ·cases hf:frz v s.h with
  |mk v' h'=> rw [hf] at h;obtain⟨E',q1,q2,q3,q4,q5⟩:=aCd r hf;exact⟨v',h',s.pc,E',hp,⟨q1,q2,q3,q5⟩,q4,h⟩
theorem XH [Glob] {α:Type} {ρ:Nat->Int}: ∀{vs:List AV} {s:St} {E:En} {k:List AV->St->T α} {x:α},E.ρ=ρ->bG E s.h w->bK ρ s.pc->(SQ vs s k).leaf ρ=some x->
 ∃vs' h' pc' E',bK ρ pc'/\YD E w s.h E' h'/\(∀us,bT E w.heap vs us->bT E' w.heap vs' us)/\(k vs' { s with h:=h',pc:=pc' }).leaf ρ=some x
 |[],s,E,k,x,hρ,r,hp,h=> ⟨[],s.h,s.pc,E,hp,YD.refl r,fun _ h=>h,h⟩
 |v::vs,s,E,k,x,hρ,r,hp,h=>by simp only [SQ] at h;obtain⟨v1,h1,pc1,E1,hp1,f1,q1,g1⟩:=afB hρ r hp h;obtain⟨vs1,h2,pc2,E2,hp2,f2,q2,g2⟩:=XH (s:={ s with h:=h1,pc:=pc1 }) (f1.ρ.trans hρ) f1.rel hp1 g1;refine⟨v1::vs1,h2,pc2,E2,hp2,f1.trans f2,fun us hu=>?_,g2⟩;rw [bC] at hu ⊢;obtain⟨u,us',rfl,a,b⟩:=hu;exact⟨u,us',rfl,VR.keep (f2.fD.keeps f1.rel) _ _ (q1 u a),q2 us' (bT.keep (f1.fD.keeps r) _ _ b)⟩
theorem Gh {ρ:Nat->Int} {i:Nat} {j:SE} {cs:List AV}: ∀{pre:List (SE×List AV)},dX ρ i (pre++ [(j,cs)])=match dX ρ i pre with |some c=>some c|none=>if j.den ρ=(i:Int) then some cs else none
 |[]=>rfl
 |(a,b)::pre=>by
  simp only [aHM,dX];split
  ·rfl
  ·exact Gh
theorem auH (ρ:Nat->Int) (e j x:SE):dec ((SE.op .set e (iL (II j) x)).den ρ)=dL (dV (dec (e.den ρ)).l (j.den ρ) (dec (x.den ρ))):=by simp only [iL,SE.den,jC.den,aC,pU,D.n]
theorem WV (ds:List D) (z:Int) (x:D) (n:Nat):(dV ds z x)[n]?=if z=(n:Int)/\n<ds.length then some x else ds[n]?:=by
 unfold dV;split
 ·rw [aHc (by omega)]
 ·rw [aJf];by_cases hz:z=(n:Int)
  ·subst hz;simp only [aHH,if_true,true_and];split
   ·rfl
   ·rename_i hn;rw [aH2 (by omega)]
  ·rw [aHc (by omega),aHc (fun q=>hz q.1)]
theorem EH {ρ:Nat->Int} {E1 E2:En} {h:Array Obj} {r:Row} {pre:List (SE×List AV)} {j:SE} {cs:List AV} {X:D} (mono: ∀a us,bT E1 h a us->bT E2 h a us) (hX: ∀us,bT E1 h cs us->Ep E2.ro h r X us) :
 ∀{L L':List D} {i:Nat} {us:List Value},L'.length=L.length->(∀n:Nat,L'[n]?=if j.den ρ=((i+n:Nat):Int)/\n<L.length then some X else L[n]?)->
  bT E1 h (aK ρ r (pre++ [(j,cs)]) L i) us->bT E2 h (aK ρ r pre L' i) us
 |[],[],i,us,_,_,hv=>by simp only [aK,bT] at *; exact hv
 |[],_::_,_,_,hl,_,_=>by simp at hl
 |_::_,[],_,_,hl,_,_=>by simp at hl
 |d::L,d'::L',i,us,hl,hg,hv=>by
  simp only [aK] at *;obtain⟨a,b,rfl,a1,a2⟩:=hv.split;have h0:=hg 0;simp only [aHA,aHJ,aHq] at h0;refine bT.append ?_ (EH mono hX (by simpa using hl) (fun n=>?_) a2)
  ·rw [Gh] at a1
   cases ho:dX ρ i pre with
   |some c=> rw [ho] at a1;exact mono _ _ a1
   |none=>
    rw [ho] at a1;simp only at a1 ⊢;by_cases hj:j.den ρ=(i:Int)
    ·rw [aHd hj] at a1;rw [aHd ⟨hj,by omega⟩] at h0;simp only [aHe] at h0;subst h0;rw [iO];simp only [SE.den,aC];exact hX _ a1
    ·rw [aHc hj] at a1;rw [aHc (fun q=>hj q.1)] at h0;simp only [aHe] at h0;subst h0;exact mono _ _ a1
  ·have:=hg (n+1);simp only [aHp,aHq] at this;rw [this,show i+(n+1)=i+1+n by omega];by_cases hc:j.den ρ=((i+1+n:Nat):Int)/\n<L.length
   ·rw [aHd hc,aHd ⟨hc.1,by omega⟩]
   ·rw [aHc hc,aHc (fun q=>hc ⟨q.1,by omega⟩)]
theorem auI {r:Row} {ds:List D} {z:Int} {x:D} (h1: ∀d∈ds,wU r d) (h2:wU r x): ∀d∈dV ds z x,wU r d:=by
 intro d hd;obtain⟨n,hn⟩:=aIP.1 hd;rw [WV] at hn;split at hn
 ·simp only [aHe] at hn;subst hn;exact h2
 ·exact h1 d (aHK hn)
theorem auJ {ds:List D} {z:Int} {x:D} (h:ds≠[]):dV ds z x≠[]:=by intro q;have:=congrArg List.length q;rw [gK] at this;exact h (aH6 this)
theorem Xg [Glob] {α:Type} {ρ:Nat->Int} {t:Nat}: ∀{ov:List (SE×List AV)} {e:SE} {s:St} {E:En} {k:SE->St->T α} {x:α} (pre:List (SE×List AV)),E.ρ=ρ->bG E s.h w->bK ρ s.pc->Dl (rowOf t) (dec (e.den ρ))->
 (RF t ov e s k).leaf ρ=some x->
 ∃e' h' pc' E',bK ρ pc'/\YD E w s.h E' h'/\Dl (rowOf t) (dec (e'.den ρ))/\(dec (e'.den ρ)).l.length=(dec (e.den ρ)).l.length/\
  (∀us,bT E w.heap (aK ρ (rowOf t) (pre++ov) (dec (e.den ρ)).l 0) us->bT E' w.heap (aK ρ (rowOf t) pre (dec (e'.den ρ)).l 0) us)/\(k e' { s with h:=h',pc:=pc' }).leaf ρ=some x
 |[],e,s,E,k,x,pre,hρ,r,hp,hw,h=> ⟨e,s.h,s.pc,E,hp,YD.refl r,hw,rfl,fun us hu=>by rw [aHU] at hu; exact hu,h⟩
 |(j,cs)::ov,e,s,E,k,x,pre,hρ,r,hp,hw,h=>by
  simp only [RF] at h;obtain⟨e1,h1,pc1,E1,hp1,f1,w1,l1,c1,g1⟩:=Xg (pre++ [(j,cs)]) hρ r hp hw h;obtain⟨cs2,h2,pc2,E2,hp2,f2,c2,g2⟩:=XH (s:={ s with h:=h1,pc:=pc1 }) (f1.ρ.trans hρ) f1.rel hp1 g1;split at g2
  ·rename_i y hy;have hρ2:E2.ρ=ρ:=f2.ρ.trans (f1.ρ.trans hρ);have hsd:=auH ρ e1 j y;refine⟨_,h2,pc2,E2,hp2,f1.trans f2,?_,?_,?_,g2⟩
   ·rw [hsd];exact⟨by rw [aA],by rw [aA]; exact auI w1.2.1 (AL hy),by rw [aA]; exact auJ w1.2.2⟩
   ·rw [hsd,aA,gK,l1]
   ·intro us hu;rw [hsd,aA];have hu1:=c1 us (by rw [aH3]; exact hu);refine EH (j:=j) (cs:=cs) (X:=dec (y.den ρ)) (fun a us ha=>bT.keep (f2.fD.keeps f1.rel) _ _ ha) (fun us hus=>?_) (gK _ _ _) (fun n=>?_) hu1
    ·have:=AO (c2 us hus) hy;rw [hρ2] at this;exact this
    ·rw [WV,aHn]
  ·simp [T.leaf] at g2
theorem ahD {v:AV} {h:Hp} {id t:Nat} {e:SE} {ov:List (SE×List AV)} (hv:aBG v h=some (id,e,t,ov)): ∃ty,v= .sN id (dY e) t/\h.get id=some (.vec e t ty ov):=by
 unfold aBG at hv;split at hv
 ·split at hv
  ·rename_i o ho;split at hv
   ·split at hv
    ·simp at hv
    ·split at hv
     ·rename_i ht;split at hv
      ·rename_i hn;have ht:=aHj ht;have hn:=dD _ _ hn;simp only [aHe,aHf] at hv;obtain⟨rfl,rfl,rfl,rfl⟩:=hv;subst ht hn;exact⟨_,rfl,ho⟩
      ·simp at hv
     ·simp at hv
   ·simp at hv
  ·simp at hv
 ·simp at hv
theorem aeZ [Glob] {α:Type} {ρ:Nat->Int} {v:AV} {s:St} {k:AV->St->T α} {x:α} (hρ:E.ρ=ρ) (r:bG E s.h w) (hp:bK ρ s.pc) (h:(ahW v s k).leaf ρ=some x) :
 ∃v' h' pc' E',bK ρ pc'/\YD E w s.h E' h'/\(∀u,VR E w.heap v u->VR E' w.heap v' u)/\(k v' { s with h:=h',pc:=pc' }).leaf ρ=some x:=by
 unfold ahW at h;split at h
 ·rename_i id e t ov hv;obtain⟨ty,rfl,hl⟩:=ahD hv;obtain⟨hid,ho,aG7⟩:=r.live id _ hl;have ho':=ho;simp only [OR] at ho';rw [hρ] at ho';obtain⟨⟨hov,hwf⟩,arr,lo,hi,us,q1,q2,q3,q4,q5,q6,q7⟩:=ho';obtain⟨e',h',pc',E',hp',f,w',l',c',g⟩:=Xg [] hρ r hp hwf h;split at g
  ·rename_i o hg;have hg':=f.sub.get _ _ hg;rw [hl] at hg';simp only [aHe] at hg';subst hg';obtain⟨hk,s1,r1⟩:=VL f.rel hg;have hρ':E'.ρ=ρ:=f.ρ.trans hρ;refine⟨_,_,pc',{ E' with ro:=fun b=>E'.ro b\/b=(E'.θ id).1 },hp',⟨f.ρ,f.fD.trans s1,r1,f.sub.trans (Sub.drop _ _)⟩,fun u hu=>?_,g⟩;simp only [VR] at hu ⊢;obtain⟨_,m,a,cap,p1,rfl,p3,p4⟩:=hu;rw [bW,hρ] at p1;have hθ:=f.fD.θ id hid;have hκ:=f.fD.κ id hid
   have hO:OR E' w.heap id (.vec e' t ty []):=by simp only [OR];rw [hρ',hθ,hκ];have hv':=c' us (by rw [aHx]; exact q2);refine⟨⟨fun p hp=>by simp at hp,w'⟩,arr,lo,hi,us,q1,hv',q3,?_,q5,q6,q7⟩;have e1:=hv'.length;have e2:=q2.length;omega
   have hh:=ajG (E:=E') (ro:=fun b=>E'.ro b\/b=(E'.θ id).1) (fun _ h=> .inl h) (.inr rfl) hO (k:=m) (cap:=cap) (a:=a) (by rw [hρ',l']; omega) p3 (by
    simp only [gJ] at p4 ⊢;rw [hθ,hκ]
    exact p4)
   exact hh
  ·simp [T.leaf] at g
 ·exact afB hρ r hp h
theorem wE [Glob] {α:Type} {ρ:Nat->Int}: ∀{vs:List AV} {s:St} {E:En} {k:List AV->St->T α} {x:α},E.ρ=ρ->bG E s.h w->bK ρ s.pc->(ED vs s k).leaf ρ=some x->
 ∃vs' h' pc' E',bK ρ pc'/\YD E w s.h E' h'/\(∀us,bT E w.heap vs us->bT E' w.heap vs' us)/\(k vs' { s with h:=h',pc:=pc' }).leaf ρ=some x
 |[],s,E,k,x,hρ,r,hp,h=> ⟨[],s.h,s.pc,E,hp,YD.refl r,fun _ h=>h,h⟩
 |v::vs,s,E,k,x,hρ,r,hp,h=>by simp only [ED] at h;obtain⟨v1,h1,pc1,E1,hp1,f1,q1,g1⟩:=aeZ hρ r hp h;obtain⟨vs1,h2,pc2,E2,hp2,f2,q2,g2⟩:=wE (s:={ s with h:=h1,pc:=pc1 }) (f1.ρ.trans hρ) f1.rel hp1 g1;refine⟨v1::vs1,h2,pc2,E2,hp2,f1.trans f2,fun us hu=>?_,g2⟩;rw [bC] at hu ⊢;obtain⟨u,us',rfl,a,b⟩:=hu;exact⟨u,us',rfl,VR.keep (f2.fD.keeps f1.rel) _ _ (q1 u a),q2 us' (bT.keep (f1.fD.keeps r) _ _ b)⟩
end
section
variable {P:Program} {E:En} {w:World}
theorem pR: ∀{cs vs l:List AV} {o:Nat},splice cs o vs=some l->l.length=cs.length
 |cs,[],l,0,h=>by simp only [splice,aHe] at h; rw [h]
 |[],v::vs,l,0,h=>by simp [splice] at h
 |c::cs,v::vs,l,0,h=>by
  simp only [splice] at h;split at h
  ·rename_i l' hl;simp only [aHe] at h;subst h;simp [pR hl]
  ·simp at h
 |[],vs,l,o+1,h=>by simp [splice] at h
 |c::cs,vs,l,o+1,h=>by
  simp only [splice] at h;split at h
  ·rename_i l' hl;simp only [aHe] at h;subst h;simp [pR hl]
  ·simp at h
theorem tN: ∀{cs vs l:List AV} {o:Nat} (m:List AV),splice cs o vs=some l->splice (cs++m) o vs=some (l++m)
 |cs,[],l,0,m,h=>by simp only [splice,aHe] at h ⊢; rw [h]
 |[],v::vs,l,0,m,h=>by simp [splice] at h
 |c::cs,v::vs,l,0,m,h=>by
  simp only [splice,aHM] at h ⊢;split at h
  ·rename_i l' hl;simp only [aHe] at h;subst h;rw [tN m hl];rfl
  ·simp at h
 |[],vs,l,o+1,m,h=>by simp [splice] at h
 |c::cs,vs,l,o+1,m,h=>by
  simp only [splice,aHM] at h ⊢;split at h
  ·rename_i l' hl;simp only [aHe] at h;subst h;rw [tN m hl];rfl
  ·simp at h
theorem zM: ∀{cs vs l:List AV} {o:Nat} (p:List AV),splice cs o vs=some l->splice (p++cs) (p.length+o) vs=some (p++l)
 |cs,vs,l,o,[],h=>by simpa using h
 |cs,vs,l,o,x::p,h=>by have:=zM p h;rw [aHM,aHq,show p.length+1+o=(p.length+o)+1 by omega];simp only [splice,this,aHM]
theorem yH: ∀{cs vs l:List AV} {o:Nat},splice cs o vs=some l->∀j:Nat,l[j]?=if o<=j/\j<o+vs.length then vs[j-o]? else cs[j]?
 |cs,[],l,0,h,j=>by simp only [splice,aHe] at h;rw [h,aHc (by simp)]
 |[],v::vs,l,0,h,j=>by simp [splice] at h
 |c::cs,v::vs,l,0,h,j=>by
  simp only [splice] at h;split at h
  ·rename_i l' hl;simp only [aHe] at h;subst h
   cases j with
   |zero=>simp
   |succ j=>
    have:=yH hl j;simp only [aHp,this,aHq,aIf];by_cases hj:j<vs.length
    ·rw [aHd (by omega),aHd (by omega)]
    ·rw [aHc (by omega),aHc (by omega)]
  ·simp at h
 |[],vs,l,o+1,h,j=>by simp [splice] at h
 |c::cs,vs,l,o+1,h,j=>by
  simp only [splice] at h;split at h
  ·rename_i l' hl;simp only [aHe] at h;subst h
   cases j with
   |zero=>rw [aHc (by omega)]; rfl
   |succ j=>
    have:=yH hl j;simp only [aHp,this];by_cases hj:o<=j/\j<o+vs.length
    ·rw [aHd hj,aHd (by omega),show j+1-(o+1)=j-o by omega]
    ·rw [aHc hj,aHc (by omega)]
  ·simp at h
theorem Hz (x:SE): ∀(cs:List CK) (j k:Nat),(lU cs j x)[k]?=(cs[k]?).map fun c=>AP c (nR (j+k) x)
 |[],j,k=>by simp [lU]
 |c::cs,j,0=>by simp [lU]
 |c::cs,j,k+1=>by simp only [lU,aHp,Hz x cs (j+1) k];rw [show j+1+k=j+(k+1) by omega]
theorem JD {ρ:Nat->Int} {ks:List CK}: ∀{vs:List AV} {off:Nat} {x x':SE},setCells ks off vs x=some x'->off+vs.length<=(dec (x.den ρ)).l.length->
 (dec (x'.den ρ)).l.length=(dec (x.den ρ)).l.length/\(dec (x.den ρ)=dL (dec (x.den ρ)).l->dec (x'.den ρ)=dL (dec (x'.den ρ)).l)/\
 ∀j,(j<off\/off+vs.length<=j)/\(dec (x'.den ρ)).l[j]?=(dec (x.den ρ)).l[j]?\/∃c v a,off<=j/\vs[j-off]?=some v/\ks[j]?=some c/\sJ c v=some a/\(dec (x'.den ρ)).l[j]?=some (dec (a.den ρ))
 |[],off,x,x',h,_=>by simp only [setCells,aHe] at h;subst h;refine⟨rfl,id,fun j=> .inl ⟨?_,rfl⟩⟩;simp only [aHD];omega
 |v::vs,off,x,x',h,hle=>by
  simp only [setCells] at h;split at h
  ·rename_i c hc;split at h
   ·rename_i a ha;simp only [aHq] at hle
    have hs:dec ((SE.op .set x (iL (.dat (.i (Int.ofNat off))) a)).den ρ)=dL ((dec (x.den ρ)).l.set off (dec (a.den ρ))):=by simp only [iL,SE.den,jC.den,aC,D.n];rfl
    obtain⟨h1,h2,h3⟩:=JD (ρ:=ρ) h (by rw [hs,aA,aIO]; omega);rw [hs,aA,aIO] at h1;rw [hs] at h2 h3;simp only [aA] at h2 h3;rw [dI] at hc;refine⟨h1,fun _=>h2 trivial,fun j=>?_⟩;rcases h3 j with ⟨q1,q2⟩|⟨c',v',a',q1,q2,q3,q4,q5⟩
    ·by_cases hj:j=off
     ·subst hj;refine .inr ⟨c,v,a,aHh _,by simp,hc,ha,?_⟩;rw [q2,aJU (by omega)]
     ·refine .inl ⟨by simp only [aHq]; omega,?_⟩;rw [q2,List.getElem?_set_ne (fun q=>hj q.symm)]
    ·refine .inr ⟨c',v',a',by omega,?_,q3,q4,q5⟩;rw [show j-off=(j-(off+1))+1 by omega,aHp];exact q2
   ·simp at h
  ·simp at h
theorem dW.mk {ro:Nat->Prop} {h:Array Obj} {d:D}: ∀{cs:List CK} {j:Nat} {us:List Value},us.length=cs.length->(∀k c u,cs[k]?=some c->us[k]?=some u->lV ro h c (d.hd (j+k)) u)->dW ro h cs j d us
 |[],j,us,hl,_=>by simp only [dW];exact aH6 hl
 |c::cs,j,[],hl,_=>by simp at hl
 |c::cs,j,u::us,hl,hh=>by simp only [dW];refine⟨u,us,rfl,by simpa using hh 0 c u rfl rfl,dW.mk (by simpa using hl) fun k c' u' h1 h2=>?_⟩;have:=hh (k+1) c' u' (by simpa using h1) (by simpa using h2);rw [show j+1+k=j+(k+1) by omega];exact this
theorem abH {r:Row} {e e' i:SE} {off k:Nat} {vs:List AV} {x:D} (hc:VU r e i off vs=some e') (hi:i.den E.ρ=(k:Int)) (hx:(dec (e.den E.ρ)).l[k]?=some x) (hwf:wU r x) (hle:off+vs.length<=r.es) :
 ∃x',dec (e'.den E.ρ)=dL ((dec (e.den E.ρ)).l.set k x')/\wU r x'/\∀(h:Array Obj) (us':List Value),us'.length=r.es->(∀j v u,off<=j->vs[j-off]?=some v->us'[j]?=some u->VR E h v u)->
  (∀j a u,(j<off\/off+vs.length<=j)->(jP r (.op .at e i))[j]?=some a->us'[j]?=some u->VR E h a u)->Ep E.ro h r x' us':=by
 unfold VU at hc;split at hc
 ·rename_i c;split at hc
  ·split at hc
   ·rename_i v;split at hc
    ·rename_i a ha;simp only [aHe] at hc;subst hc;refine⟨dec (a.den E.ρ),?_,vP ha,?_⟩
     ·simp only [iL,SE.den,jC.den,aC,pU,D.n,hi,vY]
     ·intro h us' h1 h2 _
      cases us' with
      |nil=>simp [Row.es] at h1
      |cons y ys=>
       have:ys= []:=by
        cases ys with
        |nil=>rfl
        |cons z zs=>simp [Row.es] at h1
       subst this;exact⟨y,rfl,qQ (h2 0 v y (aHh _) rfl rfl) ha⟩
    ·simp at hc
   ·simp at hc
  ·simp at hc
 ·rename_i ks;split at hc
  ·rename_i x' hx';simp only [aHe] at hc;subst hc;have hat:=Ju E.ρ e i hi hx;obtain⟨w1,w2,w3⟩:=hwf;obtain⟨g1,g2,g3⟩:=JD (ρ:=E.ρ) hx' (by rw [hat,w2]; exact hle);rw [hat] at g1 g2 g3;refine⟨dec (x'.den E.ρ),?_,⟨g2 w1,by rw [g1,w2],?_⟩,?_⟩
   ·simp only [iL,SE.den,jC.den,aC,pU,D.n,hi,vY]
   ·intro j c y hj hy;rcases g3 j with ⟨_,q2⟩|⟨c',v',a',_,_,q3,q4,q5⟩
    ·exact w3 j c y hj (by rw [<- q2]; exact hy)
    ·rw [q5] at hy;rw [hj] at q3;simp only [aHe] at hy q3;subst hy q3;exact vP q4
   ·intro h us' h1 h2 h3;show dW E.ro h ks 0 (dec (x'.den E.ρ)) us';refine dW.mk h1 fun j c u hj hu=>?_;rw [aHn];rcases g3 j with ⟨q1,q2⟩|⟨c',v',a',q1,q2,q3,q4,q5⟩
    ·have p2:=h3 j (AP c (nR j (.op .at e i))) u q1 (by simp only [jP,Hz,hj,aHV,aHn]) hu;rw [vS,zQ,hat] at p2;have:(dec (x'.den E.ρ)).hd j=x.hd j:=by simp only [D.hd,q2]
     rw [this];exact p2
    ·rw [hj] at q3;simp only [aHe] at q3;subst q3;have:(dec (x'.den E.ρ)).hd j=dec (a'.den E.ρ):=by simp only [D.hd,q5,aHl]
     rw [this];exact qQ (h2 j v' u q1 q2 hu) q4
  ·simp at hc
theorem oC {ρ:Nat->Int} {r:Row} {ov wY:List (SE×List AV)}: ∀(ds:List D) (i:Nat),(∀j,i<=j->j<i+ds.length->dX ρ j ov=dX ρ j wY)->aK ρ r ov ds i=aK ρ r wY ds i
 |[],_,_=>rfl
 |d::ds,i,h=>by simp only [aK];rw [h i (aHh _) (by simp),oC ds (i+1) fun j h1 h2=>h j (by omega) (by simp only [aHq]; omega)]
theorem Nq {ρ:Nat->Int} {pc:List (SB×Bool)} (hp:bK ρ pc) {i:SE} {k:Nat} (hi:i.den ρ=(k:Int)) {cs':List AV} {r:Row} (hcs:cs'.length=r.es): ∀{ov wY:List (SE×List AV)},Rw pc i cs' ov=some wY->BR r ov->
 BR r wY/\dX ρ k wY=some cs'/\∀j:Nat,j≠k->dX ρ j wY=dX ρ j ov
 |[],wY,h,_=>by simp [Rw] at h
 |(j,c)::l,wY,h,ho=>by
  simp only [Rw] at h;split at h
  ·rename_i he;have he:=dD _ _ he;subst he;simp only [aHe] at h;subst h;refine⟨?_,by simp [dX,hi],?_⟩
   ·intro p hp';rcases aHm.1 hp' with rfl|hp'
    ·exact hcs
    ·exact ho p (by simp [hp'])
   ·intro m hm;simp only [dX,hi];rw [aHc (by omega),aHc (by omega)]
  ·split at h
   ·rename_i b hd;split at h
    ·have hd:=jL hp hd;rw [lM,beq_iff_eq,hi] at hd;simp only [aHe] at h;subst h;refine⟨?_,by simp [dX,hd],?_⟩
     ·intro p hp';rcases aHm.1 hp' with rfl|hp'
      ·exact hcs
      ·exact ho p (by simp [hp'])
     ·intro m hm;simp only [dX,<- hd];rw [aHc (by omega),aHc (by omega)]
    split at h
    ·rename_i l' hl;simp only [aHe] at h;subst h;have hd:=jL hp hd;rw [lM,beq_eq_false_iff_ne,hi] at hd;obtain⟨g1,g2,g3⟩:=Nq hp hi hcs hl fun p hp'=>ho p (by simp [hp']);refine⟨?_,?_,?_⟩
     ·intro p hp';rcases aHm.1 hp' with rfl|hp'
      ·exact ho _ (by simp)
      ·exact g1 p hp'
     ·simp only [dX];rw [aHc (fun q=>hd q.symm)];exact g2
     ·intro m hm;simp only [dX];split
      ·rfl
      ·exact g3 m hm
    ·simp at h
   ·simp at h
theorem TR {ρ:Nat->Int} {pc:List (SB×Bool)} (hp:bK ρ pc) {i:SE} {k:Nat} (hi:i.den ρ=(k:Int)): ∀{ov:List (SE×List AV)},Dk pc i ov=true->dX ρ k ov=none
 |[],_=>rfl
 |(j,c)::l,h=>by
  simp only [Dk] at h;split at h
  ·rename_i hd;have hd:=jL hp hd;rw [lM,beq_eq_false_iff_ne,hi] at hd;simp only [dX];rw [aHc (fun q=>hd q.symm)];exact TR hp hi h
  ·simp at h
theorem OR.congr {h:Array Obj} {id:Nat} {a b:List AV} {ty:TypeId} (ho:OR E h id (.cells a ty)) (hl:b.length=a.length) (hv: ∀us,bT E h a us->bT E h b us):OR E h id (.cells b ty):=by simp only [OR] at ho ⊢;obtain⟨arr,lo,hi,us,q1,q2,q3,q4,q5,q6,q7⟩:=ho;exact⟨arr,lo,hi,us,q1,hv us q2,q3,by rw [hl]; exact q4,q5,q6,q7⟩
set_option maxHeartbeats 800000 in
theorem XP [Glob] {E1:En} {tt:TT} (htt:fE P tt) {s s':St} (r1:bG E1 s.h w) (hp:bK E1.ρ s.pc) {ty id es:Nat} {i:SE} {off:Nat} {one:Bool} {vs:List AV} {v':AV} {u x:Value} (hx:VR E1 w.heap (.qV id es i off) u)
 (hcv:one=true->bT E1 w.heap vs x.cells.toList/\∀u∈x.cells.toList,u.oneCell'=true) (h:(OA tt s ty id es i off one vs).leaf E1.ρ=some (v',s')) :
 s'.slots=s.slots/\bK E1.ρ s'.pc/\v'=AV.undef/\∃w' E',(Instr.storeAt ty u x).run P w= .ok () w'/\Stp E1 s.h w E' s'.h w'/\bG E' s'.h w':=by
 unfold OA at h;split at h
 ·rename_i o hl;split at h
  ·rename_i e t Iu ov;split at h
   ·rename_i ti hti;split at h
    ·rename_i hcond;obtain⟨hes,hvl,hone⟩:=hcond;obtain⟨pc0,hp0,t1,t2,h3⟩:=sQ hp h;obtain⟨pc',hp',h3⟩:=Dw (s:={ s with pc:=pc0 }) hp0 h3;split at h3
     ·rename_i cs hc;split at h3
      ·rename_i cs' hs;obtain⟨hvs,aoF⟩:=hcv hone;have hx1:=hx;simp only [VR] at hx1;obtain⟨hid,k,hk,rfl⟩:=hx1;obtain⟨rc,ho,hwf⟩:=r1.vG hl;rw [bW] at t2;have hlt:k<(dec (e.den E1.ρ)).l.length:=by omega
       have hd:(dec (e.den E1.ρ)).l[k]?=some (dec (e.den E1.ρ)).l[k]:=aHu hlt;generalize hxk:(dec (e.den E1.ρ)).l[k]=xk at hd;obtain⟨c1,c2⟩:=lY (ρ:=E1.ρ) ho (j:=0) hd;rw [aHn] at c1;generalize hpre:aK E1.ρ (rowOf t) ov ((dec (e.den E1.ρ)).l.take k) 0=pre at c1 c2;generalize hpost:aK E1.ρ (rowOf t) ov ((dec (e.den E1.ρ)).l.drop (k+1)) (k+1)=post at c1
       have hrow:(∀h us,bT E1 h (match dX E1.ρ k ov with |some cs=>cs|none=>jP (rowOf t) (.dat xk)) us↔bT E1 h cs us)/\cs.length=(rowOf t).es:=by
        rcases tV hp' hk hc with g|⟨g,rfl⟩
        ·rw [g];obtain⟨p,p1,p2,_⟩:=oK g;have:=ho p p1;rw [p2] at this;exact⟨fun _ _=>Iff.rfl,this⟩
        ·rw [g];refine⟨fun h us=>ET ?_,jV _ _⟩;rw [Ju E1.ρ e i hk hd];simp only [SE.den,aC]
       obtain⟨hrv,hcl⟩:=hrow;have hcl':cs'.length=(rowOf t).es:=by rw [pR hs,hcl]
       have hor:OR E1 w.heap id (.cells (pre++(cs++post)) Iu):=by
        have:=(rc.live id _ (by rw [Hp.get_put,aHd rfl])).2.1;unfold bV at this;rw [c1] at this;refine OR.congr this ?_ ?_
        ·simp only [aHC,hcl];congr 2;split
         ·rename_i cs0 h0;obtain⟨p,p1,p2,_⟩:=oK h0;have:=ho p p1;rw [p2] at this;exact this.symm
         ·rw [jV]
        ·intro us q2;obtain⟨a,b,rfl,a1,a2⟩:=q2.split;obtain⟨a',b',rfl,b1,b2⟩:=a2.split;exact a1.append (((hrv _ _).1 b1).append b2)
       have r2:=r1.swap (H2:=s.h.put id (.cells (pre++(cs++post)) Iu)) hl hor (by rw [Hp.get_put,aHd rfl]) (fun j hj=>by rw [Hp.get_put,aHc hj]) rfl rfl
       have hs2:splice (pre++(cs++post)) (k*es+off) vs=some (pre++(cs'++post)):=by rw [<- hes,<- c2];exact zM pre (tN post hs)
       obtain⟨w',g1,g2,g3⟩:=qE (P:=P) r2 (by rw [Hp.get_put,aHd rfl]) hs2 hvs aoF;have hlen:x.cells.size=ti.size:=by have:=hvs.length; simp only [aHL] at this; omega
       have hrun:(Instr.storeAt ty (.pointer (some ⟨(E1.θ id).1,(E1.θ id).2+(k*es+off),none⟩)) x).run P w= .ok () w':=by simp [Instr.storeAt,Instr.sureAddr,storeVar,eU (htt ty ti hti),hlen,g1]
       have fin: ∀(o':eP),OR E1 w'.heap id o'->∃w' E',(Instr.storeAt ty (.pointer (some ⟨(E1.θ id).1,(E1.θ id).2+(k*es+off),none⟩)) x).run P w= .ok () w'/\Stp E1 s.h w E' (s.h.put id o') w'/\bG E' (s.h.put id o') w':=by
        intro o' ho';have al1:QB (s.h.put id (.cells (pre++(cs++post)) Iu)) s.h:=(QB.put hl).symm
        have al2:QB ((s.h.put id (.cells (pre++(cs++post)) Iu)).put id (.cells (pre++(cs'++post)) Iu)) (s.h.put id o'):=by
         refine⟨fun j y hj=>?_,fun j y hj=>?_,rfl,rfl⟩
         ·rw [Hp.get_put];split
          ·exact⟨o',rfl⟩
          ·rename_i hne;rw [Hp.get_put,aHc hne,Hp.get_put,aHc hne] at hj;exact⟨y,hj⟩
         ·rw [Hp.get_put] at hj ⊢;split
          ·exact⟨_,rfl⟩
          ·rename_i hne;rw [aHc hne] at hj;rw [Hp.get_put,aHc hne];exact⟨y,hj⟩
        refine⟨w',E1,hrun,(g2.left al1).right al2,?_⟩;exact g3.swap (id:=id) (by rw [Hp.get_put,aHd rfl]) ho' (by rw [Hp.get_put,aHd rfl]) (fun j hj=>by rw [Hp.get_put,aHc hj,Hp.get_put,aHc hj,Hp.get_put,aHc hj]) rfl rfl
       have hcells:=(g3.live id _ (by rw [Hp.get_put,aHd rfl])).2.1
       have apart: ∀wY:List (SE×List AV),BR (rowOf t) wY->dX E1.ρ k wY=some cs'->(∀j:Nat,j≠k->dX E1.ρ j wY=dX E1.ρ j ov)->OR E1 w'.heap id (.vec e t Iu wY):=by
        intro wY q1 q2 q3;refine OR.vG.2 ⟨⟨q1,hwf⟩,?_⟩
        have:bV E1.ρ e t wY=pre++(cs'++post):=by
         unfold bV;obtain⟨d1,_⟩:=lY (ρ:=E1.ρ) q1 (j:=0) hd;rw [aHn,q2] at d1;rw [d1,<- hpre,<- hpost];congr 1
         ·refine oC _ _ fun j _ hj=>q3 j ?_;rw [aHr] at hj;omega
         ·congr 1;exact oC _ _ fun j hj _=>q3 j (by omega)
        rw [this];exact hcells
       split at h3
       ·rename_i wY hov;have:=aF h3;simp only [aHf] at this;obtain⟨rfl,rfl⟩:=this;refine⟨rfl,hp',rfl,?_⟩;obtain⟨q1,q2,q3⟩:=Nq hp' hk hcl' hov ho;exact fin _ (apart wY q1 q2 q3)
       ·split at h3
        ·rename_i habs;have hnone:=TR hp' hk habs;split at h3
         ·rename_i e' hset;have:=aF h3;simp only [aHf] at this;obtain⟨rfl,rfl⟩:=this;refine⟨rfl,hp',rfl,fin _ ?_⟩;have hxm:xk∈(dec (e.den E1.ρ)).l:=aHK hd
          have hle:off+vs.length<=(rowOf t).es:=by
           rw [<- hcl];rcases aIt vs.length with hz|hz
           ·have aEM:=aH6 hz;subst aEM
            have: ∀(l c:List AV) (o:Nat),splice c o []=some l->o<=c.length:=by
             intro l c
             induction c generalizing l with
             |nil=>intro o ho; cases o with |zero=>exact aIz _|succ o=>simp [splice] at ho
             |cons a c ih=>
              intro o ho
              cases o with
              |zero=>exact aIz _
              |succ o=>
               simp only [splice] at ho;split at ho
               ·rename_i l' hl';have:=ih l' o hl';simp; omega
               ·simp at ho
            have:=this _ _ _ hs;simpa using this
           ·have:=yH hs (off+vs.length-1);rw [aHd (by omega)] at this
            have hsome:(vs[off+vs.length-1-off]?).isSome=true:=by rw [aHu (by omega)]; rfl
            rw [<- this] at hsome;obtain⟨y,hy⟩:=aIu.1 hsome;have:=(aHB.1 hy).1;rw [pR hs] at this;omega
          obtain⟨x',z1,z2,z3⟩:=abH hset hk hd (hwf.2.1 xk hxm) hle;refine OR.vG.2 ⟨⟨ho,?_⟩,?_⟩
          ·rw [z1];refine⟨by rw [aA],fun y hy=>?_,by rw [aA]; intro q; have:=congrArg List.length q; simp at this; exact hwf.2.2 this⟩;rw [aA] at hy;rcases aJV hy with hy|rfl
           ·exact hwf.2.1 y hy
           ·exact z2
          ·have hd':(dec (e'.den E1.ρ)).l[k]?=some x':=by
            rw [z1,aA,aJU hlt]
           obtain⟨d1,d2⟩:=lY (ρ:=E1.ρ) ho (j:=0) hd';rw [aHn,hnone] at d1
           have aeV:bV E1.ρ e' t ov=pre++(jP (rowOf t) (.dat x')++post):=by
            unfold bV;rw [d1,<- hpre,<- hpost,z1,aA];congr 1
            ·rw [aJH (aHh _)]
            ·congr 1;rw [aJI (by omega)]
           rw [aeV];refine OR.congr hcells (by simp only [aHC,jV,hcl']) fun us q2=>?_;obtain⟨a,b,rfl,a1,a2⟩:=q2.split;obtain⟨a',b',rfl,b1,b2⟩:=a2.split;refine a1.append (bT.append ?_ b2);rw [iO];simp only [SE.den,aC]
           have aEW:cs=jP (rowOf t) (.op .at e i):=by
            rcases tV hp' hk hc with g|⟨g,g'⟩
            ·rw [hnone] at g; simp at g
            ·exact g'
           refine z3 _ a' (by rw [b1.length,hcl']) ?_ ?_
           ·intro j vj uj hj1 hj2 hj3;have hjl:=(aHB.1 hj2).1;have:=yH hs j;rw [aHd (by omega),hj2] at this;obtain⟨y,y1,y2⟩:=b1.nth (by rw [dI]; exact this);rw [hj3] at y1;simp only [aHe] at y1;subst y1;exact y2
           ·intro j aj uj hj1 hj2 hj3;have:=yH hs j;rw [aHc (by omega),aEW,hj2] at this;obtain⟨y,y1,y2⟩:=b1.nth (by rw [dI]; exact this);rw [hj3] at y1;simp only [aHe] at y1;subst y1;exact y2
         ·have:=aF h3;simp only [aHf] at this;obtain⟨rfl,rfl⟩:=this;refine⟨rfl,hp',rfl,fin _ (apart _ ?_ ?_ ?_)⟩
          ·intro p hp';rcases aHm.1 hp' with rfl|hp'
           ·exact hcl'
           ·exact ho p hp'
          ·simp only [dX];rw [aHd hk]
          ·intro j hj;simp only [dX];rw [aHc (by omega)]
        ·simp [T.leaf] at h3
      ·simp [T.leaf] at h3
     ·simp [T.leaf] at h3
    ·simp [T.leaf] at h
   ·simp [T.leaf] at h
  ·simp [T.leaf] at h
 ·simp [T.leaf] at h
theorem avT {E1:En} {h:Array Obj} {c:CK} {v:AV} {u:Value} (hv:VR E1 h v u):VR E1 h (aCe c v) u:=by
 unfold aCe;split
 ·split
  ·simp only [VR] at hv ⊢;subst hv;exact⟨⟨none,rfl⟩,by simp only [SE.den,aC]; exact .nil _⟩
  ·split
   ·split
    ·split
     ·simp only [VR] at hv ⊢;obtain⟨_,a,cap,rfl,_,hc⟩:=hv;simp only [gJ] at hc;obtain⟨rfl,_⟩:=hc;exact⟨⟨some a,rfl⟩,by simp only [SE.den,aC]; exact .non _ _ _⟩
     ·exact hv
    ·exact hv
   ·exact hv
  ·exact hv
 ·exact hv
theorem SV {E1:En} {h:Array Obj}: ∀(cs:List CK) {vs:List AV} {us:List Value},bT E1 h vs us->bT E1 h (XJ cs vs) us
 |[],vs,us,hv=>hv
 |_::_,[],us,hv=>hv
 |c::cs,v::vs,us,hv=>by rw [bC] at hv;obtain⟨u,us',rfl,h1,h2⟩:=hv;simp only [XJ];rw [bC];exact⟨u,us',rfl,avT h1,SV cs h2⟩
set_option maxHeartbeats 800000 in
theorem XO [Glob] {E1:En} {tt:TT} (htt:fE P tt) {s s':St} (r1:bG E1 s.h w) (hp:bK E1.ρ s.pc) {ty id es:Nat} {i j0:SE} {off:Nat} {one:Bool} {vs:List AV} {v':AV} {u x:Value} (hx:VR E1 w.heap (.qV id es i off) u)
 (hcv:one=true->bT E1 w.heap vs x.cells.toList/\∀u∈x.cells.toList,u.oneCell'=true) (h:(Oz tt s ty id es i j0 off one vs).leaf E1.ρ=some (v',s')) :
 s'.slots=s.slots/\bK E1.ρ s'.pc/\v'=AV.undef/\∃w' E',(Instr.storeAt ty u x).run P w= .ok () w'/\Stp E1 s.h w E' s'.h w'/\bG E' s'.h w':=by
 unfold Oz at h;split at h
 ·rename_i o hl;split at h
  ·rename_i e t Iu ov;split at h
   ·rename_i ti hti;split at h
    ·rename_i hcond;obtain⟨hes,hvl,hone⟩:=hcond;obtain⟨pc0,hp0,t1,t2,h3⟩:=sQ hp h;obtain⟨pc',hp',h3⟩:=Dw (s:={ s with pc:=pc0 }) hp0 h3;split at h3
     ·rename_i hdb;have hij:=jL hp' hdb;split at h3
      ·rename_i cs hc;split at h3
       ·rename_i cs' hs;obtain⟨aEL,aoF⟩:=hcv hone;have hvs:=SV ((Zt (rowOf t)).drop off) aEL;have hx1:=hx;simp only [VR] at hx1;obtain⟨hid,k,hk,rfl⟩:=hx1;simp only [SB.den,beq_iff_eq] at hij;have hk2:j0.den E1.ρ=(k:Int):=by rw [<- hij]; exact hk
        obtain⟨rc,ho,hwf⟩:=r1.vG hl;rw [bW] at t2;have hlt:k<(dec (e.den E1.ρ)).l.length:=by omega
        have hd:(dec (e.den E1.ρ)).l[k]?=some (dec (e.den E1.ρ)).l[k]:=aHu hlt;generalize hxk:(dec (e.den E1.ρ)).l[k]=xk at hd;obtain⟨c1,c2⟩:=lY (ρ:=E1.ρ) ho (j:=0) hd;rw [aHn] at c1;generalize hpre:aK E1.ρ (rowOf t) ov ((dec (e.den E1.ρ)).l.take k) 0=pre at c1 c2;generalize hpost:aK E1.ρ (rowOf t) ov ((dec (e.den E1.ρ)).l.drop (k+1)) (k+1)=post at c1
        have hrow:(∀h us,bT E1 h (match dX E1.ρ k ov with |some cs=>cs|none=>jP (rowOf t) (.dat xk)) us↔bT E1 h cs us)/\cs.length=(rowOf t).es:=by
         rcases tV hp' hk2 hc with g|⟨g,rfl⟩
         ·rw [g];obtain⟨p,p1,p2,_⟩:=oK g;have:=ho p p1;rw [p2] at this;exact⟨fun _ _=>Iff.rfl,this⟩
         ·rw [g];refine⟨fun h us=>ET ?_,jV _ _⟩;rw [Ju E1.ρ e j0 hk2 hd];simp only [SE.den,aC]
        obtain⟨hrv,hcl⟩:=hrow;have hcl':cs'.length=(rowOf t).es:=by rw [pR hs,hcl]
        have hor:OR E1 w.heap id (.cells (pre++(cs++post)) Iu):=by
         have:=(rc.live id _ (by rw [Hp.get_put,aHd rfl])).2.1;unfold bV at this;rw [c1] at this;refine OR.congr this ?_ ?_
         ·simp only [aHC,hcl];congr 2;split
          ·rename_i cs0 h0;obtain⟨p,p1,p2,_⟩:=oK h0;have:=ho p p1;rw [p2] at this;exact this.symm
          ·rw [jV]
         ·intro us q2;obtain⟨a,b,rfl,a1,a2⟩:=q2.split;obtain⟨a',b',rfl,b1,b2⟩:=a2.split;exact a1.append (((hrv _ _).1 b1).append b2)
        have r2:=r1.swap (H2:=s.h.put id (.cells (pre++(cs++post)) Iu)) hl hor (by rw [Hp.get_put,aHd rfl]) (fun j hj=>by rw [Hp.get_put,aHc hj]) rfl rfl
        have hs2:splice (pre++(cs++post)) (k*es+off) (XJ ((Zt (rowOf t)).drop off) vs)=some (pre++(cs'++post)):=by rw [<- hes,<- c2];exact zM pre (tN post hs)
        obtain⟨w',g1,g2,g3⟩:=qE (P:=P) r2 (by rw [Hp.get_put,aHd rfl]) hs2 hvs aoF;have hlen:x.cells.size=ti.size:=by have:=aEL.length; simp only [aHL] at this; omega
        have hrun:(Instr.storeAt ty (.pointer (some ⟨(E1.θ id).1,(E1.θ id).2+(k*es+off),none⟩)) x).run P w= .ok () w':=by simp [Instr.storeAt,Instr.sureAddr,storeVar,eU (htt ty ti hti),hlen,g1]
        have fin: ∀(o':eP),OR E1 w'.heap id o'->∃w' E',(Instr.storeAt ty (.pointer (some ⟨(E1.θ id).1,(E1.θ id).2+(k*es+off),none⟩)) x).run P w= .ok () w'/\Stp E1 s.h w E' (s.h.put id o') w'/\bG E' (s.h.put id o') w':=by
         intro o' ho';have al1:QB (s.h.put id (.cells (pre++(cs++post)) Iu)) s.h:=(QB.put hl).symm
         have al2:QB ((s.h.put id (.cells (pre++(cs++post)) Iu)).put id (.cells (pre++(cs'++post)) Iu)) (s.h.put id o'):=by
          refine⟨fun j y hj=>?_,fun j y hj=>?_,rfl,rfl⟩
          ·rw [Hp.get_put];split
           ·exact⟨o',rfl⟩
           ·rename_i hne;rw [Hp.get_put,aHc hne,Hp.get_put,aHc hne] at hj;exact⟨y,hj⟩
          ·rw [Hp.get_put] at hj ⊢;split
           ·exact⟨_,rfl⟩
           ·rename_i hne;rw [aHc hne] at hj;rw [Hp.get_put,aHc hne];exact⟨y,hj⟩
         refine⟨w',E1,hrun,(g2.left al1).right al2,?_⟩;exact g3.swap (id:=id) (by rw [Hp.get_put,aHd rfl]) ho' (by rw [Hp.get_put,aHd rfl]) (fun j hj=>by rw [Hp.get_put,aHc hj,Hp.get_put,aHc hj,Hp.get_put,aHc hj]) rfl rfl
        have hcells:=(g3.live id _ (by rw [Hp.get_put,aHd rfl])).2.1
        have apart: ∀wY:List (SE×List AV),BR (rowOf t) wY->dX E1.ρ k wY=some cs'->(∀j:Nat,j≠k->dX E1.ρ j wY=dX E1.ρ j ov)->OR E1 w'.heap id (.vec e t Iu wY):=by
         intro wY q1 q2 q3;refine OR.vG.2 ⟨⟨q1,hwf⟩,?_⟩
         have:bV E1.ρ e t wY=pre++(cs'++post):=by
          unfold bV;obtain⟨d1,_⟩:=lY (ρ:=E1.ρ) q1 (j:=0) hd;rw [aHn,q2] at d1;rw [d1,<- hpre,<- hpost];congr 1
          ·refine oC _ _ fun j _ hj=>q3 j ?_;rw [aHr] at hj;omega
          ·congr 1;exact oC _ _ fun j hj _=>q3 j (by omega)
         rw [this];exact hcells
        split at h3
        ·rename_i wY hov;have:=aF h3;simp only [aHf] at this;obtain⟨rfl,rfl⟩:=this;refine⟨rfl,hp',rfl,?_⟩;obtain⟨q1,q2,q3⟩:=Nq hp' hk2 hcl' hov ho;exact fin _ (apart wY q1 q2 q3)
        ·split at h3
         ·rename_i habs;have:=aF h3;simp only [aHf] at this;obtain⟨rfl,rfl⟩:=this;refine⟨rfl,hp',rfl,fin _ (apart _ ?_ ?_ ?_)⟩
          ·intro p hp';rcases aHm.1 hp' with rfl|hp'
           ·exact hcl'
           ·exact ho p hp'
          ·simp only [dX];rw [aHd hk2]
          ·intro j hj;simp only [dX];rw [aHc (by omega)]
         ·simp [T.leaf] at h3
       ·simp [T.leaf] at h3
      ·simp [T.leaf] at h3
     ·simp [T.leaf] at h3
    ·simp [T.leaf] at h
   ·simp [T.leaf] at h
  ·simp [T.leaf] at h
 ·simp [T.leaf] at h
theorem XQ [Glob] {tt:TT} (htt:fE P tt) {s s':St} (r:bG E s.h w) (hp:bK E.ρ s.pc) {ty id es:Nat} {i:SE} {off:Nat} {v v':AV} {u x:Value} (hx:VR E w.heap (.qV id es i off) u) (hv:VR E w.heap v x) (h:(OB tt s ty id es i off v).leaf E.ρ=some (v',s')) :
 s'.slots=s.slots/\bK E.ρ s'.pc/\v'=AV.undef/\∃w' E',(Instr.storeAt ty u x).run P w= .ok () w'/\Stp E s.h w E' s'.h w'/\bG E' s'.h w':=by
 unfold OB at h;split at h
 ·exact XO htt r hp hx (fun hone=> ⟨hv.cells hone,(hv.cells hone).ones hone⟩) h
 ·obtain⟨vs,h1,pc1,E1,hp1,f,q,g⟩:=wE rfl r hp h;have hρ:=f.ρ;rw [<- hρ] at hp1 g;obtain⟨a1,a2,a3,w',E',a4,a5,a6⟩:=XP htt (s:={ s with h:=h1,pc:=pc1 }) f.rel hp1 (VR.keep (f.fD.keeps r) _ _ hx) (fun hone=> ⟨q _ (hv.cells hone),(hv.cells hone).ones hone⟩) g;exact⟨a1,by rw [<- hρ]; exact a2,a3,w',E',a4,f.fD.trans a5,a6⟩
end
section
variable {P:Program} {E:En} {w:World}
theorem Ep.length {ro:Nat->Prop} {h:Array Obj} {r:Row} {d:D} {us:List Value} (hh:Ep ro h r d us):us.length=r.es:=by
 cases r with
 |one c=>obtain⟨u,rfl,_⟩:=hh; rfl
 |many cs=>exact dW.length hh
theorem iT.append {h:Array Obj} {b o:Nat} {us vs:List Value} (h1:iT h b o us) (h2:iT h b (o+us.length) vs):iT h b o (us++vs):=by
 intro i u hi;rw [aJx] at hi;split at hi
 ·exact h1 i u hi
 ·rename_i hlt;have:=h2 _ u hi;rw [show o+us.length+(i-us.length)=o+i by omega] at this;exact this
theorem MS {ro:Nat->Prop} (hro:ro=E.ro) {h:Array Obj} {r:Row} {b o:Nat}: ∀(L:List D) (j:Nat),(∀i x,L[i]?=some x->∃us,Ep ro h r x us/\iT h b (o+(j+i)*r.es) us)->
 ∃us,bT E h (aK E.ρ r [] L j) us/\iT h b (o+j*r.es) us/\us.length=L.length*r.es/\∀u∈us,u.oneCell'=true
 |[],j,_=> ⟨[],by simp [aK,bT],fun i u hi=>by simp at hi,by simp,by simp⟩
 |d::L,j,hh=>by
  subst hro;obtain⟨a,a1,a2⟩:=hh 0 d rfl
  obtain⟨b',b1,b2,b3,b4⟩:=MS rfl L (j+1) fun i x hi=>by have:=hh (i+1) x (by simpa using hi);rw [show j+(i+1)=j+1+i by omega] at this;exact this
  have hal:=a1.length;refine⟨a++b',?_,?_,?_,?_⟩
  ·simp only [aK,dX];refine bT.append ?_ b1;rw [iO];simpa only [SE.den,aC] using a1
  ·rw [aHJ] at a2;refine a2.append ?_;rw [hal,show o+j*r.es+r.es=o+(j+1)*r.es by rw [aIa]; omega];exact b2
  ·rw [aHC,hal,b3,aHq,aIa]; omega
  ·intro u hu;rcases aH1.1 hu with hu|hu
   ·exact a1.ones u hu
   ·exact b4 u hu
theorem axM {t:Nat} {d:D} {u:Value} (hr:Rd E.ro w.heap (.sl t) d u) (hne:d.l≠[]): ∃us,Src P E w (rowOf t).es d.l.length (aK E.ρ (rowOf t) [] d.l 0) u us:=by
 obtain⟨x,hx⟩ : ∃x,d.l[0]?=some x:=by
  cases h:d.l with
  |nil=>exact absurd h hne
  |cons a l=>exact⟨a,rfl⟩
 obtain⟨b,o,cap,us0,rfl,hb,_,_⟩:=hr.row hx
 obtain⟨us,h1,h2,h3,h4⟩:=MS (E:=E) (ro:=E.ro) rfl (h:=w.heap) (r:=rowOf t) (b:=b) (o:=o) d.l 0 fun i x hi=>by obtain⟨b',o',cap',us',he,_,g1,g2⟩:=hr.row hi;simp only [Value.slice.injEq,aHe,Addr.mk.injEq] at he;obtain⟨⟨rfl,rfl,_⟩,_,_⟩:=he;exact⟨us',g1,by rw [aHn]; exact g2⟩
 rw [aH7,aHJ] at h2;exact⟨us.toArray,fun _=>rfl,fun w2 hw=>by simp only [Builtin.firstCells]; exact h2.loads h3 w2 hw,by simpa using h1,by simpa using h3,by simpa using h4⟩
structure Grown (ρ:Nat->Int) (r:Row) (e0 e1:SE) (ds:List D) (news:List AV):Prop where
 l:(dec (e1.den ρ)).l=(dec (e0.den ρ)).l++ds
 wf:dec (e1.den ρ)=dL (dec (e1.den ρ)).l
 rows: ∀d∈ds,wU r d
 vr: ∀(E':En) (h:Array Obj) (us:List Value) (j:Nat),E'.ρ=ρ->bT E' h news us->bT E' h (aK ρ r [] ds j) us
theorem nV (r:Row):BR r []:=fun p hp=>by simp at hp
theorem Le [Glob] {E':En} {H0:Hp} {w':World} {cells:List AV} {e:TypeId} {e1:SE} {t:Nat} (r:bG E' (H0.new (.cells cells e)) w') (hwf:Dl (rowOf t) (dec (e1.den E'.ρ))) (hl:(bV E'.ρ e1 t []).length=cells.length)
 (hv: ∀us,bT E' w'.heap cells us->bT E' w'.heap (bV E'.ρ e1 t []) us):bG E' (H0.new (.vec e1 t e [])) w':=by
 have hg:(H0.new (.cells cells e)).get H0.fresh=some (.cells cells e):=by rw [Hp.jB,aHd rfl]
 refine r.swap hg (OR.vG.2 ⟨⟨nV _,hwf⟩,OR.congr (r.live _ _ hg).2.1 hl hv⟩) (by rw [Hp.jB,aHd rfl]) (fun j hj=>by rw [Hp.jB,aHc hj,Hp.jB,aHc hj]) ?_ ?_
 ·unfold Hp.new; split<;>rfl
 ·unfold Hp.new; split<;>rfl
theorem DR {H0 H1:Hp} {o o':eP} (hn:H1.next=H0.next) (hr:H1.res=H0.res) (hg: ∀j,(H0.get j).isSome=(H1.get j).isSome):QB (H0.new o) (H1.new o'):=by
 have hf:H1.fresh=H0.fresh:=by unfold Hp.fresh; rw [hn,hr]
 have key: ∀{A B:Option eP} {x:eP},A.isSome=B.isSome->A=some x->∃y,B=some y:=by intro A B x h1 h2;rw [h2] at h1;exact aIu.1 h1.symm
 refine⟨fun j x hj=>?_,fun j x hj=>?_,?_,?_⟩
 ·rw [Hp.jB] at hj ⊢;rw [hf];split
  ·exact⟨o',rfl⟩
  ·rename_i hne;rw [aHc hne] at hj;exact key (hg j) hj
 ·rw [Hp.jB] at hj ⊢;rw [hf] at hj;split
  ·exact⟨o,rfl⟩
  ·rename_i hne;rw [aHc hne] at hj;exact key (hg j).symm hj
 ·unfold Hp.new;rw [hr];split<;>simp [hn]
 ·unfold Hp.new;rw [hr];split<;>simp
set_option maxHeartbeats 800000 in
theorem FK [Glob] {t t2 ty:Nat} {H h0:Hp} (r:bG E H w) {ie:TI} {e m:Nat} {own:Option Nat} {news:List AV} {x:AV} {d2:TypeDesc} {u u2:Value} {us:Array Value} (hte:rQ P e ie)
 (ht:P.underlying t=some (.slice e)) (ht2:P.underlying t2=some d2) (hd2: ∀k,d2≠.int k) (hs0:ie.size≠0) (hb0:ie.bytes≠0) (hzl:ie.zero.length=ie.size) (hb4:ie.bytes<=400)
 (src:Src P E w ie.size m news u2 us) (hm:0<m) (hx:VR E w.heap x u) {e0 e1:SE} {t':Nat} (hb:wP e own x H=some (e0,t',h0)) (hes:(rowOf t').es=ie.size) {ds:List D} (g:Grown E.ρ (rowOf t') e0 e1 ds news) (hds:ds.length=m)
 (hlim:((dec (e0.den E.ρ)).l.length+m)*ie.bytes<=140737488355328) :
 ∃y w' E',(Builtin.append_ #[t,t2] ty #[u,u2]).run P w= .ok y w'/\Stp E H w E' (h0.new (.vec e1 t' e [])) w'/\bG E' (h0.new (.vec e1 t' e [])) w'/\VR E' w'.heap (.sN h0.fresh (dY e1) t') y:=by
 have hbound: ∀k,k<=(dec (e0.den E.ρ)).l.length->(k+m)*ie.bytes<=140737488355328:=by intro k hk;exact aHP (aIA _ (by omega)) hlim
 have hnl:news.length=m*ie.size:=by have h1:=src.vrs.length;have h2:=src.size;simp only [aHL] at h1;omega
 have fresh0: ∀(a:Option Addr),u= .slice a 0 0->h0=H->(dec (e0.den E.ρ)).l= []->
  ∃y w' E',(Builtin.append_ #[t,t2] ty #[u,u2]).run P w= .ok y w'/\Stp E H w E' (h0.new (.vec e1 t' e [])) w'/\bG E' (h0.new (.vec e1 t' e [])) w'/\VR E' w'.heap (.sN h0.fresh (dY e1) t') y:=by
  intro a hu he hnil;subst hu he
  have hgl:sF ie e 0 m news h0=some (.slice h0.fresh 0 (0+m) (.rest ie.size),h0.new (.cells news e)):=by unfold sF;rw [aHd (hbound 0 (by omega))]
  obtain⟨y,w',E',p1,p2,p3,p4⟩:=vM (t:=t) (t2:=t2) (ty:=ty) (cap:=0) r hte ht ht2 hd2 hb0 hzl src (by omega) a (old:=[]) (olds:=#[]) (cs:=news) (by simp) (by simp [bT]) (by simp) (by simp)
   (fun w2 _=>by
    cases a with
    |none=>simp [Builtin.firstCells]
    |some a=>simp only [Builtin.firstCells,aH7]; rfl) hgl
  have hρ:=p2.ρ;have hl1:(dec (e1.den E'.ρ)).l=ds:=by rw [hρ,g.l,hnil,aHx]
  have hwf:Dl (rowOf t') (dec (e1.den E'.ρ)):=by refine⟨by rw [hρ]; exact g.wf,fun d hd=>?_,by rw [hl1]; intro q; rw [q] at hds; simp at hds; omega⟩;rw [hl1] at hd;exact g.rows d hd
  refine⟨y,w',E',p1,p2.right (DR rfl rfl fun _=>rfl),Le p3 hwf ?_ ?_,?_⟩
  ·unfold bV;rw [bP (nV _),hl1,hds,hes,hnl]
  ·intro us' hus;unfold bV;rw [hl1,hρ];exact g.vr E' w'.heap us' 0 hρ hus
  ·simp only [VR] at p4 ⊢;obtain⟨q1,a',cap',q2,q3,q4⟩:=p4;refine⟨q1,0+m,a',cap',?_,q2,q3,?_⟩
   ·rw [bW,hl1,hds,aHn]
   ·rw [hes]; exact q4
 unfold wP at hb;split at hb
 ·rename_i id n t0;split at hb
  ·rename_i o hl;split at hb
   ·rename_i Hg t00 zC ov;split at hb
    ·split at hb
     ·rename_i ht0;split at hb
      ·rename_i hty;split at hb
       ·rename_i hn;simp only [aHe,aHf] at hb;obtain⟨rfl,rfl,rfl⟩:=hb;have ht0:=aHj ht0;have hty:=aHj hty;have hn:=dD _ _ hn;subst ht0 hty hn;obtain⟨r2,_,aB5⟩:=r.vG hl;simp only [VR] at hx;obtain⟨hid,k,a,cap,hk,rfl,hkc,hcap⟩:=hx;rw [bW] at hk;have hk:k=(dec (Hg.den E.ρ)).l.length:=by omega
        have hx2:VR E w.heap (.slice id 0 k (.rest ie.size)) (.slice (some a) k cap):=by simp only [VR];exact⟨hid,a,cap,rfl,hkc,by rw [<- hes]; exact hcap⟩
        have hcl:(bV E.ρ Hg t0 []).length=k*ie.size:=by unfold bV;rw [bP (nV _),hes,hk]
        have aER:0<m*ie.size:=aIV hm (by omega)
        have happ:wR ie zC m news (.slice id 0 k (.rest ie.size)) (H.put id (.cells (bV E.ρ Hg t0 []) zC)) =
         some (.slice H.fresh 0 (k+m) (.rest ie.size),((H.put id (.cells (bV E.ρ Hg t0 []) zC)).drop id).new (.cells (bV E.ρ Hg t0 []++news) zC)):=by
         unfold wR;simp only [if_true];rw [Hp.get_put,aHd rfl];simp only;rw [aHc (by rw [hcl,aIa]; omega),aHd ⟨by omega,trivial⟩];simp only [fZ];unfold sF;rw [aHd (hbound k (by omega))];rfl
        obtain⟨y,w',E',p1,p2,p3,p4⟩:=Dh (t:=t) (t2:=t2) (ty:=ty) r2 hte ht ht2 hd2 hs0 hb0 hzl src hx2 happ;have hρ:=p2.ρ;have hl1:(dec (e1.den E'.ρ)).l=(dec (Hg.den E.ρ)).l++ds:=by rw [hρ,g.l]
        have hwf:Dl (rowOf t0) (dec (e1.den E'.ρ)):=by
         refine⟨by rw [hρ]; exact g.wf,fun d hd=>?_,by rw [hl1]; intro q; have:=congrArg List.length q; simp at this; rw [this.2] at hds; simp at hds; omega⟩;rw [hl1] at hd;rcases aH1.1 hd with hd|hd
         ·exact aB5.2.1 d hd
         ·exact g.rows d hd
        have aeV:bV E'.ρ e1 t0 []=bV E.ρ Hg t0 []++aK E.ρ (rowOf t0) [] ds (0+(dec (Hg.den E.ρ)).l.length):=by unfold bV;rw [hl1,hρ,qB]
        have hdrop: ∀j,(((H.put id (.cells (bV E.ρ Hg t0 []) zC)).drop id).get j)=(H.drop id).get j:=by
         intro j;rw [Hp.uG,Hp.uG];split
         ·rfl
         ·rename_i hne;rw [Hp.get_put,aHc hne]
        have al:QB (((H.put id (.cells (bV E.ρ Hg t0 []) zC)).drop id).new (.cells (bV E.ρ Hg t0 []++news) zC)) ((H.drop id).new (.vec e1 t0 zC [])):=
         DR rfl rfl fun j=>by rw [hdrop]
        have p3':bG E' ((H.drop id).new (.cells (bV E.ρ Hg t0 []++news) zC)) w':=by
         have hg:(((H.put id (.cells (bV E.ρ Hg t0 []) zC)).drop id).new (.cells (bV E.ρ Hg t0 []++news) zC)).get H.fresh=some (.cells (bV E.ρ Hg t0 []++news) zC):=by rw [Hp.jB];exact aHd rfl
         refine p3.swap hg (p3.live _ _ hg).2.1 (by rw [Hp.jB]; exact aHd rfl) (fun j hj=>?_) ?_ ?_
         ·rw [Hp.jB,Hp.jB];show (if j=H.fresh then _ else _)=(if j=H.fresh then _ else _);rw [aHc hj,aHc hj,hdrop]
         ·unfold Hp.new;simp only [Hp.drop,Hp.put];split<;>rfl
         ·unfold Hp.new;simp only [Hp.drop,Hp.put];split<;>rfl
        refine⟨y,w',E',p1,(p2.left (QB.put hl).symm).right al,Le p3' hwf ?_ ?_,?_⟩
        ·rw [aeV,aHC,aHC,bP (nV _),hds,hes,hnl]
        ·intro us' hus;obtain⟨a1,a2,rfl,b1,b2⟩:=hus.split;rw [aeV];exact b1.append (g.vr E' w'.heap a2 _ hρ b2)
        ·simp only [VR] at p4 ⊢;obtain⟨q1,a',cap',q2,q3,q4⟩:=p4;refine⟨q1,k+m,a',cap',?_,q2,q3,?_⟩
         ·rw [bW,hl1,aHC,hds,hk]
         ·rw [hes]; exact q4
       ·simp at hb
      ·simp at hb
     ·simp at hb
    ·simp at hb
   ·simp at hb
  ·simp at hb
 ·split at hb
  ·simp only [aHe,aHf] at hb;obtain⟨rfl,rfl,rfl⟩:=hb;simp only [VR] at hx;exact fresh0 none hx rfl (by simp only [SE.den,aC,D.l])
  ·simp at hb
 ·split at hb
  ·simp only [aHe,aHf] at hb;obtain⟨rfl,rfl,rfl⟩:=hb;simp only [VR] at hx;obtain⟨x,hx⟩:=hx;exact fresh0 x hx rfl (by simp only [SE.den,aC,D.l])
  ·simp at hb
 ·split at hb
  ·simp only [aHe,aHf] at hb;obtain⟨rfl,rfl,rfl⟩:=hb;simp only [VR] at hx;obtain⟨⟨x,hx⟩,_⟩:=hx;exact fresh0 x hx rfl (by simp only [SE.den,aC,D.l])
  ·simp at hb
 ·split at hb
  ·split at hb
   ·split at hb
    ·split at hb
     ·simp only [aHe,aHf] at hb;obtain⟨rfl,rfl,rfl⟩:=hb;simp only [VR] at hx;obtain⟨_,a,cap,rfl,_,hc⟩:=hx;simp only [gJ] at hc;obtain⟨rfl,_⟩:=hc;exact fresh0 (some a) rfl rfl (by simp only [SE.den,aC,D.l])
     ·simp at hb
    ·simp at hb
   ·simp at hb
  ·simp at hb
 ·simp at hb
end
noncomputable def TP (e:Nat) (own:Option Nat) (x:AV) (h:Hp):Option (SE×Nat×List (SE×List AV)×Hp):=match x with
 | .sN id n t=>match h.get id with
   |some o=>match o with
    | .vec e0 t0 ty ov=>match Nat.beq t t0 with
     |true=>match Nat.beq ty e with
      |true=>match iE n (dY e0) with
       |true=>some (e0,t,ov,h.drop id)
       |false=>none
      |false=>none
     |false=>none
    |_=>none
   |none=>none
 | .aY=>match own with
   |some t=>some (.dat (.i 0),t,[],h)
   |none=>none
 | .emp=>match own with
   |some t=>some (.dat (.i 0),t,[],h)
   |none=>none
 | .FP _ _=>match own with
   |some t=>some (.dat (.i 0),t,[],h)
   |none=>none
 | .slice _ _ n c=>match n with
   |0=>match c with
    | .exact k=>match k with
      |0=>match own with
       |some t=>some (.dat (.i 0),t,[],h)
       |none=>none
      |_=>none
    |_=>none
   |_=>none
 |_=>none
section
variable {P:Program} {E:En} {w:World}
structure abP (ρ:Nat->Int) (r:Row) (e0 e1:SE) (ov0 ov1:List (SE×List AV)) (ds:List D) (news:List AV):Prop where
 l:(dec (e1.den ρ)).l=(dec (e0.den ρ)).l++ds
 wf:dec (e1.den ρ)=dL (dec (e1.den ρ)).l
 rows: ∀d∈ds,wU r d
 vr: ∀(E':En) (h:Array Obj) (us0 us:List Value),E'.ρ=ρ->bT E' h (aK ρ r ov0 (dec (e0.den ρ)).l 0) us0->bT E' h news us->bT E' h (aK ρ r ov1 (dec (e1.den ρ)).l 0) (us0++us)
theorem Xo [Glob] {E':En} {H0:Hp} {w':World} {cells:List AV} {e:TypeId} {e1:SE} {t:Nat} {ov:List (SE×List AV)} (r:bG E' (H0.new (.cells cells e)) w') (ho:BR (rowOf t) ov) (hwf:Dl (rowOf t) (dec (e1.den E'.ρ))) (hl:(bV E'.ρ e1 t ov).length=cells.length)
 (hv: ∀us,bT E' w'.heap cells us->bT E' w'.heap (bV E'.ρ e1 t ov) us):bG E' (H0.new (.vec e1 t e ov)) w':=by
 have hg:(H0.new (.cells cells e)).get H0.fresh=some (.cells cells e):=by rw [Hp.jB,aHd rfl]
 refine r.swap hg (OR.vG.2 ⟨⟨ho,hwf⟩,OR.congr (r.live _ _ hg).2.1 hl hv⟩) (by rw [Hp.jB,aHd rfl]) (fun j hj=>by rw [Hp.jB,aHc hj,Hp.jB,aHc hj]) ?_ ?_
 ·unfold Hp.new; split<;>rfl
 ·unfold Hp.new; split<;>rfl
set_option maxHeartbeats 800000 in
theorem Kq [Glob] {t t2 ty:Nat} {H h0:Hp} (r:bG E H w) {ie:TI} {e m:Nat} {own:Option Nat} {news:List AV} {x:AV} {d2:TypeDesc} {u u2:Value} {us:Array Value} (hte:rQ P e ie)
 (ht:P.underlying t=some (.slice e)) (ht2:P.underlying t2=some d2) (hd2: ∀k,d2≠.int k) (hs0:ie.size≠0) (hb0:ie.bytes≠0) (hzl:ie.zero.length=ie.size) (hb4:ie.bytes<=400)
 (src:Src P E w ie.size m news u2 us) (hm:0<m) (hx:VR E w.heap x u) {e0 e1:SE} {t':Nat} {ov0 ov1:List (SE×List AV)} (hb:TP e own x H=some (e0,t',ov0,h0)) (hes:(rowOf t').es=ie.size) {ds:List D} (g:abP E.ρ (rowOf t') e0 e1 ov0 ov1 ds news) (hds:ds.length=m)
 (hov:BR (rowOf t') ov1) (hlim:((dec (e0.den E.ρ)).l.length+m)*ie.bytes<=140737488355328) :
 ∃y w' E',(Builtin.append_ #[t,t2] ty #[u,u2]).run P w= .ok y w'/\Stp E H w E' (h0.new (.vec e1 t' e ov1)) w'/\bG E' (h0.new (.vec e1 t' e ov1)) w'/\VR E' w'.heap (.sN h0.fresh (dY e1) t') y:=by
 have hbound: ∀k,k<=(dec (e0.den E.ρ)).l.length->(k+m)*ie.bytes<=140737488355328:=by intro k hk;exact aHP (aIA _ (by omega)) hlim
 have hnl:news.length=m*ie.size:=by have h1:=src.vrs.length;have h2:=src.size;simp only [aHL] at h1;omega
 have fresh0: ∀(a:Option Addr),u= .slice a 0 0->h0=H->(dec (e0.den E.ρ)).l= []->
  ∃y w' E',(Builtin.append_ #[t,t2] ty #[u,u2]).run P w= .ok y w'/\Stp E H w E' (h0.new (.vec e1 t' e ov1)) w'/\bG E' (h0.new (.vec e1 t' e ov1)) w'/\VR E' w'.heap (.sN h0.fresh (dY e1) t') y:=by
  intro a hu he hnil;subst hu he
  have hgl:sF ie e 0 m news h0=some (.slice h0.fresh 0 (0+m) (.rest ie.size),h0.new (.cells news e)):=by unfold sF;rw [aHd (hbound 0 (by omega))]
  obtain⟨y,w',E',p1,p2,p3,p4⟩:=vM (t:=t) (t2:=t2) (ty:=ty) (cap:=0) r hte ht ht2 hd2 hb0 hzl src (by omega) a (old:=[]) (olds:=#[]) (cs:=news) (by simp) (by simp [bT]) (by simp) (by simp)
   (fun w2 _=>by
    cases a with
    |none=>simp [Builtin.firstCells]
    |some a=>simp only [Builtin.firstCells,aH7]; rfl) hgl
  have hρ:=p2.ρ;have hl1:(dec (e1.den E'.ρ)).l=ds:=by rw [hρ,g.l,hnil,aHx]
  have hwf:Dl (rowOf t') (dec (e1.den E'.ρ)):=by refine⟨by rw [hρ]; exact g.wf,fun d hd=>?_,by rw [hl1]; intro q; rw [q] at hds; simp at hds; omega⟩;rw [hl1] at hd;exact g.rows d hd
  refine⟨y,w',E',p1,p2.right (DR rfl rfl fun _=>rfl),Xo p3 hov hwf ?_ ?_,?_⟩
  ·unfold bV;rw [bP hov,hl1,hds,hes,hnl]
  ·intro us' hus;unfold bV;rw [hρ];have:=g.vr E' w'.heap [] us' hρ (by rw [hnil]; simp [aK,bT]) hus;simpa using this
  ·simp only [VR] at p4 ⊢;obtain⟨q1,a',cap',q2,q3,q4⟩:=p4;refine⟨q1,0+m,a',cap',?_,q2,q3,?_⟩
   ·rw [bW,hl1,hds,aHn]
   ·rw [hes]; exact q4
 unfold TP at hb;split at hb
 ·rename_i id n t0;split at hb
  ·rename_i o hl;split at hb
   ·rename_i Hg t00 zC ov
    ·split at hb
     ·rename_i ht0;split at hb
      ·rename_i hty;split at hb
       ·rename_i hn;simp only [aHe,aHf] at hb;obtain⟨rfl,rfl,rfl,rfl⟩:=hb;have ht0:=aHj ht0;have hty:=aHj hty;have hn:=dD _ _ hn;subst ht0 hty hn;obtain⟨r2,aEQ,aB5⟩:=r.vG hl;simp only [VR] at hx;obtain⟨hid,k,a,cap,hk,rfl,hkc,hcap⟩:=hx;rw [bW] at hk;have hk:k=(dec (Hg.den E.ρ)).l.length:=by omega
        have hx2:VR E w.heap (.slice id 0 k (.rest ie.size)) (.slice (some a) k cap):=by simp only [VR];exact⟨hid,a,cap,rfl,hkc,by rw [<- hes]; exact hcap⟩
        have hcl:(bV E.ρ Hg t0 ov).length=k*ie.size:=by unfold bV;rw [bP aEQ,hes,hk]
        have aER:0<m*ie.size:=aIV hm (by omega)
        have happ:wR ie zC m news (.slice id 0 k (.rest ie.size)) (H.put id (.cells (bV E.ρ Hg t0 ov) zC)) =
         some (.slice H.fresh 0 (k+m) (.rest ie.size),((H.put id (.cells (bV E.ρ Hg t0 ov) zC)).drop id).new (.cells (bV E.ρ Hg t0 ov++news) zC)):=by
         unfold wR;simp only [if_true];rw [Hp.get_put,aHd rfl];simp only;rw [aHc (by rw [hcl,aIa]; omega),aHd ⟨by omega,trivial⟩];simp only [fZ];unfold sF;rw [aHd (hbound k (by omega))];rfl
        obtain⟨y,w',E',p1,p2,p3,p4⟩:=Dh (t:=t) (t2:=t2) (ty:=ty) r2 hte ht ht2 hd2 hs0 hb0 hzl src hx2 happ;have hρ:=p2.ρ;have hl1:(dec (e1.den E'.ρ)).l=(dec (Hg.den E.ρ)).l++ds:=by rw [hρ,g.l]
        have hwf:Dl (rowOf t0) (dec (e1.den E'.ρ)):=by
         refine⟨by rw [hρ]; exact g.wf,fun d hd=>?_,by rw [hl1]; intro q; have:=congrArg List.length q; simp at this; rw [this.2] at hds; simp at hds; omega⟩;rw [hl1] at hd;rcases aH1.1 hd with hd|hd
         ·exact aB5.2.1 d hd
         ·exact g.rows d hd
        have hdrop: ∀j,(((H.put id (.cells (bV E.ρ Hg t0 ov) zC)).drop id).get j)=(H.drop id).get j:=by
         intro j;rw [Hp.uG,Hp.uG];split
         ·rfl
         ·rename_i hne;rw [Hp.get_put,aHc hne]
        have al:QB (((H.put id (.cells (bV E.ρ Hg t0 ov) zC)).drop id).new (.cells (bV E.ρ Hg t0 ov++news) zC)) ((H.drop id).new (.vec e1 t0 zC ov1)):=
         DR rfl rfl fun j=>by rw [hdrop]
        have p3':bG E' ((H.drop id).new (.cells (bV E.ρ Hg t0 ov++news) zC)) w':=by
         have hg:(((H.put id (.cells (bV E.ρ Hg t0 ov) zC)).drop id).new (.cells (bV E.ρ Hg t0 ov++news) zC)).get H.fresh=some (.cells (bV E.ρ Hg t0 ov++news) zC):=by rw [Hp.jB];exact aHd rfl
         refine p3.swap hg (p3.live _ _ hg).2.1 (by rw [Hp.jB]; exact aHd rfl) (fun j hj=>?_) ?_ ?_
         ·rw [Hp.jB,Hp.jB];show (if j=H.fresh then _ else _)=(if j=H.fresh then _ else _);rw [aHc hj,aHc hj,hdrop]
         ·unfold Hp.new;simp only [Hp.drop,Hp.put];split<;>rfl
         ·unfold Hp.new;simp only [Hp.drop,Hp.put];split<;>rfl
        refine⟨y,w',E',p1,(p2.left (QB.put hl).symm).right al,Xo p3' hov hwf ?_ ?_,?_⟩
        ·unfold bV;rw [bP hov,hl1,aHC,aHC,bP aEQ,hds,hes,hnl,aIa]
        ·intro us' hus;obtain⟨a1,a2,rfl,b1,b2⟩:=hus.split;unfold bV at b1 ⊢;rw [hρ];exact g.vr E' w'.heap a1 a2 hρ b1 b2
        ·simp only [VR] at p4 ⊢;obtain⟨q1,a',cap',q2,q3,q4⟩:=p4;refine⟨q1,k+m,a',cap',?_,q2,q3,?_⟩
         ·rw [bW,hl1,aHC,hds,hk]
         ·rw [hes]; exact q4
       ·simp at hb
      ·simp at hb
     ·simp at hb
   ·simp at hb
  ·simp at hb
 ·split at hb
  ·simp only [aHe,aHf] at hb;obtain⟨rfl,rfl,rfl,rfl⟩:=hb;simp only [VR] at hx;exact fresh0 none hx rfl (by simp only [SE.den,aC,D.l])
  ·simp at hb
 ·split at hb
  ·simp only [aHe,aHf] at hb;obtain⟨rfl,rfl,rfl,rfl⟩:=hb;simp only [VR] at hx;obtain⟨x,hx⟩:=hx;exact fresh0 x hx rfl (by simp only [SE.den,aC,D.l])
  ·simp at hb
 ·split at hb
  ·simp only [aHe,aHf] at hb;obtain⟨rfl,rfl,rfl,rfl⟩:=hb;simp only [VR] at hx;obtain⟨⟨x,hx⟩,_⟩:=hx;exact fresh0 x hx rfl (by simp only [SE.den,aC,D.l])
  ·simp at hb
 ·split at hb
  ·split at hb
   ·split at hb
    ·split at hb
     ·simp only [aHe,aHf] at hb;obtain⟨rfl,rfl,rfl,rfl⟩:=hb;simp only [VR] at hx;obtain⟨_,a,cap,rfl,_,hc⟩:=hx;simp only [gJ] at hc;obtain⟨rfl,_⟩:=hc;exact fresh0 (some a) rfl rfl (by simp only [SE.den,aC,D.l])
     ·simp at hb
    ·simp at hb
   ·simp at hb
  ·simp at hb
 ·simp at hb
end
section
variable {ρ:Nat->Int} {r:Row}
theorem wL {p:SE} {cs:List AV}: ∀(ds:List D) (j:Nat),(∀i,j<=i->i<j+ds.length->p.den ρ≠(i:Int))->aK ρ r [(p,cs)] ds j=aK ρ r [] ds j
 |[],_,_=>rfl
 |d::ds,j,h=>by have h0:=h j (aHh _) (by simp only [aHq]; omega);simp only [aK,dX,aHc h0];rw [wL ds (j+1) fun i h1 h2=>h i (by omega) (by simp only [aHq]; omega)]
theorem aEy {e0 e1 p:SE} {cs news:List AV} {ds:List D} (g:Grown ρ r e0 e1 ds news) (hp:p.den ρ<((dec (e0.den ρ)).l.length:Int)):abP ρ r e0 e1 [(p,cs)] [(p,cs)] ds news:=by refine⟨g.l,g.wf,g.rows,fun E' h us0 us hρ h0 h1=>?_⟩;rw [g.l,qB];refine h0.append ?_;rw [wL ds _ fun i h1 _=>by omega];exact g.vr E' h us _ hρ h1
theorem aDI {e0 e1 p:SE} {news zs:List AV} {d:D} (g:Grown ρ r e0 e1 [d] zs) (hp:p.den ρ=((dec (e0.den ρ)).l.length:Int)):abP ρ r e0 e1 [] [(p,news)] [d] news:=by refine⟨g.l,g.wf,g.rows,fun E' h us0 us hρ h0 h1=>?_⟩;rw [g.l,qB,wL _ _ fun i _ h2=>by omega];refine h0.append ?_;simp only [aK,dX,aHn];rw [aHd hp];simpa using h1
theorem aDn {e:Nat} {own:Option Nat} {x:AV} {h h0:Hp} {e0:SE} {t:Nat} (hb:wP e own x h=some (e0,t,h0)):TP e own x h=some (e0,t,[],h0):=by
 unfold wP at hb;unfold TP
 repeat' split at hb
 all_goals first
  |(simp at hb; done)
  |(simp only [aHe,aHf] at hb; obtain⟨rfl,rfl,rfl⟩:=hb; simp_all)
theorem aF9 {e:Nat} {own:Option Nat} {x:AV} {h h0:Hp} {e0 p:SE} {cs:List AV} {t:Nat} (hb:IW e x h=some (e0,t,p,cs,h0)):TP e own x h=some (e0,t,[(p,cs)],h0):=by
 unfold IW at hb;unfold TP
 repeat' split at hb
 all_goals first
  |(simp at hb; done)
  |(simp only [aHe,aHf] at hb; obtain⟨rfl,rfl,rfl,rfl,rfl⟩:=hb; simp_all)
end
section
variable {P:Program} {E:En} {w:World}
theorem Src.frz {E1:En} {s m:Nat} {news news':List AV} {u:Value} {us:Array Value} (src:Src P E w s m news u us) (h:bT E1 w.heap news' us.toList):Src P E1 w s m news' u us:=
 ⟨src.len,src.first,h,src.size,src.ones⟩
theorem room_le {bytes n m:Nat} (hb0:bytes≠0) (hb4:bytes<=400) (hm:(m:Int)<roomOf bytes 1000000) (hn:n<1000000):(n+m)*bytes<=140737488355328:=by
 have hm':(m:Int)<((140737488355328 / bytes-1000000:Nat):Int):=hm;have h1:m<140737488355328 / bytes-1000000:=by omega
 have h2:n+m<=140737488355328 / bytes:=by omega
 exact aHP (aIA _ h2) (aJJ _ _)
theorem amB {bytes m:Nat} (hm:(m:Int)<roomOf bytes 0):(([]:List D).length+m)*bytes<=140737488355328:=by
 have hm':(m:Int)<((140737488355328 / bytes-0:Nat):Int):=hm;have h2:([]:List D).length+m<=140737488355328 / bytes:=by simp only [aHD]; omega
 exact aHP (aIA _ h2) (aJJ _ _)
theorem MV {bytes n m:Nat} (hn:(n:Int)<roomOf bytes (m+1)) {k:Nat} (hk:k=m+1):(n+k)*bytes<=140737488355328:=by
 have hn':(n:Int)<((140737488355328 / bytes-(m+1):Nat):Int):=hn;have h2:n+k<=140737488355328 / bytes:=by omega
 exact aHP (aIA _ h2) (aJJ _ _)
theorem wM {ρ:Nat->Int} {r:Row} {m:Nat} {e e1:SE} {news:List AV} (h:pY r e m news=some e1) (hw:dec (e.den ρ)=dL (dec (e.den ρ)).l): ∃ds,ds.length=m/\Grown ρ r e e1 ds news:=by obtain⟨ds,h1,h2,h3,h4,h5⟩:=CX (ρ:=ρ) m h;exact⟨ds,h1,h2,h3 hw,h4,h5⟩
theorem V3 [Glob] {H h0:Hp} (r:bG E H w) {e:Nat} {own:Option Nat} {x:AV} {e0:SE} {t:Nat} (h:wP e own x H=some (e0,t,h0)):dec (e0.den E.ρ)=dL (dec (e0.den E.ρ)).l:=by
 have hz:dec ((SE.dat (.i 0)).den E.ρ)=dL (dec ((SE.dat (.i 0)).den E.ρ)).l:=by simp only [SE.den,aC]; rfl
 unfold wP at h;split at h
 ·split at h
  ·rename_i o hl;split at h
   ·split at h
    ·split at h
     ·split at h
      ·split at h
       ·simp only [aHe,aHf] at h;obtain⟨rfl,_⟩:=h;exact (r.vG hl).2.2.1
       ·simp at h
      ·simp at h
     ·simp at h
    ·simp at h
   ·simp at h
  ·simp at h
 ·split at h
  ·simp only [aHe,aHf] at h;obtain⟨rfl,_⟩:=h;exact hz
  ·simp at h
 ·split at h
  ·simp only [aHe,aHf] at h;obtain⟨rfl,_⟩:=h;exact hz
  ·simp at h
 ·split at h
  ·simp only [aHe,aHf] at h;obtain⟨rfl,_⟩:=h;exact hz
  ·simp at h
 ·split at h
  ·split at h
   ·split at h
    ·split at h
     ·simp only [aHe,aHf] at h;obtain⟨rfl,_⟩:=h;exact hz
     ·simp at h
    ·simp at h
   ·simp at h
  ·simp at h
 ·simp at h
theorem Kr [Glob] {t t2 ty:Nat} {ie:TI} {e:Nat} {d2:TypeDesc} {u u2:Value} {us:Array Value} {news:List AV} (hte:rQ P e ie) (ht:P.underlying t=some (.slice e)) (ht2:P.underlying t2=some d2) (hd2: ∀k,d2≠.int k)
 (src:Src P E w ie.size 0 news u2 us) (ho: ∃a n cap,u= .slice a n cap/\n<=cap):(Builtin.append_ #[t,t2] ty #[u,u2]).run P w= .ok u w:=by
 obtain⟨inf,d,z,h1,h2,h3,h4,h5,h6,h7,h8⟩:=hte.all;obtain⟨a,n,cap,rfl,hn⟩:=ho;have hus:us.toList= []:=aH6 (by rw [aHL,src.size,aH7])
 have:=oD (t:=t) (t2:=t2) (ty:=ty) (n:=n) (cap:=cap) (a:=a) (w':=w) ht ht2 hd2 h1 h5 src (by omega) (by
  cases a with
  |none=>rfl
  |some a=>rw [hus]; rfl)
 exact this
theorem ahC {x:AV} {u:Value} {H h0:Hp} {e t:Nat} {own:Option Nat} {e0:SE} (hx:VR E w.heap x u) (hb:wP e own x H=some (e0,t,h0)): ∃a n cap,u= .slice a n cap/\n<=cap:=by
 unfold wP at hb;split at hb
 ·simp only [VR] at hx;obtain⟨_,k,a,cap,_,rfl,hk,_⟩:=hx;exact⟨_,_,_,rfl,hk⟩
 ·simp only [VR] at hx;exact⟨none,0,0,hx,aHh _⟩
 ·simp only [VR] at hx;obtain⟨x,hx⟩:=hx;exact⟨x,0,0,hx,aHh _⟩
 ·simp only [VR] at hx;obtain⟨⟨x,hx⟩,_⟩:=hx;exact⟨x,0,0,hx,aHh _⟩
 ·simp only [VR] at hx;obtain⟨_,a,cap,rfl,hk,_⟩:=hx;exact⟨_,_,_,rfl,hk⟩
 ·simp at hb
theorem Xy {x:AV} {u:Value} {own:Option Nat} (hx:VR E w.heap x u) (hb:anO own x=true): ∃a n cap,u= .slice a n cap/\n<=cap:=by
 unfold anO at hb;split at hb
 ·simp only [VR] at hx;obtain⟨_,k,a,cap,_,rfl,hk,_⟩:=hx;exact⟨_,_,_,rfl,hk⟩
 ·simp only [VR] at hx;obtain⟨_,l,k,a,cap,_,_,rfl,hk,_⟩:=hx;exact⟨_,_,_,rfl,hk⟩
 ·simp only [VR] at hx;exact⟨none,0,0,hx,aHh _⟩
 ·simp only [VR] at hx;obtain⟨x,hx⟩:=hx;exact⟨x,0,0,hx,aHh _⟩
 ·simp only [VR] at hx;obtain⟨⟨x,hx⟩,_⟩:=hx;exact⟨x,0,0,hx,aHh _⟩
 ·simp only [VR] at hx;obtain⟨_,a,cap,rfl,hk,_⟩:=hx;exact⟨_,_,_,rfl,hk⟩
 ·simp at hb
theorem J3 [Glob] {s s':St} (r:bG E s.h w) (hp:bK E.ρ s.pc) {t t2 ty e m':Nat} {own:Option Nat} {ie:TI} {news:List AV} {x v:AV} {d2:TypeDesc} {u u2:Value} {us:Array Value} (hte:rQ P e ie) (hu:P.underlying t=some (.slice e)) (hd2:P.underlying t2=some d2) (Cm: ∀k,d2≠.int k)
 (hs0:ie.size≠0) (hb0:ie.bytes≠0) (hzl:ie.zero.length=ie.size) (hb4:ie.bytes<=400) (src:Src P E w ie.size (m'+1) news u2 us) (hx:VR E w.heap x u) (h:(Hf e own x ie m' news s).leaf E.ρ=some (v,s')) :
 s'.slots=s.slots/\bK E.ρ s'.pc/\∃z w' E',(Builtin.append_ #[t,t2] ty #[u,u2]).run P w= .ok z w'/\Stp E s.h w E' s'.h w'/\bG E' s'.h w'/\VR E' w'.heap v z:=by
 unfold Hf at h;obtain⟨news',h1,pcF,E1,hpF,f,hvs,h⟩:=wE rfl r hp h;split at h
 ·rename_i e0 t' h0 hb;split at h
  ·rename_i hc;obtain⟨hes,hm⟩:=hc;have hρ:=f.ρ;obtain⟨pc1,hp1,h2⟩:=dB (s:={ s with h:=h1,pc:=pcF }) hpF h;split at h2
   ·rename_i t3;rw [dU,decide_eq_true_eq,bW] at t3;simp only [SE.den] at t3;split at h2
    ·rename_i e1 hcr;have:=aF h2;simp only [aHf] at this;obtain⟨rfl,rfl⟩:=this;obtain⟨ds,hds,g⟩:=wM (ρ:=E1.ρ) hcr (V3 f.rel hb);obtain⟨z,w',E',p1,p2,p3,p4⟩:=FK (t:=t) (t2:=t2) (ty:=ty) f.rel hte hu hd2 Cm hs0 hb0 hzl hb4 (src.frz (hvs _ src.vrs)) (by omega) (VR.keep (f.fD.keeps r) _ _ hx) hb hes g hds (MV (by rw [hρ]; exact t3) (by omega));exact⟨rfl,hp1,z,w',E',p1,f.fD.trans p2,p3,p4⟩
    ·simp [T.leaf] at h2
   ·simp [T.leaf] at h2
  ·simp [T.leaf] at h
 ·simp [T.leaf] at h
theorem aEh [Glob] {H h0:Hp} (r:bG E H w) {e:Nat} {x:AV} {e0 p:SE} {cs:List AV} {t:Nat} (h:IW e x H=some (e0,t,p,cs,h0)):dec (e0.den E.ρ)=dL (dec (e0.den E.ρ)).l/\BR (rowOf t) [(p,cs)]:=by
 unfold IW at h;split at h
 ·split at h
  ·rename_i hl;split at h
   ·split at h
    ·simp at h
    ·split at h
     ·split at h
      ·rename_i ht;split at h
       ·split at h
        ·simp only [aHe,aHf] at h;obtain⟨rfl,rfl,rfl,rfl,_⟩:=h;have ht:=aHj ht;subst ht;exact⟨(r.vG hl).2.2.1,(r.vG hl).2.1⟩
        ·simp at h
       ·simp at h
      ·simp at h
     ·simp at h
   ·simp at h
  ·simp at h
 ·simp at h
theorem VD [Glob] {s s':St} (r:bG E s.h w) (hp:bK E.ρ s.pc) {t t2 ty e m':Nat} {own:Option Nat} {ie:TI} {news:List AV} {x v:AV} {d2:TypeDesc} {u u2:Value} {us:Array Value} (hte:rQ P e ie) (hu:P.underlying t=some (.slice e)) (hd2:P.underlying t2=some d2) (Cm: ∀k,d2≠.int k)
 (hs0:ie.size≠0) (hb0:ie.bytes≠0) (hzl:ie.zero.length=ie.size) (hb4:ie.bytes<=400) (src:Src P E w ie.size (m'+1) news u2 us) (hx:VR E w.heap x u) (h:(Jp e x ie m' news s).leaf E.ρ=some (v,s')) :
 s'.slots=s.slots/\bK E.ρ s'.pc/\∃z w' E',(Builtin.append_ #[t,t2] ty #[u,u2]).run P w= .ok z w'/\Stp E s.h w E' s'.h w'/\bG E' s'.h w'/\VR E' w'.heap v z:=by
 unfold Jp at h;obtain⟨news',h1,pcF,E1,hpF,f,hvs,h⟩:=wE rfl r hp h;split at h
 ·rename_i e0 t' p cs h0 hb;split at h
  ·rename_i hc;obtain⟨hes,hm⟩:=hc;have hρ:=f.ρ;obtain⟨pc1,hp1,h2⟩:=dB (s:={ s with h:=h1,pc:=pcF }) hpF h;split at h2
   ·rename_i t3;rw [dU,decide_eq_true_eq,bW] at t3;simp only [SE.den] at t3;obtain⟨pc2,hp2,h3⟩:=dB (s:={ s with h:=h1,pc:=pc1 }) hp1 h2;split at h3
    ·rename_i t4;rw [dU,decide_eq_true_eq,bW] at t4;split at h3
     ·rename_i e1 hcr;have:=aF h3;simp only [aHf] at this;obtain⟨rfl,rfl⟩:=this;obtain⟨hw1,hw2⟩:=aEh f.rel hb;obtain⟨ds,hds,g⟩:=wM (ρ:=E1.ρ) hcr hw1;obtain⟨z,w',E',p1,p2,p3,p4⟩:=Kq (t:=t) (t2:=t2) (ty:=ty) f.rel hte hu hd2 Cm hs0 hb0 hzl hb4 (src.frz (hvs _ src.vrs)) (by omega) (VR.keep (f.fD.keeps r) _ _ hx) (aF9 (own:=own) hb) hes (aEy g (by rw [hρ]; exact t4)) hds hw2 (MV (by rw [hρ]; exact t3) (by omega));exact⟨rfl,hp2,z,w',E',p1,f.fD.trans p2,p3,p4⟩
     ·simp [T.leaf] at h3
    ·simp [T.leaf] at h3
   ·simp [T.leaf] at h2
  ·simp [T.leaf] at h
 ·simp [T.leaf] at h
theorem VB [Glob] {s s':St} (r:bG E s.h w) (hp:bK E.ρ s.pc) {t t2 ty e m':Nat} {own:Option Nat} {ie:TI} {news:List AV} {x v:AV} {d2:TypeDesc} {u u2:Value} {us:Array Value} (hte:rQ P e ie) (hu:P.underlying t=some (.slice e)) (hd2:P.underlying t2=some d2) (Cm: ∀k,d2≠.int k)
 (hs0:ie.size≠0) (hb0:ie.bytes≠0) (hzl:ie.zero.length=ie.size) (hb4:ie.bytes<=400) (src:Src P E w ie.size (m'+1) news u2 us) (hx:VR E w.heap x u) (h:(Jo e own x ie m' news s).leaf E.ρ=some (v,s')) :
 s'.slots=s.slots/\bK E.ρ s'.pc/\∃z w' E',(Builtin.append_ #[t,t2] ty #[u,u2]).run P w= .ok z w'/\Stp E s.h w E' s'.h w'/\bG E' s'.h w'/\VR E' w'.heap v z:=by
 unfold Jo at h;split at h
 ·rename_i e0 t' h0 hb;split at h
  ·rename_i hc;obtain⟨hes,rfl⟩:=hc;obtain⟨pc1,hp1,h2⟩:=dB hp h;split at h2
   ·rename_i t3;obtain⟨pc2,hp2,h3⟩:=dB (s:={ s with pc:=pc1 }) hp1 h2;split at h3
    ·rename_i t4;rw [dU,decide_eq_true_eq,bW] at t4;simp only [SE.den] at t4;split at h3
     ·rename_i e1 hcr;have:=aF h3;simp only [aHf] at this;obtain⟨rfl,rfl⟩:=this;obtain⟨ds,hds,g⟩:=wM (ρ:=E.ρ) hcr (V3 r hb)
      obtain⟨d,rfl⟩ : ∃d,ds= [d]:=by
       cases ds with
       |nil=>simp at hds
       |cons d l=>cases l with
        |nil=>exact⟨d,rfl⟩
        |cons a b=>simp at hds
      have hnl:news.length=(rowOf t').es:=by have h1:=src.vrs.length;have h2:=src.size;simp only [aHL] at h1;omega
      obtain⟨z,w',E',p1,p2,p3,p4⟩:=Kq (t:=t) (t2:=t2) (ty:=ty) r hte hu hd2 Cm hs0 hb0 hzl hb4 src (by omega) hx (aDn hb) hes (aDI (p:=.aO 0) g (by rw [lM,bW] at t3; simp only [beq_iff_eq] at t3; exact t3.symm)) hds (fun q hq=>by simp only [aIG] at hq; subst hq; exact hnl) (MV t4 (by omega));exact⟨rfl,hp2,z,w',E',p1,p2,p3,p4⟩
     ·simp [T.leaf] at h3
    ·simp [T.leaf] at h3
   ·obtain⟨q1,q2,q3⟩:=J3 (s:={ s with pc:=pc1 }) r hp1 (ty:=ty) hte hu hd2 Cm hs0 hb0 hzl hb4 src hx h2;exact⟨q1,q2,q3⟩
  ·simp [T.leaf] at h
 ·simp [T.leaf] at h
set_option maxHeartbeats 800000 in
theorem VA [Glob] {tt:TT} (htt:fE P tt) {s s':St} (r:bG E s.h w) (hp:bK E.ρ s.pc) {t t2 ty:Nat} {x y v:AV} {u u2:Value} (hx:VR E w.heap x u) (hy:VR E w.heap y u2) (hsl:ayO y=false->∃a n cap,u= .slice a n cap/\n<=cap) (h:(Jm tt t t2 x y s).leaf E.ρ=some (v,s')) :
 s'.slots=s.slots/\bK E.ρ s'.pc/\∃z w' E',(Builtin.append_ #[t,t2] ty #[u,u2]).run P w= .ok z w'/\Stp E s.h w E' s'.h w'/\bG E' s'.h w'/\VR E' w'.heap v z:=by
 unfold Jm at h;split at h
 ·rename_i ti hti;split at h
  ·rename_i e hk;split at h
   ·rename_i ie hie;split at h
    ·simp [T.leaf] at h
    ·rename_i ti2 anW;obtain⟨d2,hd2,hk2⟩:=yU (htt t2 ti2 anW);split at h
     ·simp [T.leaf] at h
     ·rename_i k2 hne
      have Cm: ∀k,d2≠.int k:=by intro k hd;subst hd;cases hkk:ti2.kind<;>rw [hkk] at hk2<;>simp only [TV] at hk2;exact hne _ hkk
      split at h
      ·simp [T.leaf] at h
      ·rename_i hcond;simp only [not_or,Classical.not_not] at hcond;obtain⟨hs0,hb0,hzl,hb4⟩:=hcond;have hte:=htt e ie hie;have hu:=gX (htt t ti hti) hk;split at h
       ·
        rename_i e2 ty2;split at h
        ·rename_i e0 t' h0 hb;split at h
         ·rename_i hc;obtain⟨hes,hrow⟩:=hc;obtain⟨pc1,hp1,h1⟩:=dB hp h;rw [qL,bW] at h1;simp only [VR] at hy;obtain⟨xa,cap2,hu2,_⟩:=hy.slice;split at h1
          ·rename_i hz;simp only [SE.den,beq_iff_eq] at hz;have:=aF h1;simp only [aHf] at this;obtain⟨rfl,rfl⟩:=this;have hz':(dec (e2.den E.ρ)).l.length=0:=by omega
           rw [hz'] at hu2;subst hu2
           have src:Src P E w ie.size 0 [] (.slice xa 0 cap2) #[]:=⟨fun _=>rfl,fun w2 _=>by
            cases xa with
            |none=>simp [Builtin.firstCells]
            |some a=>simp only [Builtin.firstCells,aH7]; rfl,by simp [bT],by simp,by simp⟩
           exact⟨rfl,hp1,u,w,E,Kr hte hu hd2 Cm src (ahC hx hb),Stp.refl _ _ _,r,hx⟩
          ·rename_i hz;simp only [SE.den,beq_eq_false_iff_ne,ne_eq] at hz;obtain⟨pc2,hp2,h2⟩:=dB (s:={ s with pc:=pc1 }) hp1 h1;split at h2
           ·rename_i t2';obtain⟨pc3,hp3,h3⟩:=dB (s:={ s with pc:=pc2 }) hp2 h2;split at h3
            ·rename_i t3;rw [dU,decide_eq_true_eq,bW] at t2' t3;simp only [SE.den] at t2' t3;have hne':(dec (e2.den E.ρ)).l≠[]:=by intro q; rw [q] at hz; simp at hz
             obtain⟨us,src⟩:=axM (P:=P) (w:=w) hy hne';rw [hrow] at src;rw [hes] at src
             have hpos:0<(dec (e2.den E.ρ)).l.length:=by
              rcases aIt (dec (e2.den E.ρ)).l.length with q|q
              ·omega
              ·exact q
             have aB4:dec (e2.den E.ρ)=dL (dec (e2.den E.ρ)).l/\∀d∈(dec (e2.den E.ρ)).l,wU (rowOf ty2) d:=by
              have key: ∀{d:D} {v:Value},Rd E.ro w.heap (.sl ty2) d v->d.l≠[]->d=dL d.l/\∀x∈d.l,wU (rowOf ty2) x:=by
               intro d v hr hne
               have asK: ∀{c:CK} {d:D} {v:Value},Rd E.ro w.heap c d v->wV c d:=by
                intro c d v hr
                cases hr with
                |int k n=>rfl
                |bool b=>cases b<;>simp [wV]
                |str s=>trivial
                |nil t=>trivial
                |non t a cap=>trivial
                |one t c b o cap ds f hr hc hb h1 h2=>trivial
                |many t cs b o cap rows f hr hc hb hl h1 h2=>trivial
               generalize hc:CK.sl ty2=c at hr
               cases hr with
               |int k n=>simp at hc
               |bool b=>simp at hc
               |str s=>simp at hc
               |nil t=>exact absurd rfl hne
               |non t a cap=>exact absurd rfl hne
               |one t c b o cap ds f hr hcp hb h1 h2=> simp only [CK.sl.injEq] at hc;subst hc;refine⟨by rw [aA],fun x hx=>?_⟩;rw [aA] at hx;obtain⟨i,hi⟩:=aIP.1 hx;rw [hr];exact asK (h2 i x hi)
               |many t cs b o cap rows f hr hcp hb hl h1 h2=> simp only [CK.sl.injEq] at hc;subst hc;refine⟨by rw [aA],fun x hx=>?_⟩;rw [aA,aHF] at hx;obtain⟨row,hrm,rfl⟩:=hx;obtain⟨i,hi⟩:=aIP.1 hrm;rw [hr];refine⟨by rw [aA],by rw [aA]; exact hl row hrm,fun j c y hj hy=>?_⟩;rw [aA] at hy;exact asK (h2 i row j y c hi hy hj)
              exact key hy hne'
             rw [hrow] at aB4
             have grown: ∀e1:SE,(dec (e1.den E.ρ)).l=(dec (e0.den E.ρ)).l++(dec (e2.den E.ρ)).l->dec (e1.den E.ρ)=dL (dec (e1.den E.ρ)).l->Grown E.ρ (rowOf t') e0 e1 (dec (e2.den E.ρ)).l (aK E.ρ (rowOf t') [] (dec (e2.den E.ρ)).l 0):=by
              intro e1 q1 q2;refine⟨q1,q2,aB4.2,fun E' h us j hρ hv=>?_⟩
              have:aK E.ρ (rowOf t') [] (dec (e2.den E.ρ)).l j=aK E.ρ (rowOf t') [] (dec (e2.den E.ρ)).l 0:=by
               generalize (dec (e2.den E.ρ)).l=L;clear hv q1 q2
               have gen: ∀(L:List D) (a b:Nat),aK E.ρ (rowOf t') [] L a=aK E.ρ (rowOf t') [] L b:=by
                intro L
                induction L with
                |nil=>intro a b; rfl
                |cons d L ih=>intro a b; simp only [aK,dX]; rw [ih (a+1) (b+1)]
               exact gen L j 0
              rw [this];exact hv
             have hbw:=V3 r hb;split at h3
             ·rename_i hnil
              have aEY:(dec (e0.den E.ρ)).l= []:=by
               unfold ZT at hnil;split at hnil
               ·split at hnil
                ·simp only [SE.den,aC,D.l]
                ·simp at hnil
               ·simp at hnil
              have:=aF h3;simp only [aHf] at this;obtain⟨rfl,rfl⟩:=this;obtain⟨z,w',E',p1,p2,p3,p4⟩:=FK (t:=t) (t2:=t2) (ty:=ty) r hte hu hd2 Cm hs0 hb0 hzl hb4 src hpos hx hb hes (grown e2 (by rw [aEY,aHx]) aB4.1) rfl (by rw [aEY]; refine amB (bytes:=ie.bytes) ?_; have q:=t2'; unfold amC at q; rw [hnil] at q; exact q);exact⟨rfl,hp3,z,w',E',p1,p2,p3,p4⟩
             ·rename_i hnil;have:=aF h3;simp only [aHf] at this;obtain⟨rfl,rfl⟩:=this;obtain⟨z,w',E',p1,p2,p3,p4⟩:=FK (t:=t) (t2:=t2) (ty:=ty) r hte hu hd2 Cm hs0 hb0 hzl hb4 src hpos hx hb hes (grown (.op .cat e0 e2) (by simp only [SE.den,jC.den,aC,aA]) (by simp only [SE.den,jC.den,aC,aA])) rfl (room_le hb0 hb4 (by have q:=t2'; unfold amC at q; rw [hnil] at q; exact q) (by omega));exact⟨rfl,hp3,z,w',E',p1,p2,p3,p4⟩
            ·simp [T.leaf] at h3
           ·simp [T.leaf] at h2
         ·simp [T.leaf] at h
        ·simp [T.leaf] at h
       ·
        split at h
        ·rename_i m news hsrc;obtain⟨us,src⟩:=xA (P:=P) r hy hsrc;split at h
         ·have:=aF h;simp only [aHf] at this;obtain⟨rfl,rfl⟩:=this
          exact⟨rfl,hp,u,w,E,Kr hte hu hd2 Cm src (hsl (by
           cases y<;>first |rfl|(rename_i hnd _ _ _; exact absurd rfl (hnd _ _))|(rename_i hnd; exact absurd rfl (hnd _ _)))),Stp.refl _ _ _,r,hx⟩
         ·rename_i m';split at h
          ·exact VD (own:=ti.own) r hp hte hu hd2 Cm hs0 hb0 hzl hb4 src hx h
          ·split at h
           ·exact VB r hp hte hu hd2 Cm hs0 hb0 hzl hb4 src hx h
           ·exact J3 r hp hte hu hd2 Cm hs0 hb0 hzl hb4 src hx h
        ·simp [T.leaf] at h
   ·simp [T.leaf] at h
  ·simp [T.leaf] at h
 ·simp [T.leaf] at h
end
section
variable {P:Program} {E:En} {w:World}
theorem abT {h:Array Obj} {id t:Nat} {n:SE} {u:Value} (hv:VR E h (.sN id n t) u):VR E h (.A8 id (.lit 0) n t) u:=by simp only [VR] at hv ⊢;obtain⟨h1,k,a,cap,h2,h3,h4,h5⟩:=hv;exact⟨h1,0,k,a,cap,rfl,h2,h3,h4,by rw [aH7]; exact h5⟩
theorem Z7 {tt:TT} (htt:fE P tt) {s s':St} (hp:bK E.ρ s.pc) {ty t id:Nat} {lo n:SE} {ix v:AV} {u ui:Value} (hx:VR E w.heap (.A8 id lo n t) u) (hix:VR E w.heap ix ui) (h:(Vd tt s ty id t lo n ix).leaf E.ρ=some (v,s')) :
 s'.slots=s.slots/\s'.h=s.h/\bK E.ρ s'.pc/\∃r,(Instr.indexAt ty u ui).run P w= .ok r w/\VR E w.heap v r:=by
 unfold Vd at h;split at h
 ·rename_i kd i;split at h
  ·rename_i z hz;split at h
   ·rename_i hes;obtain⟨pc',hp',h1,h2,h3⟩:=sQ hp h;have:=aF h3;simp only [aHf] at this;obtain⟨rfl,rfl⟩:=this;refine⟨rfl,rfl,hp',?_⟩;simp only [VR] at hx hix;subst hix;obtain⟨hid,l,m,a,cap,hl,hn,rfl,hcap,hc⟩:=hx;obtain⟨el,ie,hu,hie,rfl⟩:=sH htt hz;obtain⟨k,hk⟩ : ∃k:Nat,i.den E.ρ=(k:Int):=⟨(i.den E.ρ).toNat,by omega⟩;have hlt:k<m:=by omega
    have ha:a=⟨(E.θ id).1,(E.θ id).2+l*ie.size,none⟩:=by
     simp only [gJ] at hc;rcases hc with hc|hc
     ·rw [hes]; exact hc.1
     ·omega
    subst ha;refine⟨.pointer (some ⟨(E.θ id).1,(E.θ id).2+l*ie.size+k*ie.size,none⟩),?_,?_⟩
    ·rw [hk];simp [Instr.indexAt,asIntOf,run_underlying hu,eU (htt el ie hie),hlt,gQ]
    ·simp only [VR];exact⟨hid,l+k,by rw [vT,hl,hk]; rfl,by rw [aHJ,aIa,aHR]⟩
   ·simp [T.leaf] at h
  ·simp [T.leaf] at h
 ·simp [T.leaf] at h
theorem anG {lo:Option AV} {lo':Option Value} {l:SE} {n:Nat} (h:loE lo=some l) (hlo:jH E w.heap lo lo') (hn:l.den E.ρ=(n:Int)) :
 ∃lo2,jH E w.heap lo2 lo'/\∀y,n<=y->bnd lo2 0 y=some n:=by
 unfold loE at h;split at h
 ·simp only [aHe] at h;subst h;simp only [SE.den] at hn;have:n=0:=by omega
  subst this;exact⟨none,hlo,fun y _=>by simp [bnd]⟩
 ·split at h
  ·rename_i v k q;simp only [aHe] at h;subst h;obtain⟨y,rfl,hy⟩:=hlo;refine⟨some (.int k (.lit (Int.ofNat n))),⟨y,rfl,?_⟩,fun y hy=>by simp [bnd,nY,hy]⟩;simp only [VR,SE.den] at hy ⊢;rw [hy,hn];rfl
  ·simp at h
theorem Ll {k:IntKind} {q:SE} {n:Nat} {o:Option Value} (hq:q.den E.ρ=(n:Int)) (ho:jH E w.heap (some (.int k q)) o):jH E w.heap (some (.int k (.lit (Int.ofNat n)))) o:=by obtain⟨y,rfl,hy⟩:=ho;refine⟨y,rfl,?_⟩;simp only [VR,SE.den] at hy ⊢;rw [hy,hq];rfl
theorem LM {k:IntKind} {n d y:Nat} (hn:n<=y):bnd (some (.int k (.lit (Int.ofNat n)))) d y=some n:=by simp [bnd,nY,hn]
theorem Oy [Glob] {tt:TT} (htt:fE P tt) {s s':St} (r:bG E s.h w) (hp:bK E.ρ s.pc) {ty id t:Nat} {lo0 n0:SE} {lo hi mx:Option AV} {lo' hi' mx':Option Value} {v:AV} {u:Value} (hx:VR E w.heap (.A8 id lo0 n0 t) u)
 (hlo:jH E w.heap lo lo') (hhi:jH E w.heap hi hi') (hmx:jH E w.heap mx mx') (h:(Lu tt s ty id t lo0 n0 lo hi mx).leaf E.ρ=some (v,s')) :
 s'.slots=s.slots/\s'.h=s.h/\bK E.ρ s'.pc/\∃r,(Instr.sliceAt ty u lo' hi' mx').run P w= .ok r w/\VR E w.heap v r:=by
 unfold Lu at h;split at h
 ·simp [T.leaf] at h
 ·rename_i z hz;split at h
  ·rename_i hcond;obtain⟨hes,hz0⟩:=hcond;obtain⟨el,ie,hu,hie,rfl⟩:=sH htt hz;have hsz:=eU (htt el ie hie);simp only [VR] at hx;obtain⟨hid,l0,m0,a,cap,g1,g2,rfl,hcap,hc⟩:=hx
   have fin: ∀(l k:Nat) (e1 e2:SE),(Instr.sliceBounds true m0 cap lo' hi' none).run P w= .ok (l,k,cap) w->l<=k->k<=cap->e1.den E.ρ=(l:Int)->e2.den E.ρ=(k:Int)->
    ∃r,(Instr.sliceAt ty (.slice (some a) m0 cap) lo' hi' none).run P w= .ok r w/\VR E w.heap (.A8 id (zB lo0 e1) (MK e2 e1) t) r:=by
    intro l k e1 e2 hb hlk hk he1 he2;refine⟨.slice (some (if cap=l then a else a.add (l*ie.size))) (k-l) (cap-l),?_,?_⟩
    ·simp [Instr.sliceAt,run_underlying hu,Instr.slice,hb,hsz]<;>split<;>rfl
    ·simp only [VR];refine⟨hid,l0+l,k-l,_,_,by rw [vT,g1,he1]; rfl,by rw [agJ,he1,he2]; omega,rfl,by omega,?_⟩;rw [aIa];have q:=wO (l:=l) (h:=k) (m:=cap) (es:=(rowOf t).es) hc hcap hlk hk (aHh _) (.inr (.inr ⟨rfl,rfl,rfl⟩)) (rowOf t).es (fun _=>rfl);rw [hes];exact q
   split at h
   ·simp [T.leaf] at h
   ·rename_i ql hql;obtain⟨pc1,hp1,h1⟩:=dB hp h;split at h1
    ·simp [T.leaf] at h1
    ·rename_i t1;rw [dU,decide_eq_false_iff_not] at t1;simp only [SE.den,aIB] at t1;obtain⟨l,hl⟩ : ∃l:Nat,ql.den E.ρ=(l:Int):=⟨(ql.den E.ρ).toNat,by omega⟩;obtain⟨lo2,hlo2,hbl⟩:=anG hql hlo hl;split at h1
     ·
      simp only [jH] at hhi;subst hhi;split at h1
      ·simp [T.leaf] at h1
      ·simp only [jH] at hmx;subst hmx;obtain⟨pc2,hp2,h2⟩:=dB (s:={ s with pc:=pc1 }) hp1 h1;split at h2
       ·simp [T.leaf] at h2
       ·rename_i t2;have:=aF h2;simp only [aHf] at this;obtain⟨rfl,rfl⟩:=this;rw [dU,decide_eq_false_iff_not] at t2;have hlm:l<=m0:=by omega
        obtain⟨e1,e2⟩:=iU (P:=P) (w:=w) (isSlice:=true) (len:=m0) (cap:=cap) (m0:=cap) (d:=0) (m:=cap) (h0:=cap) (h:=m0) (l:=l) hlo2 (hi:=none) (hi':=none) (by simp [jH]) (mx:=none) (mx':=none) (by simp [jH]) (by simp) (.inl ⟨rfl,rfl,aHh _⟩) (by simp [bnd,hcap]) ⟨fun _=>aHh _,by simp⟩ (hbl _ hlm);exact⟨rfl,rfl,hp2,fin l m0 _ _ e1 hlm hcap hl g2⟩
     ·rename_i hv;split at h1
      ·rename_i kh qh;obtain⟨pc2,hp2,h2⟩:=dB (s:={ s with pc:=pc1 }) hp1 h1;split at h2
       ·simp [T.leaf] at h2
       ·rename_i t2;rw [dU,decide_eq_false_iff_not] at t2;obtain⟨k,hk⟩ : ∃k:Nat,qh.den E.ρ=(k:Int):=⟨(qh.den E.ρ).toNat,by omega⟩;have hlk:l<=k:=by omega
        split at h2
        ·rename_i mv;split at h2
         ·rename_i km qm;obtain⟨pc3,hp3,h3⟩:=dB (s:={ s with pc:=pc2 }) hp2 h2;split at h3
          ·simp [T.leaf] at h3
          ·rename_i t3;obtain⟨pc4,hp4,h4⟩:=dB (s:={ s with pc:=pc3 }) hp3 h3;split at h4
           ·simp [T.leaf] at h4
           ·rename_i t4;have:=aF h4;simp only [aHf] at this;obtain⟨rfl,rfl⟩:=this;rw [dU,decide_eq_false_iff_not] at t3 t4;obtain⟨m,hm⟩ : ∃m:Nat,qm.den E.ρ=(m:Int):=⟨(qm.den E.ρ).toNat,by omega⟩;obtain⟨e1,e2⟩:=iU (P:=P) (w:=w) (isSlice:=true) (len:=m0) (cap:=cap) (m0:=cap) (d:=0) (m:=m) (h0:=m) (h:=k) (l:=l) hlo2 (Ll hk hhi) (Ll hm hmx) (by simp) (.inr ⟨_,rfl,LM (by omega),aHh _⟩) (LM (by omega)) ⟨by simp,fun _=>rfl⟩ (hbl _ hlk);refine⟨rfl,rfl,hp4,.slice (some (if m=l then a else a.add (l*ie.size))) (k-l) (m-l),?_,by simp only [VR]⟩;simp [Instr.sliceAt,run_underlying hu,Instr.slice,e1,hsz]<;>split<;>rfl
         ·simp [T.leaf] at h2
        ·simp only [jH] at hmx;subst hmx
         have go:k<=cap->∃r,(Instr.sliceAt ty (.slice (some a) m0 cap) lo' hi' none).run P w= .ok r w/\VR E w.heap (.A8 id (zB lo0 ql) (MK qh ql) t) r:=by intro hkc;obtain⟨e1,e2⟩:=iU (P:=P) (w:=w) (isSlice:=true) (len:=m0) (cap:=cap) (m0:=cap) (d:=0) (m:=cap) (h0:=cap) (h:=k) (l:=l) hlo2 (Ll hk hhi) (mx:=none) (mx':=none) (by simp [jH]) (by simp) (.inl ⟨rfl,rfl,aHh _⟩) (LM hkc) ⟨fun _=>aHh _,by simp⟩ (hbl _ hlk);exact fin l k _ _ e1 hlk hkc hl hk
         obtain⟨pc3,hp3,h3⟩:=dB (s:={ s with pc:=pc2 }) hp2 h2;split at h3
         ·rename_i t3;have:=aF h3;simp only [aHf] at this;obtain⟨rfl,rfl⟩:=this;rw [dU,decide_eq_false_iff_not] at t3;exact⟨rfl,rfl,hp3,go (by omega)⟩
         ·split at h3
          ·simp [T.leaf] at h3
          ·rename_i hz1;split at h3
           ·simp [T.leaf] at h3
           ·rename_i e Iu hva;obtain⟨pc4,hp4,h4⟩:=dB (s:={ s with pc:=pc3 }) hp3 h3;split at h4
            ·simp [T.leaf] at h4
            ·rename_i t4;have:=aF h4;simp only [aHf] at this;obtain⟨rfl,rfl⟩:=this;rw [dU,decide_eq_false_iff_not,bW] at t4;refine⟨rfl,rfl,hp4,go ?_⟩;have hlv:=zK hva;obtain⟨ho,q0⟩:=OR.vG.1 (r.live id _ hlv).2.1;have hlo0:=N8 hz1;subst hlo0;simp only [SE.den] at g1;have hl0:l0=0:=by omega
             subst hl0;simp only [OR] at q0;obtain⟨arr,lo1,hi1,us,q1,q2,q3,q4,q5,q6,q7⟩:=q0;unfold bV at q4;rw [bP ho.1] at q4;have hne:0<(dec (e.den E.ρ)).l.length:=aIi.2 ho.2.2.2;have hpos:0<(rowOf t).es:=by omega
             simp only [gJ] at hc
             have hκ:(dec (e.den E.ρ)).l.length<=cap:=by
              rcases hc with hc|hc
              ·have:(dec (e.den E.ρ)).l.length*(rowOf t).es<=cap*(rowOf t).es:=by omega
               exact aJF this hpos
              ·have:=aIV hne hpos;omega
             omega
      ·simp [T.leaf] at h1
  ·simp [T.leaf] at h
theorem aaM [Glob] {tt:TT} (htt:fE P tt) {s s':St} (hp:bK E.ρ s.pc) {ty t:Nat} {z:SE} {lo hi mx:Option AV} {lo' hi' mx':Option Value} {v:AV} {u:Value} (hx:VR E w.heap (.FP z t) u)
 (hlo:jH E w.heap lo lo') (hhi:jH E w.heap hi hi') (hmx:jH E w.heap mx mx') (h:(Vs tt s ty z t lo hi mx).leaf E.ρ=some (v,s')) :
 s'.slots=s.slots/\s'.h=s.h/\bK E.ρ s'.pc/\∃r,(Instr.sliceAt ty u lo' hi' mx').run P w= .ok r w/\VR E w.heap v r:=by
 unfold Vs at h;split at h
 ·simp [T.leaf] at h
 ·simp only [jH] at hmx;subst hmx;split at h
  ·simp [T.leaf] at h
  ·rename_i zz hz;obtain⟨el,ie,hu,hie,rfl⟩:=sH htt hz;have hsz:=eU (htt el ie hie);split at h
   ·rename_i Ik;split at h
    ·rename_i hbl;have:=aF h;simp only [aHf] at this;obtain⟨rfl,rfl⟩:=this;have hx0:=hx;simp only [VR] at hx;obtain⟨⟨x,rfl⟩,hr⟩:=hx;obtain⟨e1,e2⟩:=iU (P:=P) (w:=w) (isSlice:=true) (len:=0) (cap:=0) (m0:=0) (d:=0) (m:=0) hlo hhi (mx:=none) (mx':=none) (by simp [jH]) (by simp) (.inl ⟨rfl,rfl,aHh _⟩) Ik ⟨fun _=>aHh _,by simp⟩ hbl;refine⟨rfl,rfl,hp,.slice x 0 0,?_,hx0⟩;simp [Instr.sliceAt,run_underlying hu,Instr.slice,e1,hsz]
    ·simp [T.leaf] at h
   ·simp [T.leaf] at h
end
theorem MP: ∀{B V:List AV},V.length=B.length->splice B 0 V=some V
 |[],[],_=>rfl
 |[],_::_,h=>by simp at h
 |_::_,[],h=>by simp at h
 |b::B,v::V,h=>by simp only [splice];rw [MP (by simpa using h)]
theorem Zj {A B C V:List AV} (h:V.length=B.length):splice (A++(B++C)) A.length V=some (A++(V++C)):=by have:=zM A (tN C (MP h));rwa [aHJ] at this
theorem QI {α:Type}: ∀{a b:List α},kR a.length (a++b)=some a
 |[],b=>rfl
 |x::a,b=>by simp only [aHq,aHM,kR,QI]
theorem nZ {ρ:Nat->Int} {r:Row}: ∀(L:List D) (a b:Nat),aK ρ r [] L a=aK ρ r [] L b
 |[],_,_=>rfl
 |d::L,a,b=>by simp only [aK,dX]; rw [nZ L (a+1) (b+1)]
theorem mM {ρ:Nat->Int} {r:Row}: ∀(A B:List D),aK ρ r [] (A++B) 0=aK ρ r [] A 0++aK ρ r [] B 0
 |[],B=>rfl
 |d::A,B=>by simp only [aHM,aK,dX,aH3];rw [nZ (A++B) 1 0,nZ A 1 0,mM A B]
section
variable {P:Program} {E:En} {w:World}
theorem ajF [Glob] {H:Hp} (r:bG E H w) {id t:Nat} {e0:SE} {zC:TypeId} (hl:H.get id=some (.vec e0 t zC [])) (hs0:(rowOf t).es≠0) {k cap:Nat} {a:Addr} (hc:gJ E id 0 k a cap (.rest (rowOf t).es)) :
 a=⟨(E.θ id).1,(E.θ id).2,none⟩/\(dec (e0.den E.ρ)).l.length<=cap:=by
 obtain⟨ho,q0⟩:=OR.vG.1 (r.live id _ hl).2.1;simp only [OR] at q0;obtain⟨arr,lo1,hi1,us,q1,q2,q3,q4,q5,q6,q7⟩:=q0;unfold bV at q4;rw [bP ho.1] at q4;have hne:0<(dec (e0.den E.ρ)).l.length:=aIi.2 ho.2.2.2;have hpos:0<(rowOf t).es:=by omega
 simp only [gJ] at hc;rcases hc with hc|hc
 ·refine⟨by simpa using hc.1,?_⟩;have:(dec (e0.den E.ρ)).l.length*(rowOf t).es<=cap*(rowOf t).es:=by omega
  exact aJF this hpos
 ·have:=aIV hne hpos;omega
theorem LX [Glob] {H:Hp} (r:bG E H w) {id t:Nat} {e0:SE} {zC:TypeId} (hl:H.get id=some (.vec e0 t zC [])) {n mm:Nat} (hle:n+mm<=(dec (e0.den E.ρ)).l.length) {ds:List D} (hds:ds.length=mm) (hwf: ∀d∈ds,wU (rowOf t) d)
 {us:List Value} (hv:bT E w.heap (aK E.ρ (rowOf t) [] ds 0) us) (h1: ∀u∈us,u.oneCell'=true) {e1:SE} (he1:dec (e1.den E.ρ)=dL ((dec (e0.den E.ρ)).l.take n++ds++(dec (e0.den E.ρ)).l.drop (n+mm))) :
 ∃w',(storeCells ⟨(E.θ id).1,(E.θ id).2+n*(rowOf t).es,none⟩ us).run P w= .ok () w'/\Stp E H w E (H.put id (.vec e1 t zC [])) w'/\bG E (H.put id (.vec e1 t zC [])) w':=by
 obtain⟨rc,ho,hw⟩:=r.vG hl;generalize hL:(dec (e0.den E.ρ)).l=L at *
 have hsp:L=L.take n++((L.drop n).take mm++L.drop (n+mm)):=by
  conv=>lhs; rw [<- aIs n L]
  congr 1
  conv=>lhs; rw [<- aIs mm (L.drop n)]
  rw [aJK]
 have hc:bV E.ρ e0 t []=aK E.ρ (rowOf t) [] (L.take n) 0++(aK E.ρ (rowOf t) [] ((L.drop n).take mm) 0++aK E.ρ (rowOf t) [] (L.drop (n+mm)) 0):=by
  unfold bV;rw [hL]
  conv=>lhs; rw [hsp]
  rw [mM,mM]
 have hlA:(aK E.ρ (rowOf t) [] (L.take n) 0).length=n*(rowOf t).es:=by rw [bP (nV _),aHr];congr 1;omega
 have hsl:splice (bV E.ρ e0 t []) (n*(rowOf t).es) (aK E.ρ (rowOf t) [] ds 0)=some (bV E.ρ e1 t []):=by
  have:bV E.ρ e1 t []=aK E.ρ (rowOf t) [] (L.take n) 0++(aK E.ρ (rowOf t) [] ds 0++aK E.ρ (rowOf t) [] (L.drop (n+mm)) 0):=by unfold bV;rw [he1,aA,mM,mM,aH3]
  rw [this,hc,<- hlA];refine Zj ?_;rw [bP (nV _),bP (nV _),aHr,aHI,hds];congr 1;omega
 obtain⟨w',g1,g2,g3⟩:=qE (P:=P) rc (by rw [Hp.get_put,aHd rfl]) hsl hv h1;have al1:QB (H.put id (.cells (bV E.ρ e0 t []) zC)) H:=(QB.put hl).symm
 have al2:QB ((H.put id (.cells (bV E.ρ e0 t []) zC)).put id (.cells (bV E.ρ e1 t []) zC)) (H.put id (.vec e1 t zC [])):=by
  refine⟨fun j y hj=>?_,fun j y hj=>?_,rfl,rfl⟩
  ·rw [Hp.get_put];split
   ·exact⟨_,rfl⟩
   ·rename_i hne;rw [Hp.get_put,aHc hne,Hp.get_put,aHc hne] at hj;exact⟨y,hj⟩
  ·rw [Hp.get_put] at hj ⊢;split
   ·exact⟨_,rfl⟩
   ·rename_i hne;rw [aHc hne] at hj;rw [Hp.get_put,aHc hne];exact⟨y,hj⟩
 have hcells:=(g3.live id _ (by rw [Hp.get_put,aHd rfl])).2.1
 have hor:OR E w'.heap id (.vec e1 t zC []):=by
  refine OR.vG.2 ⟨⟨nV _,?_⟩,hcells⟩;rw [he1];refine⟨by rw [aA],?_,?_⟩
  ·rw [aA];intro d hd;rcases aH1.1 hd with hd|hd
   ·rcases aH1.1 hd with hd|hd
    ·exact hw.2.1 d (by rw [hL]; exact aHS hd)
    ·exact hwf d hd
   ·exact hw.2.1 d (by rw [hL]; exact aHQ hd)
  ·rw [aA];intro q;have:=congrArg List.length q;simp only [aHC,aHr,aHI,aHD,hds] at this;have hne:=aIi.2 hw.2.2;rw [hL] at hne;omega
 refine⟨w',g1,(g2.left al1).right al2,?_⟩;exact g3.swap (id:=id) (by rw [Hp.get_put,aHd rfl]) hor (by rw [Hp.get_put,aHd rfl]) (fun j hj=>by rw [Hp.get_put,aHc hj,Hp.get_put,aHc hj,Hp.get_put,aHc hj]) rfl rfl
theorem Yq [Glob] {s s':St} (r:bG E s.h w) (hp:bK E.ρ s.pc) {id t t1 t2 ty e:Nat} {e0 n1 m sd lo:SE} {zC:TypeId} {ie:TI} {d2:TypeDesc} (hte:rQ P e ie) (ht:P.underlying t1=some (.slice e)) (ht2:P.underlying t2=some d2) (hd2: ∀k,d2≠.int k)
 (hes:(rowOf t).es=ie.size) (hs0:ie.size≠0) (hl:s.h.get id=some (.vec e0 t zC [])) (hlo:isZ lo=true) {u u2:Value} {us:Array Value} {ds:List D} (hx:VR E w.heap (.A8 id lo n1 t) u) {mm:Nat} (hm:m.den E.ρ=(mm:Int))
 (hds:ds.length=mm) (hsd:(dec (sd.den E.ρ)).l=ds) (hwf: ∀d∈ds,wU (rowOf t) d) {news:List AV} (src:Src P E w ie.size mm news u2 us) (hv:bT E w.heap (aK E.ρ (rowOf t) [] ds 0) us.toList) {v:AV} (h:(agC id t zC e0 n1 m sd s).leaf E.ρ=some (v,s')) :
 s'.slots=s.slots/\bK E.ρ s'.pc/\∃z w' E',(Builtin.append_ #[t1,t2] ty #[u,u2]).run P w= .ok z w'/\Stp E s.h w E' s'.h w'/\bG E' s'.h w'/\VR E' w'.heap v z:=by
 unfold agC at h;obtain⟨pc',hp',g1,g2,g3,g4⟩:=IX hp h;have:=aF g4;simp only [aHf] at this;obtain⟨rfl,rfl⟩:=this;have hlo:=N8 hlo;subst hlo;have hx0:=hx;simp only [VR] at hx;obtain⟨hid,l0,k,a,cap,q1,q2,rfl,q4,q5⟩:=hx;simp only [SE.den] at q1;have hl0:l0=0:=by omega
 subst hl0;rw [aH7] at q5;obtain⟨rfl,hroom⟩:=ajF r hl (by rw [hes]; exact hs0) q5;have hle:k+mm<=(dec (e0.den E.ρ)).l.length:=by omega
 obtain⟨inf,d,z,h1,h2,h3,h4,h5,h6,h7,h8⟩:=hte.all
 obtain⟨w',f1,f2,f3⟩:=LX (P:=P) r hl (n:=k) hle hds hwf hv src.ones (e1:=.op .cat (.op .cat (.op .take e0 n1) sd) (.op .drop e0 (zB n1 m))) (by
  have hn:((k:Int)+(mm:Int)).toNat=k+mm:=by omega
  simp only [SE.den,jC.den,aC,aA,vT,aH,q2,hm,hn,hsd,aHH])
 refine⟨rfl,hp',.slice (some ⟨(E.θ id).1,(E.θ id).2,none⟩) (k+mm) cap,w',E,?_,f2,f3,?_⟩
 ·exact oD (s:=ie.size) ht ht2 hd2 h1 h5 src (by omega) (by simp only [gQ]; rw [<- hes]; exact f1)
 ·simp only [VR];refine⟨hid,0,k+mm,_,_,rfl,by rw [vT,q2,hm]; rfl,rfl,by omega,?_⟩;rw [aH7];simp only [gJ] at q5 ⊢;rcases q5 with q5|q5
  ·exact .inl q5
  ·have hne:=aIi.2 (OR.vG.1 (r.live id _ hl).2.1).1.2.2.2;omega
theorem XZ [Glob] {tt:TT} (htt:fE P tt) {s s':St} (r:bG E s.h w) (hp:bK E.ρ s.pc) {t t2 ty id t':Nat} {lo n1:SE} {y v:AV} {u u2:Value} (hlo:isZ lo=true) (hx:VR E w.heap (.A8 id lo n1 t') u) (hy:VR E w.heap y u2) (h:(OM tt t t2 id n1 t' y s).leaf E.ρ=some (v,s')) :
 s'.slots=s.slots/\bK E.ρ s'.pc/\∃z w' E',(Builtin.append_ #[t,t2] ty #[u,u2]).run P w= .ok z w'/\Stp E s.h w E' s'.h w'/\bG E' s'.h w'/\VR E' w'.heap v z:=by
 unfold OM at h;split at h
 ·rename_i ti hti;split at h
  ·rename_i e hk;split at h
   ·rename_i ie hie;split at h
    ·simp [T.leaf] at h
    ·rename_i ti2 anW;obtain⟨d2,hd2,hk2⟩:=yU (htt t2 ti2 anW);split at h
     ·simp [T.leaf] at h
     ·rename_i k2 hne
      have Cm: ∀k,d2≠.int k:=by intro k hd;subst hd;cases hkk:ti2.kind<;>rw [hkk] at hk2<;>simp only [TV] at hk2;exact hne _ hkk
      split at h
      ·simp [T.leaf] at h
      ·rename_i hcond;simp only [not_or,Classical.not_not] at hcond;obtain⟨hs0,hb0,hzl,hes⟩:=hcond;have hte:=htt e ie hie;have hu:=gX (htt t ti hti) hk;split at h
       ·simp [T.leaf] at h
       ·rename_i e0 zC hva;have hl:=zK hva;split at h
        ·rename_i id2 lo2 n2 t2';split at h
         ·rename_i hi2;split at h
          ·rename_i ht2;have hi2:=aHj hi2;have ht2:=aHj ht2;subst hi2 ht2;obtain⟨pc1,hp1,g1,g2,g3,g4⟩:=IX hp h;have hy0:=hy;simp only [VR] at hy;obtain⟨hid,l,k,a,cap,q1,q2,rfl,q4,q5⟩:=hy;obtain⟨rc,ho,hw⟩:=r.vG hl;generalize hL:(dec (e0.den E.ρ)).l=L at *;have hlk:l+k<=L.length:=by omega
           have hsp:L=L.take l++((L.take (l+k)).drop l++L.drop (l+k)):=by
            conv=>lhs; rw [<- aIs (l+k) L]
            conv=>lhs; rw [<- aIs l (L.take (l+k))]
            rw [aIW,aH3];congr 2;omega
           have hcc:bV E.ρ e0 t2' []=aK E.ρ (rowOf t2') [] (L.take l) 0++(aK E.ρ (rowOf t2') [] ((L.take (l+k)).drop l) 0++aK E.ρ (rowOf t2') [] (L.drop (l+k)) 0):=by
            unfold bV;rw [hL]
            conv=>lhs; rw [hsp]
            rw [mM,mM]
           have hlA:(aK E.ρ (rowOf t2') [] (L.take l) 0).length=l*(rowOf t2').es:=by rw [bP (nV _),aHr];congr 1;omega
           have hlen:((L.take (l+k)).drop l).length=k:=by rw [aHI,aHr]; omega
           have hlB:(aK E.ρ (rowOf t2') [] ((L.take (l+k)).drop l) 0).length=k*(rowOf t2').es:=by rw [bP (nV _),hlen]
           have hy1:VR E w.heap (.slice id2 (l*(rowOf t2').es) k (.rest (rowOf t2').es)) (.slice (some a) k cap):=by simp only [VR];exact⟨hid,a,cap,rfl,q4,q5⟩
           obtain⟨us,src⟩:=xA (P:=P) rc hy1 (s:=ie.size) (m:=k) (news:=aK E.ρ (rowOf t2') [] ((L.take (l+k)).drop l) 0) (by
            simp only [yG,rD,Hp.get_put,if_true];rw [hcc,<- hlA,Au];simp only;rw [<- hes,<- hlB,QI]
            rfl)
           refine Yq (s:={ s with pc:=pc1 }) r hp1 hte hu hd2 Cm hes hs0 hl hlo hx q2 hlen (by rw [Ns q1 q2,aH,hL]) (fun d hd=>hw.2.1 d ?_) src src.vrs g4;rw [hL];exact aHS (aHQ hd)
          ·simp [T.leaf] at h
         ·simp [T.leaf] at h
        ·split at h
         ·simp [T.leaf] at h
         ·rename_i m news hsrc;obtain⟨us,src⟩:=xA (P:=P) r hy hsrc;split at h
          ·simp [T.leaf] at h
          ·rename_i m';split at h
           ·split at h
            ·rename_i sd hcr;obtain⟨ds,c1,c2,c3,c4,c5⟩:=CX (ρ:=E.ρ) _ hcr;simp only [SE.den,aC,D.l,aHx] at c2;exact Yq r hp hte hu hd2 Cm hes hs0 hl hlo hx (mm:=m'+1) (by simp only [SE.den]; rfl) c1 c2 c4 src (c5 E w.heap _ 0 rfl src.vrs) h
            ·simp [T.leaf] at h
           ·simp [T.leaf] at h
   ·simp [T.leaf] at h
  ·simp [T.leaf] at h
 ·simp [T.leaf] at h
theorem JZ [Glob] {tt:TT} (htt:fE P tt) {s s':St} (r:bG E s.h w) (hp:bK E.ρ s.pc) {t ty id t':Nat} {lo n:SE} {v:AV} {u:Value} (hx:VR E w.heap (.A8 id lo n t') u) (h:(He tt t id lo n t' s).leaf E.ρ=some (v,s')) :
 s'.slots=s.slots/\bK E.ρ s'.pc/\v=AV.undef/\∃w' E',(Builtin.clear_ #[t] ty #[u]).run P w= .ok (.tuple #[]) w'/\Stp E s.h w E' s'.h w'/\bG E' s'.h w':=by
 unfold He at h;split at h
 ·rename_i ti hti;split at h
  ·rename_i e hk;have hu:=gX (htt t ti hti) hk;split at h
   ·rename_i ie hie;obtain⟨inf,d,z,h1,h2,h3,h4,h5,h6,h7,h8⟩:=(htt e ie hie).all;have hz:=gB (E:=E) (h:=w.heap) h4;split at h
    ·rename_i hcond;obtain⟨hes,hs0⟩:=hcond;split at h
     ·simp [T.leaf] at h
     ·rename_i e0 Iu hva;have hl:=zK hva;split at h
      ·simp [T.leaf] at h
      ·rename_i zz hzz;obtain⟨pc1,hp1,g1⟩:=dB hp h;split at g1
       ·simp [T.leaf] at g1
       ·rename_i t1;obtain⟨pc2,hp2,g2⟩:=dB (s:={ s with pc:=pc1 }) hp1 g1;split at g2
        ·simp [T.leaf] at g2
        ·rename_i t2;obtain⟨pc3,hp3,g3⟩:=dB (s:={ s with pc:=pc2 }) hp2 g2;split at g3
         ·simp [T.leaf] at g3
         ·rename_i t3;have:=aF g3;simp only [aHf] at this;obtain⟨rfl,rfl⟩:=this;rw [dU,decide_eq_false_iff_not] at t1 t2;rw [lM,beq_iff_eq,vT,bW] at t3;simp only [VR] at hx;obtain⟨hid,l,k,a,cap,q1,q2,rfl,q4,q5⟩:=hx;have hlk:l+k=(dec (e0.den E.ρ)).l.length:=by omega
          have hn0:(dec (e0.den E.ρ)).l.length-l=k:=by omega
          have hwz:=AL (ρ:=E.ρ) hzz;have hrz:Ep E.ro w.heap (rowOf t') (dec (zz.den E.ρ)) z.cells.toList:=AO hz.1 hzz
          have aGr:bT E w.heap (jP (rowOf t') (.dat (dec (zz.den E.ρ)))) z.cells.toList:=by rw [iO];simp only [SE.den,aC];exact hrz
          have hrep: ∀m:Nat,aK E.ρ (rowOf t') [] (List.replicate m (dec (zz.den E.ρ))) 0=repeatL (jP (rowOf t') (.dat (dec (zz.den E.ρ)))) m:=by
           intro m
           induction m with
           |zero=>rfl
           |succ m ih=> simp only [aJL,aK,dX,repeatL];rw [nZ _ 1 0,ih]
          have hv:bT E w.heap (aK E.ρ (rowOf t') [] (List.replicate k (dec (zz.den E.ρ))) 0) (repeatL z.cells.toList k):=by rw [hrep];exact qN aGr k
          obtain⟨w',f1,f2,f3⟩:=LX (P:=P) r hl (n:=l) (mm:=k) (by omega) (aIH) (fun d hd=>by rw [aJW hd]; exact hwz) hv (fun u hu=>hz.2 u (qM hu)) (e1:=.op .fill e0 (iL (II lo) zz)) (by
           simp only [iL,SE.den,jC.den,aC,pU,D.n,q1,aHH,hn0,hlk]
           rw [List.drop_length,aHU])
          refine⟨rfl,hp3,rfl,w',E,?_,f2,f3⟩;rcases aIt k with hk0|hk0
          ·subst hk0;simp only [repeatL] at f1
           have:w'=w:=by simp [storeCells] at f1;exact f1.symm
           subst this;simp [Builtin.clear_,run_underlying hu]
          ·have ha:a=⟨(E.θ id).1,(E.θ id).2+l*(rowOf t').es,none⟩:=by
            simp only [gJ] at q5;rcases q5 with q5|q5
            ·exact q5.1
            ·omega
           have aB3:z.cells.toList≠[]:=by intro hx;have:=Ep.length hrz;rw [hx] at this;simp at this;omega
           have hzc:(Builtin.zeroCells z.cells k).toList=repeatL z.cells.toList k:=Bj z.cells aB3 k;subst ha;obtain⟨j,rfl⟩ : ∃j,k=j+1:=⟨k-1,by omega⟩;simp [Builtin.clear_,run_underlying hu,zeroValue,typeInfo,h1,h3,hzc,f1]
    ·simp [T.leaf] at h
   ·simp [T.leaf] at h
  ·simp [T.leaf] at h
 ·simp [T.leaf] at h
end
theorem qP (l:List Nat):(oW l).l.length=l.length:=by simp [oW]
theorem aiJ {a b:List Nat} (h:oW a=oW b):a=b:=by
 have:=O6 h
 induction a generalizing b with
 |nil=>cases b with
  |nil=>rfl
  |cons y b=>simp at this
 |cons x a ih=>cases b with
  |nil=>simp at this
  |cons y b=> simp only [aHo,List.cons.injEq,D.i.injEq,Int.ofNat_eq_natCast,aIN] at this;rw [this.1,ih (b:=b) (by unfold oW; exact congrArg dL (by simpa using this.2)) (by simpa using this.2)]
theorem O5: ∀(x y:List Nat),X8 (x.map fun b=>D.i (Int.ofNat b)) (y.map fun b=>D.i (Int.ofNat b))=bytesLess x y
 |[],[]=>rfl
 |[],_::_=>rfl
 |_::_,[]=>rfl
 |a::x,b::y=>by
  simp only [aHo,X8,bytesLess,D.n,O5 x y];have i1:(Int.ofNat a<Int.ofNat b)=(a<b):=propext aIX;have i2:(Int.ofNat b<Int.ofNat a)=(b<a):=propext aIX;simp only [i1,i2];rcases aJM a b with h|h|h
  ·have h1:a.blt b=true:=by simp [Nat.blt]; omega
   simp [h,h1]
  ·subst h;have h1:a.blt a=false:=by rw [aIv]; simp [Nat.blt]
   simp [h1]
  ·have h2:a.blt b=false:=by rw [aIv]; simp [Nat.blt]; omega
   have h3:a.beq b=false:=by rw [aIv]; simp; omega
   have h4: ¬a<b:=by omega
   simp [h,h2,h3,h4]
section
variable {P:Program} {E:En} {w:World}
theorem VR.avF {h:Array Obj} {e:SE} {v:Value} (hv:VR E h (.nC e) v): ∃l:List Nat,v= .string (dH l)/\(∀b∈l,b<256)/\dec (e.den E.ρ)=oW l:=by
 simp only [VR] at hv;obtain⟨s,rfl,hs⟩:=hv.string;refine⟨bytesOf s,by rw [oI],FH s,?_⟩;rw [hs,Hq _ (FH s)]
 conv=>lhs; rw [<- oI s]
 simp [Bd,dH]
theorem VR.amS {h:Array Obj} {e:SE} {l:List Nat} (hl: ∀b∈l,b<256) (he:dec (e.den E.ρ)=oW l):VR E h (.nC e) (.string (dH l)):=by simp only [VR];rw [he,Hq _ hl];have:=Rd.str (ro:=E.ro) (h:=h) (dH l);simpa [Bd,dH] using this
theorem ML {h:Array Obj} {x:AV} {u:Value} {e:SE} (hx:VR E h x u) (hs:AU x=some e): ∃l:List Nat,u= .string (dH l)/\(∀b∈l,b<256)/\dec (e.den E.ρ)=oW l:=by
 unfold AU at hs;split at hs
 ·simp only [aHe] at hs;subst hs;simp only [VR] at hx;exact⟨_,hx.1,hx.2,by simp only [SE.den,aC]⟩
 ·simp only [aHe] at hs;subst hs;exact hx.avF
 ·simp at hs
theorem aaA {tt:TT} (htt:fE P tt) {s s':St} (hp:bK E.ρ s.pc) {ty:Nat} {e:SE} {ix v:AV} {u ui:Value} (hx:VR E w.heap (.nC e) u) (hix:VR E w.heap ix ui) (h:(Vg tt s ty e ix).leaf E.ρ=some (v,s')) :
 s'.slots=s.slots/\s'.h=s.h/\bK E.ρ s'.pc/\∃r,(Instr.index ty u ui).run P w= .ok r w/\VR E w.heap v r:=by
 unfold Vg at h;split at h
 ·rename_i kd i;split at h
  ·rename_i ti hti;split at h
   ·rename_i hk;obtain⟨pc',hp',h1,h2,h3⟩:=sQ hp h;have:=aF h3;simp only [aHf] at this;obtain⟨rfl,rfl⟩:=this;refine⟨rfl,rfl,hp',?_⟩;obtain⟨l,rfl,hb,hd⟩:=hx.avF;simp only [VR] at hix;subst hix;rw [bW,hd,qP] at h2;obtain⟨k,hk2⟩ : ∃k:Nat,i.den E.ρ=(k:Int):=⟨(i.den E.ρ).toNat,by omega⟩;have hlt:k<l.length:=by omega
    have hg:(dH l)[k]?=some (UInt8.ofNat l[k]):=by rw [MO,aHu hlt]; rfl
    have h256:=hb l[k] (aHk hlt);rw [hk2];refine⟨_,by simp [Instr.index,asIntOf,run_underlying (iK (htt ty ti hti) hk),hg]; rfl,?_⟩
    have hdk:(dec (e.den E.ρ)).l[k]?=some (.i (Int.ofNat l[k])):=by rw [hd];simp only [oW,aA,aHG,aHu hlt,aHV]
    simp only [VR,IG,Ju E.ρ e i hk2 hdk,D.n];congr 1;simp;omega
   ·simp [T.leaf] at h
  ·simp [T.leaf] at h
 ·simp [T.leaf] at h
theorem Z9 {tt:TT} (htt:fE P tt) {s s':St} (hp:bK E.ρ s.pc) {ty:Nat} {e:SE} {lo hi mx:Option AV} {lo' hi' mx':Option Value} {v:AV} {u:Value} (hx:VR E w.heap (.nC e) u)
 (hlo:jH E w.heap lo lo') (hhi:jH E w.heap hi hi') (hmx:jH E w.heap mx mx') (h:(Vf tt s ty e lo hi mx).leaf E.ρ=some (v,s')) :
 s'.slots=s.slots/\s'.h=s.h/\bK E.ρ s'.pc/\∃r,(Instr.sliceAt ty u lo' hi' mx').run P w= .ok r w/\VR E w.heap v r:=by
 unfold Vf at h;split at h
 ·simp [T.leaf] at h
 ·simp only [jH] at hmx;subst hmx;split at h
  ·simp [T.leaf] at h
  ·rename_i ti hti;split at h
   ·rename_i hk;have hu:=iK (htt ty ti hti) hk;split at h
    ·simp [T.leaf] at h
    ·rename_i ql hql;split at h
     ·simp [T.leaf] at h
     ·rename_i qh hqh;obtain⟨pc1,hp1,h1⟩:=dB hp h;split at h1
      ·simp [T.leaf] at h1
      ·rename_i t1;obtain⟨pc2,hp2,h2⟩:=dB (s:={ s with pc:=pc1 }) hp1 h1;split at h2
       ·simp [T.leaf] at h2
       ·rename_i t2;obtain⟨pc3,hp3,h3⟩:=dB (s:={ s with pc:=pc2 }) hp2 h2;split at h3
        ·simp [T.leaf] at h3
        ·rename_i t3;have:=aF h3;simp only [aHf] at this;obtain⟨rfl,rfl⟩:=this;refine⟨rfl,rfl,hp3,?_⟩;obtain⟨l,rfl,hb,hd⟩:=hx.avF;rw [dU,decide_eq_false_iff_not] at t1 t2 t3;rw [bW,hd,qP] at t3;simp only [SE.den,aIB] at t1;obtain⟨a,ha⟩ : ∃a:Nat,ql.den E.ρ=(a:Int):=⟨(ql.den E.ρ).toNat,by omega⟩;obtain⟨b,hbb⟩ : ∃b:Nat,qh.den E.ρ=(b:Int):=⟨(qh.den E.ρ).toNat,by omega⟩;have hle:b<=l.length:=by omega
         have hab:a<=b:=by omega
         obtain⟨lo2,hlo2,hbl⟩:=anG hql hlo ha
         have hhi2: ∃hi2,jH E w.heap hi2 hi'/\bnd hi2 l.length l.length=some b:=by
          unfold hiE at hqh;split at hqh
          ·simp only [aHe] at hqh;subst hqh;rw [bW,hd,qP] at hbb;have:b=l.length:=by omega
           subst this;exact⟨none,hhi,by simp [bnd]⟩
          ·split at hqh
           ·simp only [aHe] at hqh;subst hqh;exact⟨_,Ll hbb hhi,LM hle⟩
           ·simp at hqh
         obtain⟨hi2,hhi2,Ik⟩:=hhi2;obtain⟨e1,e2⟩:=iU (P:=P) (w:=w) (isSlice:=false) (len:=l.length) (cap:=l.length) (m0:=l.length) (d:=0) hlo2 hhi2 (mx:=none) (mx':=none) rfl (by simp) (.inl ⟨rfl,rfl,aHh _⟩) Ik ⟨fun _=>aHh _,by simp⟩ (hbl b hab);refine⟨.string ((dH l).extract a b),?_,?_⟩
         ·rw [<- oH] at e1;simp [Instr.sliceAt,run_underlying hu,Instr.slice,e1]
         ·rw [zL];refine VR.amS (fun c hc=>hb c (aHS (aHQ hc))) ?_;simp only [iL,SE.den,jC.den,aC,pU,D.hd,D.l,aHA,aHp,aHl,D.n,ha,hbb,aHH,hd];simp only [oW,aA,aIS,aJb]
   ·simp [T.leaf] at h
theorem Us {x y:AV} {a b:SE} (h:KT x y=some (a,b)):AU x=some a/\AU y=some b:=by
 unfold KT at h;split at h
 ·simp at h
 ·split at h
  ·simp at h
  ·rename_i c hc;split at h
   ·simp at h
   ·rename_i d hd;simp only [aHe,aHf] at h;exact⟨by rw [hc,h.1],by rw [hd,h.2]⟩
theorem QU (ρ:Nat->Int) {a b:SE} {x y:List Nat} (ha:dec (a.den ρ)=oW x) (hb:dec (b.den ρ)=oW y):(QV a b).den ρ=bytesLess x y:=by simp only [QV,SB.den,SE.den,jC.den,ha,hb,oW,aA];have:=O5 x y;rw [this];cases bytesLess x y<;>rfl
theorem H7: ∀(x y:List Nat),(bytesLess x y||jT x y)=!(bytesLess y x)
 |[],[]=>rfl
 |[],_::_=>rfl
 |_::_,[]=>rfl
 |a::x,b::y=>by
  have ih:=H7 x y;simp only [bytesLess,jT];rcases aJM a b with h|h|h
  ·have h1:a.blt b=true:=by simp [Nat.blt]; omega
   have h2:b.blt a=false:=by rw [aIv]; simp [Nat.blt]; omega
   have h3:b.beq a=false:=by rw [aIv]; simp; omega
   simp [h1,h2,h3]
  ·subst h;have h1:a.blt a=false:=by rw [aIv]; simp [Nat.blt]
   simp [h1,ih]
  ·have h1:b.blt a=true:=by simp [Nat.blt]; omega
   have h2:a.blt b=false:=by rw [aIv]; simp [Nat.blt]; omega
   have h3:a.beq b=false:=by rw [aIv]; simp; omega
   simp [h1,h2,h3]
theorem ahZ {s s':St} (hp:bK E.ρ s.pc) {t:Nat} {op:BinOp} {x y v:AV} {a b:SE} {u u':Value} (hx:VR E w.heap x u) (hy:VR E w.heap y u') (hs:KT x y=some (a,b)) (h:(aaB op a b s).leaf E.ρ=some (v,s')) :
 s'.slots=s.slots/\s'.h=s.h/\bK E.ρ s'.pc/\(∃r,(binOp op t u u').run P w= .ok r w/\VR E w.heap v r)/\(∀cs ds,¬(u= .agg cs/\u'= .agg ds))/\¬(u= .nilIface/\u'= .nilIface):=by
 obtain⟨hsx,hsy⟩:=Us hs;obtain⟨l,rfl,hbl,hdl⟩:=ML hx hsx;obtain⟨m,rfl,hbm,hdm⟩:=ML hy hsy
 have heq:((BL (rW a) (rW b)).den E.ρ)=jT l m:=by rw [qL,qF,qF,hdl,hdm,aHY,beq_iff_eq,qH];exact⟨fun q=>aiJ (gI q),fun q=>by rw [q]⟩
 have hne:(∀cs ds,¬(Value.string (dH l)= .agg cs/\Value.string (dH m)= .agg ds))/\¬(Value.string (dH l)= .nilIface/\Value.string (dH m)= .nilIface):=⟨by simp,by simp⟩
 have fin: ∀(c:AV) (o:BinOp),WT o l m=some c->(∀q,VR E w.heap c q->VR E w.heap v q)->(∀q,(Op.stringOp o (dH l) (dH m)).run P w= .ok q w->(binOp o t (.string (dH l)) (.string (dH m))).run P w= .ok q w)->
  ∃r,(binOp o t (.string (dH l)) (.string (dH m))).run P w= .ok r w/\VR E w.heap v r:=by
  intro c o ho hc hq;obtain⟨r,h1,h2⟩:=WS (P:=P) (E:=E) (w:=w) hbl hbm ho;exact⟨r,hq _ h1,hc r h2⟩
 unfold aaB at h;split at h
 ·obtain⟨pc1,hp1,h1⟩:=dB hp h;split at h1
  ·simp [T.leaf] at h1
  ·rename_i t1;obtain⟨pc2,hp2,h2⟩:=dB (s:={ s with pc:=pc1 }) hp1 h1;split at h2
   ·simp [T.leaf] at h2
   ·rename_i t2;have:=aF h2;simp only [aHf] at this;obtain⟨rfl,rfl⟩:=this;rw [dU,decide_eq_true_eq,bW,hdl,qP] at t1;rw [dU,decide_eq_true_eq,bW,hdm,qP] at t2;simp only [SE.den] at t1 t2;refine⟨rfl,rfl,hp2,⟨.string (dH (l++m)),?_,?_⟩,hne⟩
    ·have hm:IntKind.i64.max=9223372036854775807:=by decide
     have:(Op.stringOp .add (dH l) (dH m)).run P w= .ok (.string (dH l++dH m)) w:=by simp only [Op.stringOp,oH,hm];rw [aHc (by omega)];rfl
     have e:dH l++dH m=dH (l++m):=by apply ByteArray.ext;simp [dH]
     rw [e] at this;simpa [binOp] using this
    ·refine VR.amS (fun c hc=>?_) ?_
     ·rcases aH1.1 hc with hc|hc
      ·exact hbl c hc
      ·exact hbm c hc
     ·simp only [SE.den,jC.den,aC,hdl,hdm];simp only [oW,aA,aIw]
 all_goals first
  |(simp [T.leaf] at h; done)
  |(have:=aF h
    simp only [aHf] at this;obtain⟨rfl,rfl⟩:=this;refine⟨rfl,rfl,hp,?_,hne⟩;refine fin _ _ rfl (fun q hq=>?_) (fun q hq=>by simpa [binOp] using hq);simp only [VR,SB.den,rX] at hq ⊢
    first
     |(rw [heq]; exact hq)
     |(rw [QU E.ρ hdl hdm]; exact hq)
     |(rw [QU E.ρ hdm hdl]; rw [H7] at hq; simpa using hq))
theorem aaR [Glob] {tt:TT} (htt:fE P tt) {s s':St} (r:bG E s.h w) (hp:bK E.ρ s.pc) {sT dT:Nat} {e:SE} {v:AV} {u:Value} (hx:VR E w.heap (.nC e) u) (h:(LD tt sT dT e s).leaf E.ρ=some (v,s')) :
 s'.slots=s.slots/\bK E.ρ s'.pc/\∃y w' E',(convert sT dT u).run P w= .ok y w'/\Stp E s.h w E' s'.h w'/\bG E' s'.h w'/\VR E' w'.heap v y:=by
 unfold LD at h;split at h
 ·simp [T.leaf] at h
 ·rename_i j hj;split at h
  ·rename_i hjk;split at h
   ·simp [T.leaf] at h
   ·rename_i i hi;split at h
    ·rename_i el hik;split at h
     ·rename_i ie hie;split at h
      ·rename_i k aGA;split at h
       ·obtain⟨l,rfl,hb,hd⟩:=hx.avF
        have hcv:vN tt sT dT (.str l) s.h=some (.slice s.h.fresh 0 l.length (.rest 1),s.h.new (.cells (l.map fun c=> .int .u8 (.lit (Int.ofNat c))) el)):=by unfold vN;simp only [hj,hi,hik,hie,aGA,hjk];simp
        obtain⟨y,w',E',g1,g2,g3,g4⟩:=G9 (P:=P) htt r (x:=.str l) (u:=.string (dH l)) (by simp only [VR]; exact⟨trivial,hb⟩) hcv;obtain⟨pc1,hp1,h1⟩:=dB hp h;rw [qL,bW,hd,qP] at h1;split at h1
        ·rename_i hz;have:=aF h1;simp only [aHf] at this;obtain⟨rfl,rfl⟩:=this;simp only [SE.den,beq_iff_eq] at hz;have hl0:l= []:=aH6 (by omega);subst hl0;exact⟨rfl,hp1,y,w',E',g1,g2,g3,g4⟩
        ·rename_i hz;have:=aF h1;simp only [aHf] at this;obtain⟨rfl,rfl⟩:=this;simp only [SE.den,beq_eq_false_iff_ne,ne_eq] at hz;have hd':dec (e.den E'.ρ)=oW l:=by rw [g2.ρ]; exact hd
         have hcc:bV E'.ρ e 14 []=l.map fun c=>AV.int .u8 (.lit (Int.ofNat c)):=by
          unfold bV;rw [hd'];simp only [oW,aA]
          have: ∀(l:List Nat) (i:Nat),aK E'.ρ (rowOf 14) [] (l.map fun b=>D.i (Int.ofNat b)) i=l.map fun c=>AV.int .u8 (.lit (Int.ofNat c)):=by
           intro l
           induction l with
           |nil=>intro i; rfl
           |cons a l ih=> intro i;simp only [aHo,aK,dX,ih];rfl
          exact this l 0
         have r2:=Le (e1:=e) (t:=14) g3 (by
          rw [hd'];refine⟨by simp only [oW,aA],fun x hx=>?_,fun q=>?_⟩
          ·simp only [oW,aA,aHF] at hx;obtain⟨b,_,rfl⟩:=hx;rfl
          ·have:=congrArg List.length q;rw [qP] at this
           exact hz (by simp at this; simp [this])) (by rw [hcc]) (fun us hu=>by rw [hcc]; exact hu)
         refine⟨rfl,hp1,y,w',E',g1,g2.right (DR rfl rfl fun _=>rfl),r2,?_⟩;simp only [VR] at g4 ⊢;obtain⟨q1,a,cap,q2,q3,q4⟩:=g4;exact⟨q1,l.length,a,cap,by rw [bW,hd',qP],q2,q3,q4⟩
       ·simp [T.leaf] at h
      ·simp [T.leaf] at h
     ·simp [T.leaf] at h
    ·simp [T.leaf] at h
  ·simp [T.leaf] at h
end
section
variable {P:Program} {E:En} {w:World}
def aeH (c:CK):Prop:=(∃k,c= .int k)\/c= .str
theorem Sm (t:Nat):aeH (mapOf t).1:=by
 unfold mapOf;split<;>first |exact .inl ⟨_,rfl⟩|exact .inr rfl
theorem bytes_beq (p q:ByteArray):(p == q)=decide (p=q):=by
 rw [aHY,decide_eq_true_eq];have e:(p == q)=(p.data == q.data):=rfl;rw [e,beq_iff_eq];constructor
 ·intro h; cases p; cases q; simp only at h; rw [h]
 ·intro h; rw [h]
theorem anL {ro:Nat->Prop} {h:Array Obj} {c:CK} (hc:aeH c) {dt:TypeDesc} (hd:Jw dt (JU c)) {d d':D} {u u':Value} (r:Rd ro h c d u) (r':Rd ro h c d' u') :
 Instr.sameNow dt u u'=some (decide (d=d'))/\(d=d'->∀n,Instr.sameBits (n+1) u' u=true):=by
 rcases hc with ⟨k,rfl⟩|rfl
 ·simp only [JU] at hd;obtain⟨k',rfl⟩:=hd
  cases r with
  |int _ n=>
   cases r' with
   |int _ m=>
    refine⟨?_,fun hh n=>?_⟩
    ·simp only [Instr.sameNow,D.i.injEq]
     first
      |rfl
      |(congr 1; rw [aHY]; simp)
    ·simp only [D.i.injEq] at hh;subst hh;simp [Instr.sameBits]
 ·simp only [JU] at hd;simp only [Jw] at hd;subst hd;obtain⟨a,rfl,rfl⟩:=r.string;obtain⟨b,rfl,rfl⟩:=r'.string;refine⟨?_,fun hh n=>?_⟩
  ·simp only [Instr.sameNow,bytes_beq];congr 1;rw [decide_eq_decide];exact⟨fun q=>by rw [q],fun q=>O1 q⟩
  ·have:=O1 hh;subst this;simp [Instr.sameBits,bytes_beq]
theorem GX {ro:Nat->Prop} {h:Array Obj} {t:Nat} {dt:TypeDesc} (hd:Jw dt (JU (mapOf t).1)) {kd:D} {u:Value} (hk:Rd ro h (mapOf t).1 kd u): ∀{ds:List D} {ents:List MapEntry} {i:Nat},
 pJ ro h t ds ents->
 (rV ds kd=none/\Instr.findNow dt u ents i=some none/\(∀v,Fa ds kd v=ds++ [.p kd v])/\UO ds kd=ds)\/
 (∃j x e,rV ds kd=some x/\ents[j]?=some e/\Rd ro h (mapOf t).2 x e.val/\Instr.findNow dt u ents i=some (some (i+j,e.val))/\(∀n,Instr.sameBits (n+1) e.key u=true)/\(∀v,Fa ds kd v=ds.set j (.p kd v))/\UO ds kd=ds.eraseIdx j)
 |[],ents,i,he=>by simp only [pJ] at he;subst he;exact .inl ⟨rfl,by simp [Instr.findNow],fun _=>rfl,rfl⟩
 |d::ds,ents,i,he=>by
  obtain⟨e,r,rfl,h1,h2,h3,h4⟩:=he;obtain⟨g1,g2⟩:=anL (Sm t) hd hk h2;by_cases hkd:X9 d=kd
  ·have g1':Instr.sameNow dt u e.key=some true:=by rw [g1,decide_eq_true hkd.symm]
   refine .inr ⟨0,axN d,e,by simp only [rV,aHd hkd],rfl,h3,by simp [Instr.findNow,g1'],g2 hkd.symm,fun v=>by simp only [Fa,aHd hkd,aJd],by simp only [UO,aHd hkd,List.eraseIdx_cons_zero]⟩
  ·have g1':Instr.sameNow dt u e.key=some false:=by rw [g1,decide_eq_false (fun q=>hkd q.symm)]
   rcases GX (i:=i+1) hd hk h4 with ⟨q1,q2,q3,q4⟩|⟨j,x,e',q1,q2,q3,q4,q5,q6,q7⟩
   ·exact .inl ⟨by simp only [rV,aHc hkd,q1],by simp [Instr.findNow,g1',q2],fun v=>by simp only [Fa,aHc hkd,q3,aHM],by simp only [UO,aHc hkd,q4]⟩
   ·refine .inr ⟨j+1,x,e',by simp only [rV,aHc hkd,q1],by simpa using q2,q3,?_,q5,fun v=>by simp only [Fa,aHc hkd,q6,aJe],by simp only [UO,aHc hkd,q7,aJD]⟩;simp only [Instr.findNow,g1',q4]; congr 3; omega
theorem pJ.set {ro:Nat->Prop} {h:Array Obj} {t:Nat} {kd vd:D} {uk uv:Value} (hk:Rd ro h (mapOf t).1 kd uk) (hv:Rd ro h (mapOf t).2 vd uv): ∀{ds:List D} {ents:List MapEntry} {i:Nat} {e:MapEntry},pJ ro h t ds ents->ents[i]?=some e->
 pJ ro h t (ds.set i (.p kd vd)) (ents.set i { e with key:=uk,val:=uv })
 |[],ents,i,e,he,hi=>by simp only [pJ] at he; subst he; simp at hi
 |d::ds,ents,0,e,he,hi=>by obtain⟨e0,r,rfl,h1,h2,h3,h4⟩:=he;simp at hi;subst hi;simp only [aJd];exact⟨_,r,rfl,rfl,hk,hv,h4⟩
 |d::ds,ents,i+1,e,he,hi=>by obtain⟨e0,r,rfl,h1,h2,h3,h4⟩:=he;simp only [aJe];exact⟨e0,_,rfl,h1,h2,h3,pJ.set hk hv h4 (by simpa using hi)⟩
theorem pJ.push {ro:Nat->Prop} {h:Array Obj} {t:Nat} {kd vd:D} {uk uv:Value} {c:Nat} (hk:Rd ro h (mapOf t).1 kd uk) (hv:Rd ro h (mapOf t).2 vd uv): ∀{ds:List D} {ents:List MapEntry},pJ ro h t ds ents->
 pJ ro h t (ds++ [.p kd vd]) (ents++ [{ key:=uk,val:=uv,born:=c }])
 |[],ents,he=>by simp only [pJ] at he;subst he;exact⟨_,[],rfl,rfl,hk,hv,rfl⟩
 |d::ds,ents,he=>by obtain⟨e0,r,rfl,h1,h2,h3,h4⟩:=he;simp only [aHM];exact⟨e0,_,rfl,h1,h2,h3,pJ.push hk hv h4⟩
theorem pJ.erase {ro:Nat->Prop} {h:Array Obj} {t:Nat}: ∀{ds:List D} {ents:List MapEntry} {i:Nat},pJ ro h t ds ents->pJ ro h t (ds.eraseIdx i) (ents.eraseIdx i)
 |[],ents,i,he=>by simp only [pJ] at he; subst he; simp [pJ]
 |d::ds,ents,0,he=>by obtain⟨e0,r,rfl,h1,h2,h3,h4⟩:=he;simpa using h4
 |d::ds,ents,i+1,he=>by obtain⟨e0,r,rfl,h1,h2,h3,h4⟩:=he;simp only [aJD];exact⟨e0,_,rfl,h1,h2,h3,pJ.erase h4⟩
theorem E8 {m:AV} {h:Hp} {id t:Nat} {e:SE} (hm:Ew m h=some (id,e,t)):m= .map id/\h.get id=some (.jF e t):=by
 unfold Ew at hm;split at hm
 ·split at hm
  ·rename_i o ho;split at hm
   ·simp only [aHe,aHf] at hm;obtain⟨rfl,rfl,rfl⟩:=hm;exact⟨rfl,ho⟩
   ·simp at hm
  ·simp at hm
 ·simp at hm
theorem Jb {tt:TT} (htt:fE P tt) {h:Array Obj} {ty t:Nat} {k:AV} {uk:Value} {a:SE} {ie:TI} (hk:VR E h k uk) (hm:mapKey tt ty t k=some (a,ie)) :
 ∃kt et dt,P.underlying ty=some (.map kt et)/\P.underlying kt=some dt/\Jw dt (JU (mapOf t).1)/\rQ P et ie/\Rd E.ro h (mapOf t).1 (dec (a.den E.ρ)) uk:=by
 unfold mapKey at hm;split at hm
 ·simp at hm
 ·rename_i ti hti;split at hm
  ·rename_i kt et hkind;split at hm
   ·simp at hm
   ·rename_i ki hki;split at hm
    ·rename_i hkk;split at hm
     ·simp at hm
     ·rename_i ie' hie;split at hm
      ·simp at hm
      ·rename_i a0 ha0;simp only [aHe,aHf] at hm;obtain⟨rfl,rfl⟩:=hm;have hu:=FV (htt ty ti hti) hkind
       have hkd: ∃dt,P.underlying kt=some dt/\Jw dt (JU (mapOf t).1):=by
        rcases Sm t with ⟨q,hq⟩|hq
        ·rw [hq] at hkk ⊢;exact⟨_,Dx (htt kt ki hki) hkk,q,rfl⟩
        ·rw [hq] at hkk ⊢;exact⟨_,iK (htt kt ki hki) hkk,rfl⟩
       obtain⟨dt,h1,h2⟩:=hkd;refine⟨kt,et,dt,hu,h1,h2,htt et ie' hie,?_⟩;rw [qF,aC];exact (qQ hk ha0).rd (vP ha0)
    ·simp at hm
  ·simp at hm
theorem Ja [Glob] {H:Hp} (r:bG E H w) {id t:Nat} {e:SE} (hl:H.get id=some (.jF e t)): ∃ents c',w.heap[(E.θ id).1]?=some (.map ents c')/\pJ E.ro w.heap t (dec (e.den E.ρ)).l ents.toList:=
 (r.live id _ hl).2.1
theorem qR {t:Nat} {c:CK} {d:TypeDesc} (hu:P.underlying t=some d) (hd:Jw d (JU c)) (b:Bool) (v:Value):(Instr.checkKey b 10000 t v).run P w= .ok () w:=jE hu hd b v
theorem ahS {ρ:Nat->Int} (e a:SE):(aoK e a).den ρ=((SE.op .NK e a).den ρ == (SE.lit 0).den ρ):=by
 unfold aoK;split
 ·split
  ·simp only [SB.den,SE.den,jC.den,aC];split<;>rename_i hq<;>simp [hq]
  ·rfl
 ·rfl
theorem aaI [Glob] {tt:TT} (htt:fE P tt) {s s':St} (r:bG E s.h w) (hp:bK E.ρ s.pc) {ty id t:Nat} {m k v:AV} {e:SE} {um uk:Value} {ok:Bool} (hm:VR E w.heap m um) (hk:VR E w.heap k uk) (hat:Ew m s.h=some (id,e,t)) (h:(G5 tt ty k ok e t s).leaf E.ρ=some (v,s')) :
 s'.slots=s.slots/\s'.h=s.h/\bK E.ρ s'.pc/\∃x,(Instr.lookup ty um uk ok).run P w= .ok x w/\VR E w.heap v x:=by
 obtain⟨rfl,hl⟩:=E8 hat
 unfold G5 at h;split at h
 ·simp [T.leaf] at h
 ·rename_i a ie hmk;obtain⟨kt,et,dt,hu,hd1,hd2,hie,hrk⟩:=Jb htt hk hmk;split at h
  ·simp [T.leaf] at h
  ·rename_i z hz;obtain⟨u0,z1,z2⟩:=QD (P:=P) (w:=w) (E:=E) hie hz;obtain⟨ents,c',g1,g2⟩:=Ja r hl;have hg:=mJ (P:=P) g1 (by simp);simp only [VR] at hm;obtain⟨rfl,hid⟩:=hm;have hf:=GX (i:=0) hd2 hrk g2;obtain⟨pc1,hp1,h1⟩:=dB hp h;rw [ahS] at h1;simp only [SE.den,jC.den] at h1;rcases hf with ⟨q1,q2,_,_⟩|⟨j,x,en,q1,q2,q3,q4,q5,_,_⟩
   ·rw [q1] at h1;have:=aF h1;simp only [aHf] at this;obtain⟨rfl,rfl⟩:=this;refine⟨rfl,rfl,hp1,(if ok then .tuple #[u0,.bool false] else u0),?_,?_⟩
    ·cases ok<;>simp [Instr.lookup,run_underlying hu,hg,qR hd1 hd2,iW hd1 q2,z1]
    ·cases ok
     ·exact z2
     ·simp only [if_true,VR,bT];exact⟨[u0,.bool false],rfl,_,_,rfl,z2,_,_,rfl,by simp [SB.den],rfl⟩
   ·rw [q1] at h1;have:=aF h1;simp only [aHf] at this;obtain⟨rfl,rfl⟩:=this
    have hval:VR E w.heap (AP (mapOf t).2 (.op .NP e a)) en.val:=by rw [vS];simp only [SE.den,jC.den,aC,q1,aHl];exact q3.cell
    refine⟨rfl,rfl,hp1,(if ok then .tuple #[en.val,.bool true] else en.val),?_,?_⟩
    ·cases ok<;>simp [Instr.lookup,run_underlying hu,hg,qR hd1 hd2,iW hd1 q4]
    ·cases ok
     ·exact hval
     ·simp only [if_true,VR,bT];exact⟨[en.val,.bool true],rfl,_,_,rfl,hval,_,_,rfl,by simp [SB.den],rfl⟩
theorem aiA [Glob] {tt:TT} (htt:fE P tt) {s s':St} (r:bG E s.h w) {ty id t:Nat} {m k x v:AV} {e:SE} {um uk ux:Value} (hm:VR E w.heap m um) (hk:VR E w.heap k uk) (hx:VR E w.heap x ux) (hat:Ew m s.h=some (id,e,t)) (h:(aaF tt ty id k x e t s).leaf E.ρ=some (v,s')) :
 s'.slots=s.slots/\s'.pc=s.pc/\v=AV.undef/\∃w',(Instr.mapUpdate ty um uk ux).run P w= .ok () w'/\Stp E s.h w E s'.h w'/\bG E s'.h w':=by
 obtain⟨rfl,hl⟩:=E8 hat
 unfold aaF at h;split at h
 ·simp [T.leaf] at h
 ·rename_i a ie hmk;obtain⟨kt,et,dt,hu,hd1,hd2,hie,hrk⟩:=Jb htt hk hmk;split at h
  ·simp [T.leaf] at h
  ·rename_i b hb;have:=aF h;simp only [aHf] at this;obtain⟨rfl,rfl⟩:=this;have hrx:=(qQ hx hb).rd (vP hb);obtain⟨ents,c',g1,g2⟩:=Ja r hl;have hg:=mJ (P:=P) g1 (by simp);simp only [VR] at hm;obtain⟨rfl,hid⟩:=hm;refine⟨rfl,rfl,rfl,?_⟩
   have hden:dec ((SE.op .I9 e (iL a b)).den E.ρ)=dL (Fa (dec (e.den E.ρ)).l (dec (a.den E.ρ)) (dec (b.den E.ρ))):=by simp only [iL,SE.den,jC.den,aC]
   rcases GX (i:=0) hd2 hrk g2 with ⟨q1,q2,q3,_⟩|⟨j,y,en,q1,q2,q3,q4,q5,q6,_⟩
   ·refine⟨_,?_,kT r hl (.jF (.op .I9 e (iL a b)) t) (.map (ents.push { key:=uk,val:=ux,born:=c' }) (c'+1)) ?_⟩
    ·simp [Instr.mapUpdate,run_underlying hu,hg,qR hd1 hd2,iW hd1 q2,lZ (P:=P) g1]
    ·intro h' hh kp;simp only [OR];refine⟨_,_,hh,?_⟩;rw [hden,aA,q3,Array.toList_push];exact pJ.push (hrk.keep kp.ro kp.MW) (hrx.keep kp.ro kp.MW) (g2.keep kp.ro kp.MW)
   ·simp only [aHn] at q4
    have hkt:(Instr.keyThatStays (((ents[j]?).map (·.key)).getD uk) uk).run P w= .ok uk w:=by have q2':=q2;rw [aHT] at q2';simp only [q2',aHV,aHl,Instr.keyThatStays];rw [aHd (q5 9999)];rfl
    refine⟨_,?_,kT r hl (.jF (.op .I9 e (iL a b)) t) (.map (ents.modify j fun e=>{ e with key:=uk,val:=ux }) c') ?_⟩
    ·simp [Instr.mapUpdate,run_underlying hu,hg,qR hd1 hd2,iW hd1 q4,hkt,lZ (P:=P) g1]
    ·intro h' hh kp;simp only [OR];refine⟨_,_,hh,?_⟩;rw [hden,aA,q6,NJ ents j en _ q2];exact pJ.set (hrk.keep kp.ro kp.MW) (hrx.keep kp.ro kp.MW) (g2.keep kp.ro kp.MW) q2
theorem Tf [Glob] {tt:TT} (htt:fE P tt) {s s':St} (r:bG E s.h w) (hp:bK E.ρ s.pc) {ty:Nat} {m k x v:AV} {um uk ux:Value} (hm:VR E w.heap m um) (hk:VR E w.heap k uk) (hx:VR E w.heap x ux) (h:(Vl tt ty m k x s).leaf E.ρ=some (v,s')) :
 s'.slots=s.slots/\bK E.ρ s'.pc/\v=AV.undef/\∃w' E',(Instr.mapUpdate ty um uk ux).run P w= .ok () w'/\Stp E s.h w E' s'.h w'/\bG E' s'.h w':=by
 unfold Vl at h;obtain⟨vs,h1,pc1,E1,hp1,f,q,g⟩:=wE rfl r hp h;have hρ:=f.ρ;rw [<- hρ] at hp1 g;have hv:=q [ux] (by simp only [bT]; exact⟨ux,[],rfl,hx,rfl⟩);split at g
 ·rename_i x1;simp only [bT] at hv;obtain⟨u1,us1,e1,hx1,e2⟩:=hv;subst e2;simp only [List.cons.injEq,and_true] at e1;subst e1;split at g
  ·rename_i id e t hat
   obtain⟨a1,a2,a3,w',a4,a5,a6⟩:=aiA htt (s:={ s with h:=h1,pc:=pc1 }) f.rel (VR.keep (f.fD.keeps r) _ _ hm) (VR.keep (f.fD.keeps r) _ _ hk) hx1 hat g;exact⟨a1,by rw [a2,<- hρ]; exact hp1,a3,w',E1,a4,f.fD.trans a5,a6⟩
  ·simp [T.leaf] at g
 ·simp [T.leaf] at g
theorem aiE [Glob] {tt:TT} (htt:fE P tt) {s s':St} (r:bG E s.h w) {ty id t ts:Nat} {m k v:AV} {e:SE} {um uk:Value} (hm:VR E w.heap m um) (hk:VR E w.heap k uk) (hat:Ew m s.h=some (id,e,t)) (h:(aaN tt ty id k e t s).leaf E.ρ=some (v,s')) (tr:Nat) :
 s'.slots=s.slots/\s'.pc=s.pc/\v=AV.undef/\∃w',(Builtin.delete_ #[ty,ts] tr #[um,uk]).run P w= .ok (.tuple #[]) w'/\Stp E s.h w E s'.h w'/\bG E s'.h w':=by
 obtain⟨rfl,hl⟩:=E8 hat
 unfold aaN at h;split at h
 ·simp [T.leaf] at h
 ·rename_i a ie hmk;obtain⟨kt,et,dt,hu,hd1,hd2,hie,hrk⟩:=Jb htt hk hmk;have:=aF h;simp only [aHf] at this;obtain⟨rfl,rfl⟩:=this;obtain⟨ents,c',g1,g2⟩:=Ja r hl;have hg:=mJ (P:=P) g1 (by simp);simp only [VR] at hm;obtain⟨rfl,hid⟩:=hm;refine⟨rfl,rfl,rfl,?_⟩
  have hden:dec ((SE.op .ZL e a).den E.ρ)=dL (UO (dec (e.den E.ρ)).l (dec (a.den E.ρ))):=by simp only [SE.den,jC.den,aC]
  rcases GX (i:=0) hd2 hrk g2 with ⟨q1,q2,_,q3⟩|⟨j,y,en,q1,q2,q3,q4,q5,_,q6⟩
  ·refine⟨_,?_,kT r hl (.jF (.op .ZL e a) t) (.map ents c') ?_⟩
   ·simp [Builtin.delete_,run_underlying hu,hg,qR hd1 hd2,iW hd1 q2,lZ (P:=P) g1]
   ·intro h' hh kp;simp only [OR];refine⟨_,_,hh,?_⟩;rw [hden,aA,q3];exact g2.keep kp.ro kp.MW
  ·simp only [aHn] at q4;refine⟨_,?_,kT r hl (.jF (.op .ZL e a) t) (.map (ents.eraseIdxIfInBounds j) c') ?_⟩
   ·simp [Builtin.delete_,run_underlying hu,hg,qR hd1 hd2,iW hd1 q4,lZ (P:=P) g1]
   ·intro h' hh kp;simp only [OR];refine⟨_,_,hh,?_⟩;have hil:j<ents.size:=by have:=(aHB.1 q2).1; simpa using this
    have:(ents.eraseIdxIfInBounds j).toList=ents.toList.eraseIdx j:=by simp [Array.eraseIdxIfInBounds,hil]
    rw [this,hden,aA,q6];exact pJ.erase (g2.keep kp.ro kp.MW)
end
section
variable {P:Program} {E:En} {w:World}
theorem anD [Glob] {tt:TT} (htt:fE P tt) {H:Hp} (r:bG E H w) {t e k:Nat} {i ie:TI} {k1 k2:IntKind} (hi:tt t=some i) (hk:i.kind= .slice e) (hie:tt e=some ie) (hz0:ie.zero.length=ie.size) (hs0:0<ie.size) (hb0:ie.bytes≠0) (hbm:ie.bytes*k<=140737488355328) (hpos:0<k) :
 ∃x w' E',(Instr.makeSlice t (.int k1 k) (.int k2 k)).run P w= .ok x w'/\Stp E H w E' (H.new (.cells (repeatL ie.zero k) e)) w'/\bG E' (H.new (.cells (repeatL ie.zero k) e)) w'/\VR E' w'.heap (.slice H.fresh 0 k (.rest ie.size)) x:=by
 have hti:=htt t i hi;have htie:=htt e ie hie;obtain⟨inf,z,g1,g2,g3,g4,g5⟩:=DX htie;have hz:=gB (E:=E) (h:=w.heap) g5;have hzl:z.cells.size=ie.size:=by have:=hz.1.length; simp only [aHL] at this; omega
 have hkb:k<=140737488355328:=by refine aHP ?_ hbm;exact Nat.le_mul_of_pos_left _ (by omega)
 have wn:IntKind.i64.wrap (k:Int)=(k:Int):=by rw [<- pW]; simp only [AY]; rw [aHd (by constructor<;>omega)]
 have ai: ∀(q:IntKind) (x:Int) (w:World),(asInt (Value.int q x)).run P w= .ok x w:=fun _ _ _=>rfl
 have hne:z.cells.toList≠[]:=by
  intro hx;have hx':z.cells.size=0:=by have:=congrArg List.length hx; simpa using this
  omega
 have hzz:=Bj z.cells hne k;rw [hzl] at hzz;obtain⟨us',e1⟩ : ∃us':Array Value,((Array.range (k*inf.size)).map (z.cells[·% z.cells.size]!))=us':=⟨_,rfl⟩
 have e1':us'.toList=repeatL z.cells.toList k:=by rw [<- e1,g2,hzl,hzz]
 have e2:bT E w.heap (repeatL ie.zero k) us'.toList:=by rw [e1']; exact qN hz.1 k
 have e3: ∀u∈us'.toList,u.oneCell'=true:=by rw [e1']; intro u hu; exact hz.2 u (qM hu)
 have hsz:us'.size=k*ie.size:=by rw [<- aHL,e1',repeatL_length,aHL,hzl]
 refine⟨.slice (some ⟨w.heap.size,0,none⟩) k k,{ w with heap:=w.heap.push (.cells us' e) },E.ext H.fresh (w.heap.size,0) us'.size,?_,?_⟩
 ·have t1: ¬((k:Int)<0):=by omega
  have t2: ¬((inf.bytes:Int)*(k:Int) > 2 ^ 48):=by have h1:((inf.bytes*k:Nat):Int)<=((140737488355328:Nat):Int):=Int.ofNat_le.2 (by rw [g3]; exact hbm);rw [Int.natCast_mul] at h1;omega
  have t4: ¬((k:Int) > (k:Int)):=by omega
  have t5:(askRoom (k*inf.bytes)).run P w= .ok () w:=by
   have: ¬(k*inf.bytes > roomBytes):=by unfold roomBytes;rw [aIx,g3];omega
   unfold askRoom;rw [aHc this];rfl
  have t6:(k:Int).toNat=k:=rfl
  have h0: ¬(k*inf.size=0):=by rw [g2];have:=aIV hpos hs0;omega
  simp only [Instr.makeSlice,Sem.run_bind,run_underlying (gX hti hk),Result.andThen_ok,ai,sizeOf,typeInfo,zeroValue,run_program,g1,g4,Sem.run_pure,newRow,Sem.run_ite,wn,t1,t2,t4,t6,h0,decide_false,aJa,aHv,if_false];rw [t5,Result.andThen_ok,e1];rfl
 ·obtain⟨s1,s2⟩:=lG r us' 0 0 e e2 e3 (fun i u hu=>by rw [<- aHT]; exact hu) (by omega) (w':={ w with heap:=w.heap.push (.cells us' e) }) rfl ⟨rfl,rfl,rfl⟩;refine⟨s1,s2,?_⟩;simp only [VR];refine⟨En.jZ _ _ _ _,⟨w.heap.size,0,none⟩,k,rfl,aHh _,?_⟩;simp only [gJ,En.ext_θ_new,En.ext_κ_new];left;exact⟨trivial,by rw [hsz,aHn]⟩
theorem aaH [Glob] {tt:TT} (htt:fE P tt) {s s':St} (r:bG E s.h w) (hp:bK E.ρ s.pc) {t:Nat} {l c v:AV} {lu cu:Value} (hl:VR E w.heap l lu) (hc:VR E w.heap c cu) (h:(Vo tt t l c s).leaf E.ρ=some (v,s')) :
 s'.slots=s.slots/\bK E.ρ s'.pc/\∃x w' E',(Instr.makeSlice t lu cu).run P w= .ok x w'/\Stp E s.h w E' s'.h w'/\bG E' s'.h w'/\VR E' w'.heap v x:=by
 unfold Vo at h;split at h
 ·rename_i k n;split at h
  ·rename_i k2 n2;split at h
   ·simp [T.leaf] at h
   ·rename_i hnn;have hnn:=dD _ _ hnn;subst hnn;simp only [VR] at hl hc;subst hl hc;split at h
    ·simp [T.leaf] at h
    ·rename_i i hi;split at h
     ·simp [T.leaf] at h
     ·rename_i o ho;split at h
      ·rename_i e hk;split at h
       ·simp [T.leaf] at h
       ·rename_i ie hie;split at h
        ·simp [T.leaf] at h
        ·rename_i z hz;split at h
         ·rename_i hcond;obtain⟨hes,hs0,hb0,hzl⟩:=hcond;obtain⟨pc1,hp1,h1⟩:=dB hp h;split at h1
          ·simp [T.leaf] at h1
          ·rename_i t1;obtain⟨pc2,hp2,h2⟩:=dB (s:={ s with pc:=pc1 }) hp1 h1;split at h2
           ·rename_i t2;split at h2
            ·rename_i v0 h0 hm;have:=aF h2;simp only [aHf] at this;obtain⟨rfl,rfl⟩:=this;rw [qL,beq_iff_eq] at t2;simp only [SE.den] at t2;rw [t2];obtain⟨x,w',E',q1,q2,q3,q4⟩:=CO (P:=P) htt r (lu:=.int k 0) (cu:=.int k2 0) (by simp only [VR,SE.den]) (by simp only [VR,SE.den]) hm;exact⟨rfl,hp2,x,w',E',q1,q2,q3,q4⟩
            ·simp [T.leaf] at h2
           ·rename_i t2;obtain⟨pc3,hp3,h3⟩:=dB (s:={ s with pc:=pc2 }) hp2 h2;split at h3
            ·rename_i t3;have:=aF h3;simp only [aHf] at this;obtain⟨rfl,rfl⟩:=this;rw [dU,decide_eq_false_iff_not] at t1;rw [qL,beq_eq_false_iff_ne] at t2;rw [dU,decide_eq_true_eq] at t3;simp only [SE.den] at t1 t2 t3;obtain⟨m,hm⟩ : ∃m:Nat,n.den E.ρ=(m:Int):=⟨(n.den E.ρ).toNat,by omega⟩;rw [hm] at t2 t3 ⊢;have hpos:0<m:=by omega
             have hbm:ie.bytes*m<=140737488355328:=by
              unfold roomOf at t3
              have h1:m<=140737488355328 / ie.bytes:=by rw [aIf] at t3;exact Nat.le_of_lt (aIX.1 t3)
              exact aHP (Nat.mul_le_mul_left _ h1) (Nat.mul_div_le _ _)
             obtain⟨x,w',E',q1,q2,q3,q4⟩:=anD (P:=P) (k1:=k) (k2:=k2) htt r hi hk hie hzl hs0 hb0 hbm hpos;have hρ:=q2.ρ
             have hd:dec ((SE.op .rep n z).den E'.ρ)=dL (List.replicate m (dec (z.den E'.ρ))):=by
              have:n.den E'.ρ=(m:Int):=by rw [hρ]; exact hm
              simp only [SE.den,jC.den,aC,this,aHH]
             have hlen:(dec ((SE.op .rep n z).den E'.ρ)).l.length=m:=by rw [hd,aA,aIH]
             have hwz:wU (rowOf o) (dec (z.den E'.ρ)):=AL hz
             have hcl:(bV E'.ρ (.op .rep n z) o []).length=(repeatL ie.zero m).length:=by unfold bV;rw [bP (nV _),hlen,repeatL_length,hzl,hes]
             have hrep: ∀(q:Nat) (us:List Value),bT E' w'.heap (repeatL ie.zero q) us->bT E' w'.heap (aK E'.ρ (rowOf o) [] (List.replicate q (dec (z.den E'.ρ))) 0) us:=by
              intro q
              induction q with
              |zero=>intro us h; exact h
              |succ q ih=> intro us h;simp only [repeatL] at h;obtain⟨us1,us2,rfl,a,b⟩:=bT.split h;simp only [aJL,aK,dX];rw [nZ _ 1 0];refine bT.append ?_ (ih _ b);rw [iO];simp only [SE.den,aC];exact AO a hz
             have r2:=Le (e1:=.op .rep n z) (t:=o) q3 ⟨by rw [hd,aA],fun d hd'=>by
              rw [hd,aA] at hd';rw [aJW hd']
              exact hwz,fun hq=>by rw [hq] at hlen; simp at hlen; omega⟩ hcl (fun us hu=>by
              unfold bV;rw [hd,aA]
              exact hrep m us hu)
             refine⟨rfl,hp3,x,w',E',q1,q2.right (DR rfl rfl fun _=>rfl),r2,?_⟩;simp only [VR] at q4 ⊢;obtain⟨p1,a,cap,p2,p3,p4⟩:=q4;refine⟨p1,m,a,cap,by rw [bW,hlen],p2,p3,?_⟩;rw [<- hes];exact p4
            ·simp [T.leaf] at h3
         ·simp [T.leaf] at h
      ·simp [T.leaf] at h
  ·simp [T.leaf] at h
 ·simp [T.leaf] at h
end
theorem V5 {α β:Type} (f:α->β) (xs:Array α):xs.map f=(xs.toList.map f).toArray:=by apply Array.ext';simp
def uX (P:Program) (R:Value->World->Prop):Result Next->Prop
 | .ok (.value u) w'=>R u w'
 | .ok (.enter f args) w'=>Calls P f args w' fun e w''=> ∃u,e= .returned u/\R u w''
 |_=>False
def uY (P:Program) (g:FuncId) (vals:Array Value) (w:World) (R:Value->World->Prop):Prop:=uX P R ((callFunc g vals).run P w)
def nK [Glob] (P:Program) (g:FuncId) (f:List AV->St->T (AV×St)):Prop:=
 ∀(args:List AV) (s:St) (E:En) (w:World) (vals:List Value) (v:AV) (s':St),bG E s.h w->bT E w.heap args vals->bK E.ρ s.pc->(f args s).leaf E.ρ=some (v,s')->
  s'.slots=s.slots/\bK E.ρ s'.pc/\uY P g vals.toArray w (After E s w v s')
theorem Gx {E:En} {h:Array Obj} {k:Nat} {e:SE} {i:Nat} (he:e.den E.ρ=(i:Int)): ∀(ks:List IntKind) (j:Nat),
 bT E h (Ci k e ks j) ((ks.zipIdx j).map fun p=> .int p.1 (E.ρ (1000+i*64+(k*8+p.2))))
 |[],j=>by simp [Ci,bT]
 |kd::ks,j=>by simp only [Ci,List.zipIdx_cons,aHo];rw [bC];refine⟨_,_,rfl,?_,Gx he ks (j+1)⟩;simp only [VR,SE.den,he,aHH]
theorem aaK {P:Program} {E:En} {w:World} {tt:TT} (htt:fE P tt) {pc:List (SB×Bool)} (hp:bK E.ρ pc) {t k:Nat} {ks:List IntKind} {ix v:AV} {u ui:Value} (hx:VR E w.heap (.inp k ks) u) (hix:VR E w.heap ix ui)
 (h:Vp tt pc t k ks ix=some v): ∃r,(Instr.indexAt t u ui).run P w= .ok r w/\VR E w.heap v r:=by
 unfold Vp at h;split at h
 ·rename_i kd e;split at h
  ·rename_i ti hti;split at h
   ·rename_i el hk;have hu:=gX (htt t ti hti) hk;split at h
    ·rename_i s hs;simp only [kS,aHy] at hs;obtain⟨ie,hie,rfl⟩:=hs;split at h
     ·rename_i hc;split at h
      ·rename_i h1 h2;simp at h;subst h;have h1:=jL hp h1;have h2:=jL hp h2;rw [dU,decide_eq_false_iff_not] at h1;rw [dU,decide_eq_true_eq] at h2;simp only [SE.den,aIB] at h1 h2;simp only [VR] at hx hix;subst hix;rcases hx with ⟨⟨x,cap,rfl⟩,h0⟩|⟨b,o,n,cap,rfl,g1,g2,g3,g4⟩
       ·omega
       ·obtain⟨i,hi⟩ : ∃i:Nat,e.den E.ρ=(i:Int):=⟨(e.den E.ρ).toNat,by omega⟩;have hin:i<n:=by omega
        refine⟨.pointer (some ⟨b,o+i*ie.size,none⟩),?_,?_⟩
        ·rw [hi];simp [Instr.indexAt,asIntOf,run_underlying hu,eU (htt el ie hie),hin,gQ]
        ·simp only [VR];refine⟨b,_,_,rfl,g3,Gx hi ks 0,?_,?_⟩
         ·intro j u hj;rw [aHG,List.getElem?_zipIdx,Option.map_map,aHy] at hj;obtain⟨kd',h3,rfl⟩:=hj;rw [hc.1,g4 i j kd' hin h3];simp
         ·intro u hu';rw [aHF] at hu';obtain⟨p,_,rfl⟩:=hu';rfl
      ·simp at h
     ·simp at h
    ·simp at h
   ·simp at h
  ·simp at h
 ·simp at h
theorem auR {E:En} {s s':St} {k:IntKind} {e d:SE} {v:AV} (hp:bK E.ρ s.pc) (h:(aBD s k e d).leaf E.ρ=some (v,s')) :
 s'.slots=s.slots/\s'.h=s.h/\bK E.ρ s'.pc/\d.den E.ρ≠0/\∀h,VR E h v (.int k ((e.den E.ρ).tmod (d.den E.ρ))):=by
 unfold aBD at h;obtain⟨pc',hp',h3⟩:=dB hp h;rw [lM] at h3;split at h3
 ·simp [T.leaf] at h3
 ·rename_i he;simp only [T.leaf,aHe,aHf] at h3;obtain⟨rfl,rfl⟩:=h3;simp only [SE.den,beq_eq_false_iff_ne,ne_eq] at he;exact⟨rfl,rfl,hp',he,fun h=>by simp only [VR,SE.den]⟩
theorem agU {E:En} {h:Array Obj} {op:BinOp} {a b:AV} {k:IntKind} {e d:SE} (hr:Zy op a b=some (k,e,d)) {u u':Value} (ha:VR E h a u) (hb:VR E h b u') :
 op= .rem/\u= .int k (e.den E.ρ)/\u'= .int k (d.den E.ρ):=by
 unfold Zy at hr;split at hr
 ·split at hr
  ·split at hr
   ·split at hr
    ·simp at hr
    ·split at hr
     ·rename_i hc;simp only [aHe,aHf] at hr;obtain⟨rfl,rfl,rfl⟩:=hr;simp only [VR] at ha hb;exact⟨rfl,ha,by rw [hb,hc]⟩
     ·simp at hr
   ·simp at hr
  ·simp at hr
 ·simp at hr
def kP [Glob] (P:Program) (call:eF):Prop:= ∀g,nK P g (call g)
theorem yB.next {P:Program} {o:Oper} {a:Act} {w:World} {R:Value->World->Prop} (h:uX P R ((execOp a.eval o).run P w)):yB P o a w R:=by
 intro K Q hk;unfold Oper.wp;generalize (execOp a.eval o).run P w=r at h
 cases r with
 |halt x w'=>exact h.elim
 |ok n w'=>
  cases n<;>first
   |exact h.elim
   |exact hk _ _ h
   |(exact Calls.mono h fun e w'' ⟨u,he,hr⟩=>by subst he; exact hk _ _ hr)
theorem Pv {tt:TT} {t n:Nat} {ix:AV} {e:SE} (h:agA tt t ix=some (n,e)): ∃k ti el ie,ix= .int k e/\tt t=some ti/\ti.kind= .array n el/\tt el=some ie/\ie.size=1/\ie.agg=false:=by
 unfold agA at h;split at h
 ·simp at h
 ·split at h
  ·split at h
   ·rename_i ti hti;split at h
    ·rename_i n' el hk;split at h
     ·split at h
      ·rename_i ie hie;split at h
       ·rename_i hc;simp only [aHe,aHf] at h;obtain⟨rfl,rfl⟩:=h;exact⟨_,ti,el,ie,rfl,hti,hk,hie,hc.1,hc.2⟩
       ·simp at h
      ·simp at h
     ·simp at h
    ·simp at h
   ·simp at h
  ·simp at h
section
variable {P:Program} {E:En} {w:World} {s s':St} {o:Oper} {a:Act} {v:AV}
theorem Vy [Glob] {tt:TT} (htt:fE P tt) (r:bG E s.h w) (hp:bK E.ρ s.pc) {b:Builtin} {ts:List Nat} {args:List AV} {vals:List Value} (hv:bT E w.heap args vals) (ty:Nat) (cs:Array Bool)
 (h:(D7 tt s b ts args).leaf E.ρ=some (v,s')):s'.slots=s.slots/\bK E.ρ s'.pc/\∃u w',(builtin b ts.toArray ty cs vals.toArray).run P w= .ok (.value u) w'/\After E s w v s' u w':=by
 unfold D7 at h;split at h
 ·rename_i t x;obtain⟨e1,rfl⟩:=lI h;rw [bC] at hv;obtain⟨u,vs,rfl,hx,hxs⟩:=hv;rw [lC] at hxs;subst hxs;obtain⟨y,h1,h2⟩:=aoW (ty:=ty) htt r hx e1;exact⟨rfl,hp,y,w,by simp [builtin,h1],E,Stp.refl _ _ _,r,h2⟩
 ·rename_i t t2 id lo n t' y;rw [bC] at hv;obtain⟨u,vs,rfl,hx,hxs⟩:=hv;rw [bC] at hxs;obtain⟨u2,vs,rfl,hy,hys⟩:=hxs;rw [lC] at hys;subst hys;split at h
  ·rename_i hz;obtain⟨q1,q2,z,w',E',h1,h2,h3,h4⟩:=XZ (ty:=ty) htt r hp hz hx hy h;exact⟨q1,q2,z,w',by simp [builtin,h1],E',h2,h3,h4⟩
  ·simp [T.leaf] at h
 ·rename_i t t2 x y _;rw [bC] at hv;obtain⟨u,vs,rfl,hx,hxs⟩:=hv;rw [bC] at hxs;obtain⟨u2,vs,rfl,hy,hys⟩:=hxs;rw [lC] at hys;subst hys;split at h
  ·rename_i hown;obtain⟨q1,q2,z,w',E',h1,h2,h3,h4⟩:=VA (ty:=ty) htt r hp hx hy (fun hd=>by rw [hd,aJa] at hown; exact Xy hx hown) h;exact⟨q1,q2,z,w',by simp [builtin,h1],E',h2,h3,h4⟩
  obtain⟨H,e1,rfl⟩:=vZ h;obtain⟨z,w',E',h1,h2,h3,h4⟩:=XY (ty:=ty) htt r hx hy e1;exact⟨rfl,hp,z,w',by simp [builtin,h1],E',h2,h3,h4⟩
 ·rename_i t ts' m k;rw [bC] at hv;obtain⟨u,vs,rfl,hx,hxs⟩:=hv;rw [bC] at hxs;obtain⟨u2,vs,rfl,hy,hys⟩:=hxs;rw [lC] at hys;subst hys;split at h
  ·rename_i id e t' hat
   obtain⟨q1,q2,rfl,w',h1,h2,h3⟩:=aiE (ts:=ts') htt r hx hy hat h ty;exact⟨q1,by rw [q2]; exact hp,.tuple #[],w',by simp [builtin,h1],E,h2,h3,by simp only [AV.undef,VR,bT]; exact⟨[],rfl,rfl⟩⟩
  obtain⟨pc',hp',h⟩:=wZ hp h;obtain⟨H,e1,rfl,rfl⟩:=Gg h;obtain⟨w',h1,h2,h3⟩:=XW (ts:=ts') htt hp' r hx hy e1 ty;exact⟨rfl,hp',.tuple #[],w',by simp [builtin,h1],E,h2,h3,by simp only [AV.undef,VR,bT]; exact⟨[],rfl,rfl⟩⟩
 ·rename_i t id n t';rw [bC] at hv;obtain⟨u,vs,rfl,hx,hxs⟩:=hv;rw [lC] at hxs;subst hxs;obtain⟨q1,q2,rfl,w',E',h1,h2,h3⟩:=JZ (ty:=ty) htt r hp (abT hx) h;exact⟨q1,q2,.tuple #[],w',by simp [builtin,h1],E',h2,h3,by simp only [AV.undef,VR,bT]; exact⟨[],rfl,rfl⟩⟩
 ·rename_i t id lo n t';rw [bC] at hv;obtain⟨u,vs,rfl,hx,hxs⟩:=hv;rw [lC] at hxs;subst hxs;obtain⟨q1,q2,rfl,w',E',h1,h2,h3⟩:=JZ (ty:=ty) htt r hp hx h;exact⟨q1,q2,.tuple #[],w',by simp [builtin,h1],E',h2,h3,by simp only [AV.undef,VR,bT]; exact⟨[],rfl,rfl⟩⟩
 ·rename_i t x _ _;obtain⟨H,e1,rfl,rfl⟩:=Gg h;rw [bC] at hv;obtain⟨u,vs,rfl,hx,hxs⟩:=hv;rw [lC] at hxs;subst hxs;obtain⟨w',h1,h2,h3⟩:=aaQ (ty:=ty) htt r hx e1;exact⟨rfl,hp,.tuple #[],w',by simp [builtin,h1],E,h2,h3,by simp only [AV.undef,VR,bT]; exact⟨[],rfl,rfl⟩⟩
 ·rename_i k e xs;rw [bC] at hv;obtain⟨u,vs,rfl,hx,hxs⟩:=hv;simp only [VR] at hx;subst hx;obtain⟨q1,q2,q3,u,q4,q5⟩:=sG (P:=P) (w:=w) hp hxs h;refine⟨q2,q3,u,w,?_,E,by rw [q1]; exact Stp.refl _ _ _,by rw [q1]; exact r,q5⟩;simp only [aHv,if_false] at q4;simp [builtin,Builtin.min_,q4]
 ·rename_i k e xs;rw [bC] at hv;obtain⟨u,vs,rfl,hx,hxs⟩:=hv;simp only [VR] at hx;subst hx;obtain⟨q1,q2,q3,u,q4,q5⟩:=sG (P:=P) (w:=w) hp hxs h;refine⟨q2,q3,u,w,?_,E,by rw [q1]; exact Stp.refl _ _ _,by rw [q1]; exact r,q5⟩;simp only [if_true] at q4;simp [builtin,Builtin.max_,q4]
 ·simp [T.leaf] at h
theorem aiF [Glob] {tt:TT} (htt:fE P tt) {call:eF} (hc:kP P call) (r:bG E s.h w) (sr:SR E w.heap s.slots a) (hp:bK E.ρ s.pc) {c:Call} (ho:o.op= .call c)
 (h:(Vx tt call s c).leaf E.ρ=some (v,s')):pI P E s o a w v s':=by
 unfold Vx at h;split at h
 ·simp [T.leaf] at h
 ·rename_i args hargs;have hv:=Vb sr hargs;have hmap:c.args.map a.eval=(c.args.toList.map a.eval).toArray:=V5 _ _;split at h
  ·rename_i b aB9;obtain⟨q1,q2,u,w',q3,q4⟩:=Vy htt r hp hv o.type (c.args.map fun| .const _=>true|_=>false) h;refine⟨q1,q2,yB.value ?_ q4⟩;simp only [execOp,ho,resolve,aB9,Sem.run_bind,Sem.run_pure,Result.andThen_ok,invoke,hmap];exact q3
  ·rename_i f aB9;split at h
   ·rename_i g fs cs hf;have hfv:=jW sr hf;simp only [VR] at hfv;obtain⟨us,ws,he,h1,h2⟩:=hfv;obtain⟨q1,q2,q3⟩:=hc g _ s E w _ v s' r ((h1.append hv).append h2) hp h;refine⟨q1,q2,yB.next ?_⟩;unfold uY at q3;simp only [execOp,ho,resolve,aB9,Sem.run_bind,he,Deferred.ofValue,Sem.run_pure,Result.andThen_ok,invoke,hmap];simpa using q3
   ·simp [T.leaf] at h
  ·simp [T.leaf] at h
theorem asO [Glob] {α:Type} {E:En} {h:Array Obj} {v:AV} {u:Value} {s:St} {k:AV->St->T α} {r:α} (hp:bK E.ρ s.pc) (hv:VR E h v u) (hl:(asP v s k).leaf E.ρ=some r) :
 ∃v' pc',bK E.ρ pc'/\VR E h v' u/\(k v' { s with pc:=pc' }).leaf E.ρ=some r:=by
 unfold asP at hl;split at hl
 ·split at hl
  ·exact⟨_,s.pc,hp,hv,hl⟩
  ·obtain⟨pc1,hp1,h1⟩:=dB hp hl;refine⟨_,pc1,hp1,?_,h1⟩;simp only [VR,SB.den] at *;exact hv
 ·exact⟨_,s.pc,hp,hv,hl⟩
theorem afF [Glob] {tt:TT} (htt:fE P tt) {call:eF} (hc:kP P call) (r:bG E s.h w) (sr:SR E w.heap s.slots a) (hp:bK E.ρ s.pc) (h:(Vm tt call s o.op).leaf E.ρ=some (v,s')):pI P E s o a w v s':=by
 obtain⟨dst,op,type,pos,after,guard⟩:=o;simp only at h;cases op<;>simp only [Vm] at h<;>first |(simp [T.leaf] at h; done)|skip
 case move x=>
  obtain⟨u,h1,h2⟩:=jR sr h;have:=aF h2;simp only [aHf] at this;obtain⟨rfl,rfl⟩:=this;exact pI.pure hp r (u:=a.eval x) rfl h1
 case assign x=>
  obtain⟨u,h1,h2⟩:=jR sr h;have:=aF h2;simp only [aHf] at this;obtain⟨rfl,rfl⟩:=this;exact pI.pure hp r (u:=a.eval x) rfl h1
 case pick c x y=>
  obtain⟨cv,h1,h2⟩:=jR sr h;split at h2
  ·rename_i cb;obtain⟨pc',hp',h3⟩:=dB hp h2;simp only [VR] at h1;cases hcd:cb.den E.ρ<;>rw [hcd] at h1 h3
   ·simp only [aHv,if_false] at h3;obtain⟨u,h4,h5⟩:=jR (s:={ s with pc:=pc' }) sr h3;have:=aF h5;simp only [aHf] at this;obtain⟨rfl,rfl⟩:=this;exact⟨rfl,hp',yB.value (u:=a.eval y) (by simp [execOp,h1,asBool]) ⟨E,Stp.refl _ _ _,r,h4⟩⟩
   ·simp only [if_true] at h3;obtain⟨u,h4,h5⟩:=jR (s:={ s with pc:=pc' }) sr h3;have:=aF h5;simp only [aHf] at this;obtain⟨rfl,rfl⟩:=this;exact⟨rfl,hp',yB.value (u:=a.eval x) (by simp [execOp,h1,asBool]) ⟨E,Stp.refl _ _ _,r,h4⟩⟩
  ·simp [T.leaf] at h2
 case alloc t=>
  split at h
  ·rename_i i hi;have:=aF h;simp only [aHf] at this;obtain⟨rfl,rfl⟩:=this;obtain⟨inf,z,g1,g2,g3,g4,g5⟩:=DX (htt t i hi);have hz:=gB (E:=E) (h:=w.heap) g5;obtain⟨s1,s2⟩:=lG r z.cells 0 0 t hz.1 hz.2 (fun i u hu=>by rw [<- aHT]; exact hu) (by omega) (w':={ w with heap:=w.heap.push (.cells z.cells t) }) rfl ⟨rfl,rfl,rfl⟩;exact pI.heap hp (u:=.pointer (some ⟨w.heap.size,0,none⟩)) (by simp [execOp,Instr.alloc,zeroValue,typeInfo,g1,g4,newVar,newRow]) s1 s2 (UC r _ _ 0)
  ·simp [T.leaf] at h
 case box t x=>
  obtain⟨u,h1,h2⟩:=jR sr h;split at h2
  ·rename_i hone;have:=aF h2;simp only [aHf] at this;obtain⟨rfl,rfl⟩:=this;have hcv:=h1.cells hone;obtain⟨s1,s2⟩:=lG r (a.eval x).cells 0 0 t hcv (hcv.ones hone) (fun i u hu=>by rw [<- aHT]; exact hu) (by omega) (w':={ w with heap:=w.heap.push (.cells (a.eval x).cells t) }) rfl ⟨rfl,rfl,rfl⟩;exact pI.heap hp (u:=.pointer (some ⟨w.heap.size,0,none⟩)) (by simp [execOp,Instr.box,newVar,newRow]) s1 s2 (UC r _ _ 0)
  ·simp [T.leaf] at h2
 case build t parts=>
  split at h
  ·rename_i ps hps;obtain⟨e1,rfl⟩:=lI h;have hpr:=Fq sr hps;obtain⟨x,h1,h2⟩:=aaS (w:=w) (ps:=parts.map fun p=>(p.1,a.eval p.2)) htt (by simpa using hpr) e1;exact pI.pure hp r (u:=x) (by simp [execOp,h1]) h2
  ·simp [T.leaf] at h
 case buildSlice t len parts=>
  split at h
  ·rename_i ps hps;obtain⟨H,e1,rfl⟩:=vZ h;have hpr:=Fq sr hps;obtain⟨x,w',E',h1,h2,h3,h4⟩:=KD (ps:=parts.map fun p=>(p.1,a.eval p.2)) htt r (by simpa using hpr) e1;exact pI.heap hp (u:=x) (by simp [execOp,h1]) h2 h3 h4
  ·simp [T.leaf] at h
 case makeSlice t l c=>
  obtain⟨u,h1,h2⟩:=jR sr h;split at h2
  ·rename_i cv hc;split at h2
   ·rename_i q hq;obtain⟨H,e1,rfl⟩:=vZ h2;simp only [aHe] at e1;subst e1;obtain⟨x,w',E',g1,g2,g3,g4⟩:=CO htt r h1 (jW sr hc) hq;exact pI.heap hp (u:=x) (by simp [execOp,g1]) g2 g3 g4
   ·obtain⟨q1,q2,x,w',E',g1,g2,g3,g4⟩:=aaH htt r hp h1 (jW sr hc) h2;exact⟨q1,q2,yB.value (by simp [execOp,g1]) ⟨E',g2,g3,g4⟩⟩
  ·simp [T.leaf] at h2
 case insert t m k x=>
  obtain⟨u,h1,h2⟩:=jR sr h;split at h2
  ·rename_i kv xv hk hx;split at h2
   ·obtain⟨q1,q2,rfl,w',E',g1,g2,g3⟩:=Tf (P:=P) htt r hp h1 (jW sr hk) (jW sr hx) h2;exact⟨q1,q2,yB.skip (by simp [execOp,g1]) ⟨E',g2,g3,tJ⟩⟩
   obtain⟨pc',hp',h2⟩:=wZ hp h2;obtain⟨H,e1,rfl,rfl⟩:=Gg h2;obtain⟨w',g1,g2,g3⟩:=CJ htt hp' r h1 (jW sr hk) (jW sr hx) e1;exact⟨rfl,hp',yB.skip (by simp [execOp,g1]) ⟨E,g2,g3,tJ⟩⟩
  ·simp [T.leaf] at h2
 case load t x=>
  obtain⟨u,h1,h2⟩:=jR sr h;split at h2
  ·obtain⟨q1,q2,q3,y,b,off,g1,g2,g3⟩:=aaJ htt r hp h1 h2;exact⟨q1,q3,yB.value (u:=y) (by simp [execOp,Instr.loadAt,g1,Instr.sureAddr,g2]) ⟨E,by rw [q2]; exact Stp.refl _ _ _,by rw [q2]; exact r,g3⟩⟩
  obtain⟨e1,rfl⟩:=lI h2;obtain⟨y,b,off,g1,g2,g3⟩:=Jk htt r h1 e1;exact pI.pure hp r (u:=y) (by simp [execOp,Instr.loadAt,g1,Instr.sureAddr,g2]) g3
 case store t x y=>
  obtain⟨u,h1,h2⟩:=jR sr h;split at h2
  ·rename_i yv hy;obtain⟨yv',pc',hp',hyv,h2⟩:=asO hp (jW sr hy) h2;split at h2
   ·obtain⟨q1,q2,rfl,w',E',g1,g2,g3⟩:=XQ htt (s:={ s with pc:=pc' }) r hp' h1 hyv h2;exact⟨q1,q2,yB.skip (by simp [execOp,g1]) ⟨E',g2,g3,tJ⟩⟩
   obtain⟨H,e1,rfl,rfl⟩:=Gg h2;obtain⟨w',g1,g2,g3⟩:=aaC htt r h1 hyv e1;exact⟨rfl,hp',yB.skip (by simp [execOp,g1]) ⟨E,g2,g3,tJ⟩⟩
  ·simp [T.leaf] at h2
 case nilCheck x=>
  obtain⟨u,h1,h2⟩:=jR sr h;split at h2
  ·have:=aF h2;simp only [aHf] at this;obtain⟨rfl,rfl⟩:=this;have h1':=h1;simp only [VR] at h1;exact pI.pure hp r (u:=a.eval x) (by simp [execOp,h1.1]) h1'
  ·have:=aF h2;simp only [aHf] at this;obtain⟨rfl,rfl⟩:=this;have h1':=h1;simp only [VR] at h1;obtain⟨b,off,us,hu,_⟩:=h1;exact pI.pure hp r (u:=a.eval x) (by simp [execOp,hu]) h1'
  ·have:=aF h2;simp only [aHf] at this;obtain⟨rfl,rfl⟩:=this;have h1':=h1;simp only [VR] at h1;obtain⟨_,k,_,hu⟩:=h1;exact pI.pure hp r (u:=a.eval x) (by simp [execOp,hu]) h1'
  ·simp [T.leaf] at h2
 case binOp bop t x y yt=>
  obtain⟨u,h1,h2⟩:=jR sr h;split at h2
  ·rename_i yv hy;have hyv:=jW sr hy;split at h2
   ·rename_i xs;simp only [VR] at h1;obtain⟨us,hus,h1⟩:=h1;split at h2
    ·rename_i ys;simp only [VR] at hyv;obtain⟨vs,hvs,hyv⟩:=hyv;split at h2
     ·rename_i c hcc;have:=aF h2;simp only [aHf] at this;obtain⟨rfl,rfl⟩:=this;obtain⟨g1,g2,g3⟩:=OI (w:=w) htt h1 hyv hcc .eql x y;exact pI.pure hp r (u:=.bool (c.den E.ρ)) (by simp [execOp,hus,hvs,g1,g2]) (by simp only [VR])
     ·simp [T.leaf] at h2
    ·rename_i ys;simp only [VR] at hyv;obtain⟨vs,hvs,hyv⟩:=hyv;split at h2
     ·rename_i c hcc;have:=aF h2;simp only [aHf] at this;obtain⟨rfl,rfl⟩:=this;obtain⟨g1,g2,g3⟩:=OI (w:=w) htt h1 hyv hcc .neq x y;exact pI.pure hp r (u:=.bool (!(c.den E.ρ))) (by simp [execOp,hus,hvs,g1,g3]) (by simp only [VR,rX])
     ·simp [T.leaf] at h2
    ·simp [T.leaf] at h2
   ·split at h2
    ·rename_i e hna;obtain⟨q1,q2,q3,y',g1,g2,g3,g4⟩:=avE (P:=P) (w:=w) htt hna h1 hyv hp h2;exact⟨q1,q3,yB.value (u:=y') (by simp [execOp,CU (P:=P) (w:=w) g3 g4,g1]) ⟨E,by rw [q2]; exact Stp.refl _ _ _,by rw [q2]; exact r,g2⟩⟩
    split at h2
    ·rename_i k e d hrl;obtain⟨rfl,hu1,hu2⟩:=agU hrl h1 hyv;obtain⟨q1,q2,q3,hne,q4⟩:=auR hp h2;refine⟨q1,q3,yB.value (u:=.int k ((e.den E.ρ).tmod (d.den E.ρ))) (w':=w) ?_ ⟨E,by rw [q2]; exact Stp.refl _ _ _,by rw [q2]; exact r,q4 _⟩⟩;simp [execOp,hu1,hu2,binOp,Op.intDiv,hne,eqGuard]
    split at h2
    ·rename_i x' y' hsp;obtain⟨q1,q2,q3,⟨y'',g1,g2⟩,g3,g4⟩:=ahZ (P:=P) (w:=w) (t:=t) hp h1 hyv hsp h2;exact⟨q1,q3,yB.value (u:=y'') (by simp [execOp,CU (P:=P) (w:=w) g3 g4,g1]) ⟨E,by rw [q2]; exact Stp.refl _ _ _,by rw [q2]; exact r,g2⟩⟩
    ·obtain⟨e1,rfl⟩:=lI h2;obtain⟨⟨y',g1,g2⟩,g3,g4⟩:=aoY (w:=w) htt h1 hyv e1;exact pI.pure hp r (u:=y') (by simp [execOp,CU (P:=P) (w:=w) g3 g4,g1]) g2
  ·simp [T.leaf] at h2
 case unOp uop t x=>
  obtain⟨u,h1,h2⟩:=jR sr h;obtain⟨e1,rfl⟩:=lI h2;obtain⟨y,g1,g2⟩:=awW (P:=P) (w:=w) h1 e1;exact pI.pure hp r (u:=y) (by simp [execOp,g1]) g2
 case convert sT dT x=>
  obtain⟨u,h1,h2⟩:=jR sr h;split at h2
  ·obtain⟨q1,q2,y,w',E',g1,g2,g3,g4⟩:=aaR (P:=P) htt r hp h1 h2;exact⟨q1,q2,yB.value (u:=y) (by simp [execOp,g1]) ⟨E',g2,g3,g4⟩⟩
  obtain⟨H,e1,rfl⟩:=vZ h2;obtain⟨y,w',E',g1,g2,g3,g4⟩:=G9 htt r h1 e1;exact pI.heap hp (u:=y) (by simp [execOp,g1]) g2 g3 g4
 case makeFunc fn fs cs=>
  split at h
  ·rename_i f c hf hcs;have:=aF h;simp only [aHf] at this;obtain⟨rfl,rfl⟩:=this;have h1:=Vb sr hf;have h2:=Vb sr hcs;refine pI.pure hp r (u:=.func fn (fs.map a.eval) (cs.map a.eval)) (by simp [execOp,Instr.makeFunc]) ?_;simp only [VR];have m1:fs.map a.eval=(fs.toList.map a.eval).toArray:=V5 _ _;have m2:cs.map a.eval=(cs.toList.map a.eval).toArray:=V5 _ _;exact⟨_,_,by rw [m1,m2],h1,h2⟩
  ·simp [T.leaf] at h
 case makeMap t res=>
  split at h
  ·split at h
   ·rename_i m hm;have:=aF h;simp only [aHf] at this;obtain⟨rfl,rfl⟩:=this
    obtain⟨s1,s2⟩:=Gp r (.map #[] 0) (.jF (.dat (.i 0)) m) 0 (w':={ w with heap:=w.heap.push (.map #[] 0) }) rfl ⟨rfl,rfl,rfl⟩ (by
     simp only [OR,En.ext_θ_new]
     exact⟨#[],0,by simp,by simp [pJ,SE.den,aC,D.l]⟩)
    exact pI.heap hp (u:=.map (some w.heap.size)) (by simp [execOp,Instr.makeMap]) s1 s2 (by simp only [VR,En.ext_θ_new]; exact⟨trivial,En.jZ _ _ _ _⟩)
   have:=aF h;simp only [aHf] at this;obtain⟨rfl,rfl⟩:=this
   obtain⟨s1,s2⟩:=Gp r (.map #[] 0) (.map [] 0) 0 (w':={ w with heap:=w.heap.push (.map #[] 0) }) rfl ⟨rfl,rfl,rfl⟩ (by
    simp only [OR,En.ext_θ_new]
    exact⟨#[],0,by simp,by simp [fQ]⟩)
   exact pI.heap hp (u:=.map (some w.heap.size)) (by simp [execOp,Instr.makeMap]) s1 s2 (by simp only [VR,En.ext_θ_new]; exact⟨trivial,En.jZ _ _ _ _⟩)
  ·simp [T.leaf] at h
 case slice t x lo hi mx=>
  obtain⟨u,h1,h2⟩:=jR sr h;split at h2
  ·rename_i l hh m hl hhh hm;split at h2
   ·obtain⟨q1,q2,q3,y,g1,g2⟩:=aaO (w:=w) htt hp h1 (iD sr hl) (iD sr hhh) (iD sr hm) h2;exact⟨q1,q3,yB.value (u:=y) (by simp [execOp,g1]) ⟨E,by rw [q2]; exact Stp.refl _ _ _,by rw [q2]; exact r,g2⟩⟩
   ·obtain⟨q1,q2,q3,y,g1,g2⟩:=Oy htt r hp (abT h1) (iD sr hl) (iD sr hhh) (iD sr hm) h2;exact⟨q1,q3,yB.value (u:=y) (by simp [execOp,g1]) ⟨E,by rw [q2]; exact Stp.refl _ _ _,by rw [q2]; exact r,g2⟩⟩
   ·obtain⟨q1,q2,q3,y,g1,g2⟩:=Oy htt r hp h1 (iD sr hl) (iD sr hhh) (iD sr hm) h2;exact⟨q1,q3,yB.value (u:=y) (by simp [execOp,g1]) ⟨E,by rw [q2]; exact Stp.refl _ _ _,by rw [q2]; exact r,g2⟩⟩
   ·obtain⟨q1,q2,q3,y,g1,g2⟩:=Z9 (w:=w) htt hp h1 (iD sr hl) (iD sr hhh) (iD sr hm) h2;exact⟨q1,q3,yB.value (u:=y) (by simp [execOp,g1]) ⟨E,by rw [q2]; exact Stp.refl _ _ _,by rw [q2]; exact r,g2⟩⟩
   ·obtain⟨q1,q2,q3,y,g1,g2⟩:=aaM (w:=w) htt hp h1 (iD sr hl) (iD sr hhh) (iD sr hm) h2;exact⟨q1,q3,yB.value (u:=y) (by simp [execOp,g1]) ⟨E,by rw [q2]; exact Stp.refl _ _ _,by rw [q2]; exact r,g2⟩⟩
   split at h2
   ·rename_i v' e1;have:=aF h2;simp only [aHf] at this;obtain⟨rfl,rfl⟩:=this;obtain⟨y,g1,g2⟩:=aaD (w:=w) htt h1 (iD sr hl) (iD sr hhh) (iD sr hm) e1;exact pI.pure hp r (u:=y) (by simp [execOp,g1]) g2
   ·obtain⟨e1,rfl⟩:=lI h2;obtain⟨y,g1,g2⟩:=XR (w:=w) htt r h1 (iD sr hl) (iD sr hhh) (iD sr hm) e1;exact pI.pure hp r (u:=y) (by simp [execOp,g1]) g2
  ·simp [T.leaf] at h2
 case fieldAddr t x f=>
  obtain⟨u,h1,h2⟩:=jR sr h;obtain⟨e1,rfl⟩:=lI h2;obtain⟨y,g1,g2⟩:=OH (w:=w) htt h1 e1;exact pI.pure hp r (u:=y) (by simp [execOp,g1]) g2
 case field t x f=>
  obtain⟨u,h1,h2⟩:=jR sr h;obtain⟨e1,rfl⟩:=lI h2;obtain⟨y,g1,g2⟩:=aaL (w:=w) htt h1 e1;exact pI.pure hp r (u:=y) (by simp [execOp,g1]) g2
 case indexAddr t x i=>
  obtain⟨u,h1,h2⟩:=jR sr h;split at h2
  ·rename_i iv hi;split at h2
   ·obtain⟨e1,rfl⟩:=lI h2;obtain⟨y,g1,g2⟩:=aaK (w:=w) htt hp h1 (jW sr hi) e1;exact pI.pure hp r (u:=y) (by simp [execOp,g1]) g2
   ·obtain⟨q1,q2,q3,y,g1,g2⟩:=aaP (w:=w) htt hp h1 (jW sr hi) h2;exact⟨q1,q3,yB.value (u:=y) (by simp [execOp,g1]) ⟨E,by rw [q2]; exact Stp.refl _ _ _,by rw [q2]; exact r,g2⟩⟩
   ·obtain⟨q1,q2,q3,y,g1,g2⟩:=Z8 (w:=w) htt hp h1 (jW sr hi) h2;exact⟨q1,q3,yB.value (u:=y) (by simp [execOp,g1]) ⟨E,by rw [q2]; exact Stp.refl _ _ _,by rw [q2]; exact r,g2⟩⟩
   ·obtain⟨q1,q2,q3,y,g1,g2⟩:=Z7 (w:=w) htt hp h1 (jW sr hi) h2;exact⟨q1,q3,yB.value (u:=y) (by simp [execOp,g1]) ⟨E,by rw [q2]; exact Stp.refl _ _ _,by rw [q2]; exact r,g2⟩⟩
   ·rename_i pid po;split at h2
    ·rename_i n e hb;split at h2
     ·rename_i ho;subst ho;obtain⟨kd,ti,el,ie,rfl,b1,b2,b3,b4,b5⟩:=Pv hb;obtain⟨pc',hp',t1,t2,h3⟩:=sQ hp h2;have:=aF h3;simp only [aHf] at this;obtain⟨rfl,rfl⟩:=this;have hiv:=jW sr hi;simp only [VR] at hiv;simp only [SE.den] at t2;obtain⟨k,hk⟩ : ∃k:Nat,e.den E.ρ=(k:Int):=⟨(e.den E.ρ).toNat,by omega⟩;have hlt:k<n:=by simp at t2; omega
      rw [hk] at hiv
      obtain⟨y,g1,g2⟩:=wH (P:=P) (w:=w) htt (t:=t) (ix:=.int kd (.lit (Int.ofNat k))) h1 (by simp only [VR,SE.den]; exact hiv) (v:=.ptr pid (0+k*ie.size)) (by
       unfold uH;simp only [nY,b1,b2,kS,b3,aHV];rw [aHd hlt]
       rfl)
      refine⟨rfl,hp',yB.value (u:=y) (by simp [execOp,g1]) ⟨E,Stp.refl _ _ _,r,?_⟩⟩;simp only [VR] at g2 ⊢;exact⟨g2.2,k,hk,by rw [g2.1,b4]; congr 3; omega⟩
     ·simp [T.leaf] at h2
    ·obtain⟨ix',pc',hp',hix,h2⟩:=Ic hp (jW sr hi) h2;obtain⟨e1,rfl⟩:=lI h2;obtain⟨y,g1,g2⟩:=wH (w:=w) htt h1 hix e1;exact⟨rfl,hp',yB.value (u:=y) (by simp [execOp,g1]) ⟨E,Stp.refl _ _ _,r,g2⟩⟩
   ·obtain⟨ix',pc',hp',hix,h2⟩:=Ic hp (jW sr hi) h2;obtain⟨e1,rfl⟩:=lI h2;obtain⟨y,g1,g2⟩:=wH (w:=w) htt h1 hix e1;exact⟨rfl,hp',yB.value (u:=y) (by simp [execOp,g1]) ⟨E,Stp.refl _ _ _,r,g2⟩⟩
  ·simp [T.leaf] at h2
 case index t x i=>
  obtain⟨u,h1,h2⟩:=jR sr h;split at h2
  ·rename_i iv hi;split at h2
   ·obtain⟨q1,q2,q3,y,g1,g2⟩:=aaA (w:=w) htt hp h1 (jW sr hi) h2;exact⟨q1,q3,yB.value (u:=y) (by simp [execOp,g1]) ⟨E,by rw [q2]; exact Stp.refl _ _ _,by rw [q2]; exact r,g2⟩⟩
   ·rename_i cs;split at h2
    ·rename_i n e hb;split at h2
     ·rename_i hn;have hn:=aHj hn;obtain⟨kd,ti,el,ie,rfl,b1,b2,b3,b4,b5⟩:=Pv hb;obtain⟨q1,q2,q3,k,kk,z,x',c1,c2,c3,rfl,c5⟩:=XM hp h2;have hiv:=jW sr hi;simp only [VR] at hiv;rw [c1] at hiv;obtain⟨l,hd⟩:=Jq c3
      obtain⟨y,g1,g2⟩:=Fv (P:=P) (w:=w) htt (t:=t) (ix:=.int kd (.lit (Int.ofNat k))) h1 (by simp only [VR,SE.den]; exact hiv) (v:=.int kk (.lit z)) (by
       unfold G7;simp only [nY,b1,b2,b3];rw [aHd (by omega),b4,aIT,hd]
       simp [partOf,b5])
      refine⟨q1,q3,yB.value (u:=y) (w':=w) (by simp [execOp,g1]) ⟨E,by rw [q2]; exact Stp.refl _ _ _,by rw [q2]; exact r,?_⟩⟩;simp only [VR,SE.den] at g2 ⊢;rw [g2,c5]
     ·simp [T.leaf] at h2
    ·obtain⟨ix',pc',hp',hix,h2⟩:=Ic hp (jW sr hi) h2;obtain⟨e1,rfl⟩:=lI h2;obtain⟨y,g1,g2⟩:=Fv (w:=w) htt h1 hix e1;exact⟨rfl,hp',yB.value (u:=y) (by simp [execOp,g1]) ⟨E,Stp.refl _ _ _,r,g2⟩⟩
   obtain⟨ix',pc',hp',hix,h2⟩:=Ic hp (jW sr hi) h2;obtain⟨e1,rfl⟩:=lI h2;obtain⟨y,g1,g2⟩:=Fv (w:=w) htt h1 hix e1;exact⟨rfl,hp',yB.value (u:=y) (by simp [execOp,g1]) ⟨E,Stp.refl _ _ _,r,g2⟩⟩
  ·simp [T.leaf] at h2
 case lookup t m k ok=>
  obtain⟨u,h1,h2⟩:=jR sr h;split at h2
  ·rename_i kv hk;split at h2
   ·rename_i id e t' hat
    obtain⟨q1,q2,q3,y,g1,g2⟩:=aaI (P:=P) htt r hp h1 (jW sr hk) hat h2;exact⟨q1,q3,yB.value (u:=y) (by simp [execOp,g1]) ⟨E,by rw [q2]; exact Stp.refl _ _ _,by rw [q2]; exact r,g2⟩⟩
   obtain⟨pc',hp',h2⟩:=wZ hp h2;obtain⟨e1,rfl⟩:=lI h2;obtain⟨y,g1,g2⟩:=XV htt hp' r h1 (jW sr hk) e1;exact⟨rfl,hp',yB.value (u:=y) (by simp [execOp,g1]) ⟨E,Stp.refl _ _ _,r,g2⟩⟩
  ·simp [T.leaf] at h2
 case mapUpdate t m k x=>
  obtain⟨u,h1,h2⟩:=jR sr h;split at h2
  ·rename_i kv xv hk hx;split at h2
   ·obtain⟨q1,q2,rfl,w',E',g1,g2,g3⟩:=Tf (P:=P) htt r hp h1 (jW sr hk) (jW sr hx) h2;exact⟨q1,q2,yB.skip (by simp [execOp,g1]) ⟨E',g2,g3,tJ⟩⟩
   obtain⟨pc',hp',h2⟩:=wZ hp h2;obtain⟨H,e1,rfl,rfl⟩:=Gg h2;obtain⟨w',g1,g2,g3⟩:=CJ htt hp' r h1 (jW sr hk) (jW sr hx) e1;exact⟨rfl,hp',yB.skip (by simp [execOp,g1]) ⟨E,g2,g3,tJ⟩⟩
  ·simp [T.leaf] at h2
 case range t x=>
  obtain⟨u,h1,h2⟩:=jR sr h;obtain⟨H,e1,rfl⟩:=vZ h2;obtain⟨y,w',E',g1,g2,g3,g4⟩:=aaE htt r h1 e1;exact pI.heap hp (u:=y) (by simp [execOp,g1]) g2 g3 g4
 case next x isS=>
  obtain⟨u,h1,h2⟩:=jR sr h;obtain⟨H,e1,rfl⟩:=vZ h2;obtain⟨y,w',g1,g2,g3,g4⟩:=aiB (P:=P) r h1 e1 type;exact pI.heap hp (u:=y) (by simp [execOp,g1]) g2 g3 g4
 case extract x i=>
  obtain⟨u,h1,h2⟩:=jR sr h;split at h2
  ·rename_i vs;obtain⟨e1,rfl⟩:=lI h2;simp only [VR] at h1;obtain⟨us,hus,h1⟩:=h1;obtain⟨y,g1,g2⟩:=h1.nth e1;exact pI.pure hp r (u:=y) (by simp [execOp,Instr.extract,hus,g1]) g2
  ·simp [T.leaf] at h2
 case call c=>exact aiF htt hc r sr hp rfl h
end
section
variable {P:Program}
structure Fit [Glob] (E:En) (s:St) (a:Act) (w:World):Prop where
 rel:bG E s.h w
 sr:SR E w.heap s.slots a
 pc:bK E.ρ s.pc
structure Then [Glob] (E:En) (s:St) (a:Act) (w:World) (s':St) (a':Act) (w':World):Prop where
 defers:a'.defers=a.defers
 size:a'.tmps.size=a.tmps.size
 step: ∃E',Stp E s.h w E' s'.h w'/\Fit E' s' a' w'
theorem Then.refl [Glob] {E:En} {s:St} {a:Act} {w:World} (f:Fit E s a w):Then E s a w s a w:=⟨rfl,rfl,E,Stp.refl _ _ _,f⟩
theorem SR.keep {E E':En} {h h':Array Obj} (k:Keeps E h E' h') {slots:Tr AV} {a:Act} (sr:SR E h slots a):SR E' h' slots a:=by intro t v ht;obtain⟨u,h1,h2⟩:=sr t v ht;exact⟨u,h1,VR.keep k v u h2⟩
theorem SR.put {E:En} {h:Array Obj} {slots:Tr AV} {a:Act} (sr:SR E h slots a) {d:Nat} {v:AV} {u:Value} (hd:d<a.tmps.size) (hv:VR E h v u):SR E h (slots.put d (some v)) (a.put (some d) u):=by
 intro t x ht;rw [Tr.get_put] at ht;simp only [Act.put];split at ht
 ·rename_i e;subst e;simp at ht;subst ht;exact⟨u,by simp [hd],hv⟩
 ·rename_i e;obtain⟨y,h1,h2⟩:=sr t x ht;exact⟨y,by rw [aIg (fun q=>e q.symm)]; exact h1,h2⟩
theorem SR.aF4 {E:En} {h:Array Obj} {s:St} {a:Act} (sr:SR E h s.slots a) {d:Option Nat} {v:AV} {u:Value} (hd: ∀t,d=some t->t<a.tmps.size) (hv:VR E h v u):SR E h (s.WW d v).slots (a.put d u):=by
 cases d with
 |none=>exact sr
 |some t=>exact sr.put (hd t rfl) hv
theorem Nl (a:Act) (d:Option Nat) (u:Value):(a.put d u).tmps.size=a.tmps.size:=by cases d<;>simp [Act.put]
theorem put_defers (a:Act) (d:Option Nat) (u:Value):(a.put d u).defers=a.defers:=by cases d<;>rfl
theorem alU (s:St) (d:Option Nat) (v:AV):(s.WW d v).h=s.h:=by cases d<;>rfl
theorem auK (s:St) (d:Option Nat) (v:AV):(s.WW d v).pc=s.pc:=by cases d<;>rfl
theorem SY [Glob] {E:En} {s s':St} {a:Act} {w w':World} {v:AV} {u:Value} {d:Option Nat} (f:Fit E s a w) (hs:s'.slots=s.slots) (hp:bK E.ρ s'.pc) (h:After E s w v s' u w') (hd: ∀t,d=some t->t<a.tmps.size) :
 Then E s a w (s'.WW d v) (a.put d u) w':=by
 obtain⟨E',h1,h2,h3⟩:=h;refine⟨put_defers _ _ _,Nl _ _ _,E',by rw [alU]; exact h1,⟨by rw [alU]; exact h2,?_,by rw [auK,h1.ρ]; exact hp⟩⟩;refine SR.aF4 ?_ hd h3;rw [hs];exact f.sr.keep (h1.keeps f.rel)
theorem Then.trans [Glob] {E:En} {s s1 s2:St} {a a1 a2:Act} {w w1 w2:World} (h1:Then E s a w s1 a1 w1) (h2: ∀E1,Stp E s.h w E1 s1.h w1->Fit E1 s1 a1 w1->Then E1 s1 a1 w1 s2 a2 w2):Then E s a w s2 a2 w2:=by obtain⟨d1,z1,E1,st1,f1⟩:=h1;obtain⟨d2,z2,E2,st2,f2⟩:=h2 E1 st1 f1;exact⟨d2.trans d1,z2.trans z1,E2,st1.trans st2,f2⟩
theorem NC [Glob] {α:Type} {E:En} {w:World} {s:St} {a:Act} {ops:Array Oper} {o:Oper} {f:St->Bool->T α} {r:α} (fit:Fit E s a w) (h:(DN ops.toList s o f).leaf E.ρ=some r) :
 ∃pc',bK E.ρ pc'/\(f { s with pc:=pc' } (Region.wanted o (yielded ops a.tmps))).leaf E.ρ=some r:=by
 unfold DN at h;unfold Region.wanted;split at h
 ·rename_i hg;rw [hg];exact⟨s.pc,fit.pc,h⟩
 ·rename_i j want hg;rw [hg];split at h
  ·rename_i oj hj;rw [dI,aHT] at hj;split at h
   ·rename_i d hd;split at h
    ·rename_i c hc;obtain⟨u,h1,h2⟩:=fit.sr d _ hc;simp only [VR] at h2;subst h2;obtain⟨pc',hp',h3⟩:=dB fit.pc h;refine⟨pc',hp',?_⟩;have:yielded ops a.tmps j=some (c.den E.ρ):=by simp [yielded,hj,hd,h1]
     simp only [this];simpa using h3
    ·rename_i vs hc;obtain⟨u,h1,h2⟩:=fit.sr d _ hc;simp only [VR] at h2;obtain⟨us,rfl,_⟩:=h2;refine⟨s.pc,fit.pc,?_⟩;have:yielded ops a.tmps j=none:=by simp [yielded,hj,hd,h1]
     simp only [this];simpa using h
    ·simp [T.leaf] at h
   ·simp [T.leaf] at h
  ·simp [T.leaf] at h
def aDj (n:Nat) (ops:List Oper):Bool:=ops.all fun o=>match o.dst with |some d=>d<n|none=>true
theorem OD [Glob] {tt:TT} (htt:fE P tt) {call:eF} (hc:kP P call) {ops:Array Oper} {Q:Exit->Act->World->Prop}: ∀(rest:List Oper) (i:Nat) {E:En} {s s':St} {a:Act} {w:World},ops.toList.drop i=rest->
 (∀o∈rest,∀d,o.dst=some d->d<a.tmps.size)->Fit E s a w->(XU tt call ops.toList rest s).leaf E.ρ=some s'->
 (∀a' w',Then E s a w s' a' w'->Q .normal a' w')->wpOps P ops Q (List.range' i rest.length) a w
 |[],i,E,s,s',a,w,_,_,fit,h,hq=>by have:=aF h;subst this;exact hq a w (Then.refl fit)
 |o::rest,i,E,s,s',a,w,hi,hd,fit,h,hq=>by
  simp only [XU] at h;obtain⟨pc',hp',h1⟩:=NC fit h
  have hoi:ops[i]?=some o:=by have:=congrArg (·[0]?) hi;simpa using this
  have hrest:ops.toList.drop (i+1)=rest:=by have:=congrArg List.tail hi;simpa using this
  have fit':Fit E { s with pc:=pc' } a w:=⟨fit.rel,fit.sr,hp'⟩;simp only [aHq,List.range'_succ];show wpOps P ops Q (i::List.range' (i+1) rest.length) a w;simp only [wpOps,hoi];cases hw:Region.wanted o (yielded ops a.tmps)<;>rw [hw] at h1
  ·simp only [aHv,if_false] at h1 ⊢
   have hstep:Then E s a w (St.WW { s with pc:=pc' } o.dst AV.undef) (a.put o.dst undef) w:=
    SY (s':={ s with pc:=pc' }) fit rfl hp' ⟨E,Stp.refl _ _ _,fit.rel,tJ⟩ (hd o (by simp))
   obtain⟨d1,z1,E1,st1,f1⟩:=hstep;refine OD htt hc rest (i+1) hrest (fun o' ho' d hd'=>by rw [z1]; exact hd o' (by simp [ho']) d hd') f1 (by rw [st1.ρ]; exact h1) fun a' w' ht=>?_;exact hq a' w' ⟨ht.defers.trans d1,ht.size.trans z1,by obtain⟨E2,st2,f2⟩:=ht.step; exact⟨E2,st1.trans st2,f2⟩⟩
  ·simp only [if_true] at h1 ⊢;left;obtain⟨⟨v,s1⟩,h2,h3⟩:=T.gZ h1;obtain⟨q1,q2,q3⟩:=afF htt hc (o:=o) fit'.rel fit'.sr fit'.pc h2;refine q3 _ _ fun u w1 hu=>?_;have hstep:Then E s a w (s1.WW o.dst v) (a.put o.dst u) w1:=SY (s:=s) (s':=s1) fit q1 q2 hu (hd o (by simp));obtain⟨d1,z1,E1,st1,f1⟩:=hstep;refine OD htt hc rest (i+1) hrest (fun o' ho' d hd'=>by rw [z1]; exact hd o' (by simp [ho']) d hd') f1 (by rw [st1.ρ]; exact h3) fun a' w' ht=>?_;exact hq a' w' ⟨ht.defers.trans d1,ht.size.trans z1,by obtain⟨E2,st2,f2⟩:=ht.step; exact⟨E2,st1.trans st2,f2⟩⟩
def ayA [Glob] (P:Program) (draw:List Oper->St->T St):Prop:=
 ∀(id:Nat) (ops:Array Oper) (E:En) (s s':St) (a:Act) (w:World) (Q:Exit->Act->World->Prop),(∀o∈ops.toList,∀d,o.dst=some d->d<a.tmps.size)->Fit E s a w->(draw ops.toList s).leaf E.ρ=some s'->
  (∀a' w',Then E s a w s' a' w'->Q .normal a' w')->(Code.region id ops true).wp P Q a w
def Dq [Glob] (P:Program) (chk:Nat->List Oper->Bool) (draw:Nat->List Oper->St->T St):Prop:=
 ∀(id:Nat) (ops:Array Oper),chk id ops.toList=true->∀(E:En) (s s':St) (a:Act) (w:World) (Q:Exit->Act->World->Prop),(∀o∈ops.toList,∀d,o.dst=some d->d<a.tmps.size)->Fit E s a w->(draw id ops.toList s).leaf E.ρ=some s'->
  (∀a' w',Then E s a w s' a' w'->Q .normal a' w')->(Code.region id ops true).wp P Q a w
def nH (chk:Nat->List Oper->Bool) (n:Nat):Code->Bool
 | .region id ops d=>aDj n ops.toList&&(!d||chk id ops.toList)
 | .seq a b=>nH chk n a&&nH chk n b
 | .cond _ a b=>nH chk n a&&nH chk n b
 | .block _ b=>nH chk n b
 | .loop b=>nH chk n b
 | .scope b=>nH chk n b
 |_=>true
theorem axF {n m:Nat} {ops:List Oper} (h:aDj n ops=true) (hm:n<=m): ∀o∈ops,∀d,o.dst=some d->d<m:=by intro o ho d hd;unfold aDj at h;rw [aHz] at h;have:=h o ho;rw [hd] at this;simp at this;exact aIe this hm
def EP:Ex->Exit
 | .normal=> .normal
 | .exit id=> .exit id
 | .ret=> .ret
def Post [Glob] (E:En) (s:St) (a:Act) (w:World) (e:Ex) (s':St) (x:Exit) (a':Act) (w':World):Prop:=x=EP e/\Then E s a w s' a' w'
theorem Then.comp [Glob] {E E1:En} {s s1 s2:St} {a a1 a2:Act} {w w1 w2:World} (d1:a1.defers=a.defers) (z1:a1.tmps.size=a.tmps.size) (st1:Stp E s.h w E1 s1.h w1) (h2:Then E1 s1 a1 w1 s2 a2 w2):Then E s a w s2 a2 w2:=by obtain⟨d2,z2,E2,st2,f2⟩:=h2;exact⟨d2.trans d1,z2.trans z1,E2,st1.trans st2,f2⟩
def atE [Glob] (P:Program) (c:Code) (n:Nat) (f:St->T (Ex×St)):Prop:=
 ∀(E:En) (s s':St) (e:Ex) (a:Act) (w:World),n<=a.tmps.size->Fit E s a w->(f s).leaf E.ρ=some (e,s')->c.wp P (Post E s a w e s') a w
theorem OE {ρ:Nat->Int} {f:St->T (Ex×St)}: ∀(k:Nat) {s s':St} {e:Ex},(CP f k s).leaf ρ=some (e,s')->e≠.normal
 |0,s,s',e,h=>by simp [CP,T.leaf] at h
 |k+1,s,s',e,h=>by
  simp only [CP] at h;obtain⟨⟨e1,s1⟩,h1,h2⟩:=T.gZ h
  cases e1 with
  |normal=>exact OE k h2
  |exit id=>have:=aF h2; simp only [aHf] at this; rw [<- this.1]; simp
  |ret=>have:=aF h2; simp only [aHf] at this; rw [<- this.1]; simp
theorem Tj [Glob] {c:Code} {n:Nat} {f:St->T (Ex×St)} (hf:atE P c n f): ∀(k:Nat) {E:En} {s s':St} {e:Ex} {a:Act} {w:World},n<=a.tmps.size->Fit E s a w->(CP f k s).leaf E.ρ=some (e,s')->
 ∀(Q:Exit->Act->World->Prop),(∀a' w',Then E s a w s' a' w'->Q (EP e) a' w')->e≠.normal/\Code.rounds P c Q k a w
 |0,E,s,s',e,a,w,_,_,h,_,_=>by simp [CP,T.leaf] at h
 |k+1,E,s,s',e,a,w,hn,fit,h,Q,hq=>by
  simp only [CP] at h;obtain⟨⟨e1,s1⟩,h1,h2⟩:=T.gZ h;have hw:=hf E s s1 e1 a w hn fit h1;rw [rounds_succ]
  cases e1 with
  |normal=>
   simp only at h2;constructor
   ·exact OE k h2
   ·refine wp_mono hw fun x a1 w1 ⟨hx,ht⟩=>?_;subst hx;obtain⟨d1,z1,E1,st1,f1⟩:=ht;exact (Tj hf k (by rw [z1]; exact hn) f1 (by rw [st1.ρ]; exact h2) Q fun a' w' ht'=>hq a' w' (ht'.comp d1 z1 st1)).2
  |exit id=> have:=aF h2;simp only [aHf] at this;obtain⟨rfl,rfl⟩:=this;refine⟨by simp,wp_mono hw fun x a1 w1 ⟨hx,ht⟩=>?_⟩;subst hx;exact hq a1 w1 ht
  |ret=> have:=aF h2;simp only [aHf] at this;obtain⟨rfl,rfl⟩:=this;refine⟨by simp,wp_mono hw fun x a1 w1 ⟨hx,ht⟩=>?_⟩;subst hx;exact hq a1 w1 ht
theorem oO [Glob] {tt:TT} (htt:fE P tt) {call:eF} (hc:kP P call) {draw:Nat->List Oper->St->T St} {chk:Nat->List Oper->Bool} (hdr:Dq P chk draw) {lf n:Nat}: ∀(c:Code),nH chk n c=true->atE P c n (lT tt call draw lf c)
 | .skip,_,E,s,s',e,a,w,_,fit,h=>by have:=aF h;simp only [aHf] at this;obtain⟨rfl,rfl⟩:=this;exact wp_skip ⟨rfl,Then.refl fit⟩
 | .region id ops d,hdst,E,s,s',e,a,w,hn,fit,h=>by
   simp only [lT] at h;simp only [nH,aHg] at hdst;have hd:=axF hdst.1 hn;cases d
   ·simp only [aHv,if_false] at h;obtain⟨s1,h1,h2⟩:=T.gZ h;have:=aF h2;simp only [aHf] at this;obtain⟨rfl,rfl⟩:=this;refine wp_region ?_;have:=OD (Q:=Post E s a w .normal s1) htt hc ops.toList 0 (by simp) hd fit h1 (fun a' w' ht=> ⟨rfl,ht⟩);rw [List.range_eq_range'];simpa using this
   ·simp only [if_true] at h;obtain⟨s1,h1,h2⟩:=T.gZ h;have:=aF h2;simp only [aHf] at this;obtain⟨rfl,rfl⟩:=this;exact hdr id ops (by simpa using hdst.2) E s s1 a w _ hd fit h1 (fun a' w' ht=> ⟨rfl,ht⟩)
 | .seq x y,hdst,E,s,s',e,a,w,hn,fit,h=>by
   simp only [nH,aHg] at hdst;simp only [lT] at h;obtain⟨⟨e1,s1⟩,h1,h2⟩:=T.gZ h;refine wp_seq (wp_mono (oO htt hc hdr x hdst.1 E s s1 e1 a w hn fit h1) fun q a1 w1 ⟨hx,ht⟩=>?_);subst hx
   cases e1 with
   |normal=> simp only at h2;obtain⟨d1,z1,E1,st1,f1⟩:=ht;refine wp_mono (oO htt hc hdr y hdst.2 E1 s1 s' e a1 w1 (by rw [z1]; exact hn) f1 (by rw [st1.ρ]; exact h2)) fun q a2 w2 ⟨hx,ht'⟩=>?_;exact⟨hx,ht'.comp d1 z1 st1⟩
   |exit id=> have:=aF h2;simp only [aHf] at this;obtain⟨rfl,rfl⟩:=this;exact⟨rfl,ht⟩
   |ret=> have:=aF h2;simp only [aHf] at this;obtain⟨rfl,rfl⟩:=this;exact⟨rfl,ht⟩
 | .cond c x y,hdst,E,s,s',e,a,w,hn,fit,h=>by
   simp only [nH,aHg] at hdst;simp only [lT] at h;split at h
   ·rename_i cb hcb;have hv:=jW fit.sr hcb;simp only [VR] at hv;obtain⟨pc',hp',h1⟩:=dB fit.pc h;have fit':Fit E { s with pc:=pc' } a w:=⟨fit.rel,fit.sr,hp'⟩;refine wp_cond hv ?_;cases hcd:cb.den E.ρ<;>rw [hcd] at h1
    ·simp only [aHv,if_false] at h1 ⊢;exact wp_mono (oO htt hc hdr y hdst.2 E _ s' e a w hn fit' h1) fun q a2 w2 ⟨hx,ht⟩=> ⟨hx,ht.defers,ht.size,ht.step⟩
    ·simp only [if_true] at h1 ⊢;exact wp_mono (oO htt hc hdr x hdst.1 E _ s' e a w hn fit' h1) fun q a2 w2 ⟨hx,ht⟩=> ⟨hx,ht.defers,ht.size,ht.step⟩
   ·simp [T.leaf] at h
 | .block id b,hdst,E,s,s',e,a,w,hn,fit,h=>by
   simp only [nH] at hdst;simp only [lT] at h;obtain⟨⟨e1,s1⟩,h1,h2⟩:=T.gZ h;refine wp_block (wp_mono (oO htt hc hdr b hdst E s s1 e1 a w hn fit h1) fun q a1 w1 ⟨hx,ht⟩=>?_);subst hx
   cases e1 with
   |normal=> have:=aF h2;simp only [aHf] at this;obtain⟨rfl,rfl⟩:=this;exact⟨rfl,ht⟩
   |exit j=>
    have:=aF h2;simp only [aHf] at this;obtain⟨rfl,rfl⟩:=this;simp only [EP,Exit.inBlock];by_cases hj:j=id
    ·rw [aHd hj,aHd hj]; exact⟨rfl,ht⟩
    ·rw [aHc hj,aHc hj]; exact⟨rfl,ht⟩
   |ret=> have:=aF h2;simp only [aHf] at this;obtain⟨rfl,rfl⟩:=this;exact⟨rfl,ht⟩
 | .loop b,hdst,E,s,s',e,a,w,hn,fit,h=>by simp only [nH] at hdst;simp only [lT] at h;exact wp_loop_rounds lf (Tj (oO htt hc hdr b hdst) lf hn fit h (Post E s a w e s') (fun a' w' ht=> ⟨rfl,ht⟩)).2
 | .exit id,_,E,s,s',e,a,w,_,fit,h=>by have:=aF h;simp only [aHf] at this;obtain⟨rfl,rfl⟩:=this;exact wp_exit ⟨rfl,Then.refl fit⟩
 | .scope b,hdst,E,s,s',e,a,w,hn,fit,h=>by simp only [nH] at hdst;simp only [lT] at h;refine wp_scope_straight (wp_mono (oO htt hc hdr b hdst E s s' e a w hn fit h) fun q a1 w1 ⟨hx,ht⟩=>?_);subst hx;cases e<;>exact⟨rfl,ht⟩
 | .label l,_,E,s,s',e,a,w,_,fit,h=>by have:=aF h;simp only [aHf] at this;obtain⟨rfl,rfl⟩:=this;exact wp_label ⟨rfl,Then.refl fit⟩
 | .ret,_,E,s,s',e,a,w,_,fit,h=>by have:=aF h;simp only [aHf] at this;obtain⟨rfl,rfl⟩:=this;exact wp_ret ⟨rfl,Then.refl fit⟩
 | .rangeFunc _ _ _ _,_,E,s,s',e,a,w,_,fit,h=>by simp [lT,T.leaf] at h
 | .goto _,_,E,s,s',e,a,w,_,fit,h=>by simp [lT,T.leaf] at h
 | .refuse _,_,E,s,s',e,a,w,_,fit,h=>by simp [lT,T.leaf] at h
end
section
variable {P:Program}
theorem XA: ∀(args:List AV) (i:Nat) (t:Tr AV) (k:Nat),(bI args i t).get k=if i<=k/\k<i+args.length then args[k-i]? else t.get k
 |[],i,t,k=>by
  have: ¬(i<=k/\k<i+([]:List AV).length):=by simp
  rw [aHc this];rfl
 |v::vs,i,t,k=>by
  simp only [bI,XA vs (i+1),Tr.get_put,aHq];by_cases h1:i+1<=k/\k<i+1+vs.length
  ·have h2:i<=k/\k<i+(vs.length+1):=by omega
   rw [aHd h1,aHd h2];have:k-i=(k-(i+1))+1:=by omega
   rw [this,aHp]
  ·rw [aHc h1];by_cases h3:k=i
   ·subst h3;have h2:k<=k/\k<k+(vs.length+1):=by omega
    rw [aHd h2];simp
   ·have h2: ¬(i<=k/\k<i+(vs.length+1)):=by omega
    rw [aHc h2]
    first
     |rw [aHc h3]
     |rw [aHc (fun q=>h3 q.symm)]
theorem bT.get {E:En} {h:Array Obj}: ∀{vs:List AV} {us:List Value},bT E h vs us->∀(i:Nat) (v:AV),vs[i]?=some v->∃u,us[i]?=some u/\VR E h v u
 |[],us,hv,i,v,hi=>by simp at hi
 |x::xs,us,hv,i,v,hi=>by
  cases us with
  |nil=>simp [bT] at hv
  |cons y ys=>
   simp only [bT] at hv;obtain⟨u',us',he,h1,h2⟩:=hv;simp only [List.cons.injEq] at he;obtain⟨rfl,rfl⟩:=he
   cases i with
   |zero=>simp at hi; subst hi; exact⟨y,by simp,h1⟩
   |succ i=>simpa using bT.get h2 i v (by simpa using hi)
theorem Gy {E:En} {h:Array Obj} {args:List AV} {vals:List Value} (hv:bT E h args vals) (n:Nat) :
 SR E h (bI args 0 .nil) { tmps:=vals.toArray++Array.replicate n undef,defers:=[] }:=by
 intro t v ht;rw [XA] at ht;split at ht
 ·rename_i hk;obtain⟨u,h1,h2⟩:=bT.get hv t v (by simpa using ht);refine⟨u,?_,h2⟩
  have:t<vals.length:=by
   rcases aHw t vals.length with h|h
   ·exact h
   ·rw [aH2 h] at h1; simp at h1
  rw [aJc (by simpa using this)];simpa using h1
 ·simp [Tr.get] at ht
def BQ (a:Act):ResultVar->Sem Value
 | .tmp t=>pure (a.tmps.getD t undef)
 | .cell b t=>do loadVar t (<- asAddr (a.tmps.getD b undef))
def resV (vs:List AV):AV:=match vs with |[x]=>x|vs=> .tuple vs
theorem Rt {vs:List AV} (h: ∀v,vs= [v]->False):resV vs= .tuple vs:=by
 unfold resV;split
 ·exact absurd rfl (h _)
 ·rfl
theorem KW {E:En} {h:Array Obj} {vs:List AV} {us:List Value} (g2:bT E h vs us):VR E h (resV vs) (if h:us.toArray.size=1 then us.toArray[0] else .tuple us.toArray):=by
 cases vs with
 |nil=> simp only [bT] at g2;subst g2;simp [resV,VR,bT]
 |cons x xs=>
  cases xs with
  |nil=> simp only [bT] at g2;obtain⟨u,us',rfl,h1,rfl⟩:=g2;simpa [resV] using h1
  |cons x2 xs=>
   have g3:=g2;simp only [bT] at g2;obtain⟨u,us',rfl,h1,u2,us2,rfl,h2,h3⟩:=g2;have: ¬((u::u2::us2).toArray.size=1):=by simp
   rw [dif_neg this];simp only [resV,VR];exact⟨_,rfl,g3⟩
theorem XT [Glob] {tt:TT} (htt:fE P tt) {E:En} {s:St} {a:Act} {w:World} (fit:Fit E s a w) {r:ResultVar} {v:AV} (h:GZ tt s r=some v) :
 ∃u,(BQ a r).run P w= .ok u w/\VR E w.heap v u:=by
 cases r with
 |tmp t=> simp only [GZ] at h;obtain⟨u,h1,h2⟩:=fit.sr t v h;exact⟨u,by simp [BQ,h1,aHZ],h2⟩
 |cell b t=>
  simp only [GZ] at h;split at h
  ·rename_i p hp;obtain⟨u,h1,h2⟩:=fit.sr b p hp;obtain⟨x,bb,o,rfl,h3,h4⟩:=Jk htt fit.rel h2 h;exact⟨x,by simp [BQ,h1,aHZ,asAddr,h3],h4⟩
  ·simp at h
theorem Am [Glob] {tt:TT} (htt:fE P tt) {E:En} {s:St} {a:Act} {w:World} (fit:Fit E s a w): ∀{rs:List ResultVar} {vs:List AV},oN tt s rs=some vs->
 ∃us,(rs.mapM (BQ a)).run P w= .ok us w/\bT E w.heap vs us
 |[],vs,h=>by simp [oN] at h;subst h;exact⟨[],by simp,by simp [bT]⟩
 |r::rs,vs,h=>by
  simp only [oN] at h;split at h
  ·simp at h
  ·rename_i v hv;split at h
   ·simp at h
   ·rename_i vs' hvs;simp at h;subst h;obtain⟨u,h1,h2⟩:=XT htt fit hv;obtain⟨us,h3,h4⟩:=Am htt fit hvs;refine⟨u::us,?_,by simp only [bT]; exact⟨u,us,rfl,h2,h4⟩⟩;rw [aIR];simp [Sem.run_bind,h1,h3]
def aiQ (P:Program) (chk:Nat->Nat->List Oper->Bool) (ft:Nat->Option Func):Prop:= ∀g fn,ft g=some fn->P.funcs[g]?=some fn/\(fn.name == "runtime.NumGoroutine")=false/\∀c,fn.body=some c->nH (chk g) fn.ntmps c=true
theorem G8 [Glob] {tt:TT} (htt:fE P tt) {chk:Nat->Nat->List Oper->Bool} {ft:Nat->Option Func} (hft:aiQ P chk ft) {hook:Nat->Option (List AV->St->T (AV×St))} (hh: ∀g h,hook g=some h->nK P g h)
 {draw:eF->Nat->Nat->List Oper->St->T St} (hdr: ∀call,kP P call->∀g,Dq P (chk g) (draw call g)) (lf:Nat): ∀(n:Nat),kP P (Vq tt ft hook draw lf n)
 |0=>by intro g args s E w vals v s' _ _ _ h;simp [Vq,T.leaf] at h
 |n+1=>by
  have ih:=G8 htt hft hh hdr lf n;intro g args s E w vals v s' r hv hp h;simp only [Vq] at h;split at h
  ·rename_i f hf;exact hh g f hf args s E w vals v s' r hv hp h
  ·split at h
   ·simp [T.leaf] at h
   ·rename_i fn hfn;obtain⟨hf,hname,hdst⟩:=hft g fn hfn;split at h
    ·simp [T.leaf] at h
    ·rename_i c hb;obtain⟨⟨e,s1⟩,h1,h2⟩:=T.gZ h
     have fit:Fit E { s with slots:=bI args 0 .nil } { tmps:=vals.toArray++Array.replicate (fn.ntmps-vals.toArray.size) undef,defers:=[] } w:=
      ⟨r,Gy hv _,hp⟩
     have hwp:=oO htt ih (hdr _ ih g) (lf:=lf) c (hdst c hb) E _ s1 e _ w (by simp; omega) fit h1
     have hout: ∃vs,oN tt s1 fn.results.toList=some vs/\(e= .normal\/e= .ret)/\s'= { s1 with slots:=s.slots }/\v=resV vs:=by
      cases e with
      |exit id=>simp [T.leaf] at h2
      |normal=>
       simp only at h2;split at h2
       ·rename_i x hx;have:=aF h2;simp only [aHf] at this;exact⟨_,hx,.inl rfl,this.2.symm,this.1.symm⟩
       ·rename_i vs hn hx;have:=aF h2;simp only [aHf] at this;refine⟨_,hx,.inl rfl,this.2.symm,?_⟩;rw [<- this.1];exact (Rt hn).symm
       ·simp [T.leaf] at h2
      |ret=>
       simp only at h2;split at h2
       ·rename_i x hx;have:=aF h2;simp only [aHf] at this;exact⟨_,hx,.inr rfl,this.2.symm,this.1.symm⟩
       ·rename_i vs hn hx;have:=aF h2;simp only [aHf] at this;refine⟨_,hx,.inr rfl,this.2.symm,?_⟩;rw [<- this.1];exact (Rt hn).symm
       ·simp [T.leaf] at h2
     obtain⟨vs,hr,he,rfl,rfl⟩:=hout
     have hpc:bK E.ρ s1.pc:=by obtain⟨_,_,_,⟨_,ht⟩,_⟩:=hwp default [] [];obtain⟨E1,st1,f1⟩:=ht.step;have:=f1.pc;rw [st1.ρ] at this;exact this
     refine⟨rfl,hpc,?_⟩
     have aB8:Calls P g vals.toArray w fun e w''=> ∃u,e= .returned u/\After E s w (resV vs) { s1 with slots:=s.slots } u w'':=by
      refine calls_of_wp hf hb (wp_mono hwp fun x a1 w1 ⟨hx,ht⟩=>?_);subst hx;obtain⟨d1,z1,E1,st1,f1⟩:=ht;obtain⟨us,g1,g2⟩:=Am htt f1 hr
      have: ∃u,(results fn a1.tmps).run P w1= .ok u w1/\VR E1 w1.heap (resV vs) u:=by
       refine⟨if h:us.toArray.size=1 then us.toArray[0] else .tuple us.toArray,?_,?_⟩
       ·have hm:(fn.results.mapM (BQ a1)).run P w1= .ok us.toArray w1:=by
         rw [aJX];rw [map_eq_pure_bind];simp only [Sem.run_bind,g1];rfl
        have hres:results fn a1.tmps=(do let vs <- fn.results.mapM (BQ a1); pure (if h:vs.size=1 then vs[0] else .tuple vs)):=rfl;rw [hres];simp only [Sem.run_bind,hm];rfl
       ·exact KW g2
      obtain⟨u,g3,g4⟩:=this;rcases he with rfl|rfl
      ·exact⟨d1,u,g3,u,rfl,E1,st1,f1.rel,g4⟩
      ·exact⟨d1,u,g3,u,rfl,E1,st1,f1.rel,g4⟩
     have hrun:(callFunc g vals.toArray).run P w= .ok (.enter g vals.toArray) w:=by unfold callFunc;simp [hf,hb,by simpa using hname]
     unfold uY uX;rw [hrun];exact aB8
end
def Tr.over {α:Type}:Tr α->Tr α->Tr α
 | .nil,b=>b
 | .node v l r,b=> .node (match v with |some x=>some x|none=>b.val) (Tr.over l b.left) (Tr.over r b.right)
def Tr.minus {α:Type}:Tr α->Tr α->Tr α
 | .nil,b=>b
 | .node v l r,b=> .node (match v with |some _=>none|none=>b.val) (Tr.minus l b.left) (Tr.minus r b.right)
theorem Tr.Oo {α:Type}: ∀(a b:Tr α) (k:Nat),(Tr.over a b).get k=match a.get k with |some x=>some x|none=>b.get k
 | .nil,b,k=>by simp [Tr.over,Tr.get]
 | .node v l r,b,k=>by
   simp only [Tr.over];rw [Tr.uF,Tr.uF,Tr.DY b k];by_cases h0:k=0
   ·simp only [aHd h0]
   ·simp only [aHc h0];by_cases h1:(k-1) % 2=0
    ·simp only [aHd h1]; exact Tr.Oo l b.left _
    ·simp only [aHc h1]; exact Tr.Oo r b.right _
theorem Tr.Jj {α:Type}: ∀(a b:Tr α) (k:Nat),(Tr.minus a b).get k=match a.get k with |some _=>none|none=>b.get k
 | .nil,b,k=>by simp [Tr.minus,Tr.get]
 | .node v l r,b,k=>by
   simp only [Tr.minus];rw [Tr.uF,Tr.uF,Tr.DY b k];by_cases h0:k=0
   ·simp only [aHd h0]
   ·simp only [aHc h0];by_cases h1:(k-1) % 2=0
    ·simp only [aHd h1]; exact Tr.Jj l b.left _
    ·simp only [aHc h1]; exact Tr.Jj r b.right _
structure Stw (E:En) (H:Hp) (w:World) (E':En) (H':Hp) (w':World):Prop where
 ρ:E'.ρ=E.ρ
 dm: ∀id,E.dm id->E'.dm id
 θ: ∀id,E.dm id->E'.θ id=E.θ id
 κ: ∀id,E.dm id->E'.κ id=E.κ id
 ro: ∀b,E.ro b->E'.ro b
 JF: ∀b,E'.ro b->E.ro b\/(∃id o,H.get id=some o/\(E.θ id).1=b)\/w.heap.size<=b
 os:w'.os=w.os
 tape:w'.tape=w.tape
 output:w'.output=w.output
 size:w.heap.size<=w'.heap.size
 keep: ∀b,b<w.heap.size->(∀id o,H.get id=some o->(E.θ id).1≠b)->w'.heap[b]?=w.heap[b]?
 own: ∀id o,H'.get id=some o->(E'.θ id).1<w.heap.size->∃Ej o0,H.get Ej=some o0/\(E.θ Ej).1=(E'.θ id).1
section
variable {E E' E'':En} {H H' H'':Hp} {w w' w'':World}
theorem Stp.weak (s:Stp E H w E' H' w'):Stw E H w E' H' w':=⟨s.ρ,s.dm,s.θ,s.κ,s.ro,s.JF,s.os,s.tape,s.output,s.size,s.keep,s.own⟩
theorem Stw.strong (s:Stw E H w E' H' w') (h1:H.next<=H'.next) (h2:H'.res=none) (h3: ∀id,E'.dm id->E.dm id\/(H.next<=id/\id<H'.next)):Stp E H w E' H' w':=
 ⟨s.ρ,s.dm,s.θ,s.κ,s.ro,s.JF,h1,.inl h2,fun id h=>(h3 id h).elim .inl fun h=> .inr (.inl h),s.os,s.tape,s.output,s.size,s.keep,s.own⟩
theorem Stw.trans (a:Stw E H w E' H' w') (b:Stw E' H' w' E'' H'' w''):Stw E H w E'' H'' w'' where
 ρ:=b.ρ.trans a.ρ
 dm:=fun id h=>b.dm id (a.dm id h)
 θ:=fun id h=>(b.θ id (a.dm id h)).trans (a.θ id h)
 κ:=fun id h=>(b.κ id (a.dm id h)).trans (a.κ id h)
 ro:=fun x h=>b.ro x (a.ro x h)
 JF:=fun x h=>by
  rcases b.JF x h with h|⟨id,o,h1,h2⟩|h
  ·exact a.JF x h
  ·rcases aHw x w.heap.size with hx|hx
   ·obtain⟨Ej,o0,h3,h4⟩:=a.own id o h1 (by rw [h2]; exact hx);exact .inr (.inl ⟨Ej,o0,h3,h4.trans h2⟩)
   ·exact .inr (.inr hx)
  ·exact .inr (.inr (aHP a.size h))
 os:=b.os.trans a.os
 tape:=b.tape.trans a.tape
 output:=b.output.trans a.output
 size:=aHP a.size b.size
 keep:=fun x hx hn=>by rw [b.keep x (aIe hx a.size) ?_,a.keep x hx hn];intro id o ho he;obtain⟨Ej,o0,h0,he0⟩:=a.own id o ho (by rw [he]; exact hx);exact hn Ej o0 h0 (he0.trans he)
 own:=fun id o ho hlt=>by obtain⟨id1,o1,h1,he1⟩:=b.own id o ho (aIe hlt a.size);obtain⟨Ej,o0,h0,he0⟩:=a.own id1 o1 h1 (by rw [he1]; exact hlt);exact⟨Ej,o0,h0,he0.trans he1⟩
theorem Stw.keeps [Glob] (s:Stw E H w E' H' w') (r:bG E H w):Keeps E w.heap E' w'.heap:=
 ⟨s.ρ,s.dm,s.θ,s.κ,s.ro,fun b hb=>s.keep b (r.BO b hb) fun id o ho he=>(r.live id o ho).2.2 (by rw [he]; exact hb)⟩
theorem bG.part [Glob] {H1:Hp} (r:bG E H w) (sub: ∀id o,H1.get id=some o->H.get id=some o) (hn:H.next<=H1.next) (hr: ∀q,H1.res=some q->q<H1.next/\¬E.dm q):bG E H1 w:=
 ⟨fun id h=>r.fresh id (aHP hn h),hr,fun id o h=>r.live id o (sub id o h),fun i j o o' h h' e=>r.inj i j o o' (sub _ _ h) (sub _ _ h') e,r.BO,r.glob⟩
theorem aoS [Glob] {H1 YB:Hp} (r:bG E H w) (sub: ∀id o,H1.get id=some o->H.get id=some o) (st:Stp E H1 w E' YB w') (r':bG E' YB w') (n:Nat) (hn: ∀id,n<=id->¬E'.dm id) :
 ∃H':Hp,H'=⟨Tr.over YB.m (Tr.minus H1.m H.m),n,none⟩/\(∀id o,YB.get id=some o->H'.get id=some o)/\(∀id o,H.get id=some o->H1.get id=none->H'.get id=some o)/\bG E' H' w'/\Stw E H w E' H' w':=by
 have hnot: ∀id o,H.get id=some o->H1.get id=none->YB.get id=none:=by
  intro id o h h1
  cases h2:YB.get id with
  |none=>rfl
  |some o'=> exfalso;have hd:=(r.live id o h).1;have hθ:=st.θ id hd;obtain⟨Ej,o0,g1,g2⟩:=st.own id o' h2 (by rw [hθ]; exact jS r h);have:=r.inj Ej id o0 o (sub _ _ g1) h (by rw [g2,hθ]);subst this;rw [h1] at g1;simp at g1
 have hget: ∀id,(⟨Tr.over YB.m (Tr.minus H1.m H.m),n,none⟩ : Hp).get id=match YB.get id with |some x=>some x|none=>match H1.get id with |some _=>none|none=>H.get id:=by
  intro id;simp only [Hp.get,Tr.Oo,Tr.Jj]
  cases YB.m.get id with
  |some x=>rfl
  |none=>cases H1.m.get id<;>rfl
 have hcase: ∀id o,(⟨Tr.over YB.m (Tr.minus H1.m H.m),n,none⟩ : Hp).get id=some o->YB.get id=some o\/(YB.get id=none/\H1.get id=none/\H.get id=some o):=by
  intro id o h;rw [hget] at h
  cases h1:YB.get id with
  |some x=>rw [h1] at h; exact .inl h
  |none=>
   rw [h1] at h
   cases h2:H1.get id with
   |some x=>rw [h2] at h; simp at h
   |none=>rw [h2] at h; exact .inr ⟨rfl,rfl,h⟩
 have hkeep: ∀id o,H1.get id=none->H.get id=some o->w'.heap[(E.θ id).1]?=w.heap[(E.θ id).1]?:=by intro id o h1 h;refine st.keep _ (jS r h) fun Ej o0 h0 he=>?_;have:=r.inj Ej id o0 o (sub _ _ h0) h he;subst this;rw [h1] at h0;simp at h0
 have k:Keeps E w.heap E' w'.heap:=⟨st.ρ,st.dm,st.θ,st.κ,st.ro,fun b hb=>st.keep b (r.BO b hb) fun id o ho he=>(r.live id o (sub _ _ ho)).2.2 (by rw [he]; exact hb)⟩;refine⟨_,rfl,fun id o h=>by rw [hget,h],fun id o h h1=>by rw [hget,hnot id o h h1,h1]; exact h,⟨hn,by simp,?_,?_,r'.BO,r'.glob⟩,⟨st.ρ,st.dm,st.θ,st.κ,st.ro,fun b hb=>(st.JF b hb).imp id (Or.imp (fun⟨i,o,h1,h2⟩=> ⟨i,o,sub _ _ h1,h2⟩) id),st.os,st.tape,st.output,st.size,?_,?_⟩⟩
 ·intro id o h;rcases hcase id o h with h1|⟨h1,h2,h3⟩
  ·exact r'.live id o h1
  ·obtain⟨g1,g2,g3⟩:=r.live id o h3;refine⟨st.dm id g1,g2.keep k g1 (hkeep id o h2 h3),?_⟩;rw [st.θ id g1];intro hr;rcases st.JF _ hr with hr|⟨Ej,o0,f1,f2⟩|hr
   ·exact g3 hr
   ·have:=r.inj Ej id o0 o (sub _ _ f1) h3 f2;subst this;rw [h2] at f1;simp at f1
   ·have:=jS r h3;omega
 ·intro i j o o' h h' he;rcases hcase i o h with h1|⟨h1,h2,h3⟩ <;>rcases hcase j o' h' with g1|⟨g1,g2,g3⟩
  ·exact r'.inj i j o o' h1 g1 he
  ·exfalso;rw [st.θ j (r.live j o' g3).1] at he;obtain⟨Ej,o0,f1,f2⟩:=st.own i o h1 (by rw [he]; exact jS r g3);have:=r.inj Ej j o0 o' (sub _ _ f1) g3 (f2.trans he);subst this;rw [g2] at f1;simp at f1
  ·exfalso;rw [st.θ i (r.live i o h3).1] at he;obtain⟨Ej,o0,f1,f2⟩:=st.own j o' g1 (by rw [<- he]; exact jS r h3);have:=r.inj Ej i o0 o (sub _ _ f1) h3 (f2.trans he.symm);subst this;rw [h2] at f1;simp at f1
  ·rw [st.θ i (r.live i o h3).1,st.θ j (r.live j o' g3).1] at he;exact r.inj i j o o' h3 g3 he
 ·intro b hb hno;exact st.keep b hb fun id o h=>hno id o (sub _ _ h)
 ·intro id o h hlt;rcases hcase id o h with h1|⟨h1,h2,h3⟩
  ·obtain⟨Ej,o0,f1,f2⟩:=st.own id o h1 hlt;exact⟨Ej,o0,sub _ _ f1,f2⟩
  ·exact⟨id,o,h3,by rw [st.θ id (r.live id o h3).1]⟩
theorem frame [Glob] {H1 YB:Hp} (r:bG E H w) (sub: ∀id o,H1.get id=some o->H.get id=some o) (st:Stp E H1 w E' YB w') (r':bG E' YB w') (n:Nat) (hn: ∀id,n<=id->¬E'.dm id) :
 ∃H':Hp,H'.next=n/\H'.res=none/\(∀id o,YB.get id=some o->H'.get id=some o)/\(∀id o,H.get id=some o->H1.get id=none->H'.get id=some o)/\bG E' H' w'/\Stw E H w E' H' w':=by
 obtain⟨H',h0,h1,h2,h3,h4⟩:=aoS r sub st r' n hn;exact⟨H',by rw [h0],by rw [h0],h1,h2,h3,h4⟩
end
section
variable {P:Program}
def PU [Glob] (P:Program) (ρ:Nat->Int) (ops:Array Oper) (o:Oper) (S:Tr AV) (H:Hp) (v:AV) (H':Hp):Prop:=
 ∀(E:En) (a:Act) (w:World),E.ρ=ρ->bG E H w->SR E w.heap S a->
  (Region.wanted o (yielded ops a.tmps)=false/\v=AV.undef/\H'=H)\/
  (Region.wanted o (yielded ops a.tmps)=true/\yB P o a w (fun u w'=> ∃E',Stp E H w E' H' w'/\bG E' H' w'/\VR E' w'.heap v u))
theorem PU.wpOp [Glob] {ρ:Nat->Int} {ops:Array Oper} {o:Oper} {S:Tr AV} {H H':Hp} {v:AV} (h:PU P ρ ops o S H v H') {E:En} {a:Act} {w:World} (hρ:E.ρ=ρ) (r:bG E H w) (sr:SR E w.heap S a)
 {i:Nat} (ho:ops[i]?=some o) {K:Act->World->Prop} {Q:Exit->Act->World->Prop}
 (hk: ∀(u:Value) (E':En) (w':World),Stp E H w E' H' w'->bG E' H' w'->VR E' w'.heap v u->K (a.put o.dst u) w'):wpOp P ops Q i K a w:=by
 unfold Go.wpOp;simp only [ho];rcases h E a w hρ r sr with ⟨h1,rfl,rfl⟩|⟨h1,h2⟩
 ·rw [h1];simp only [aHv,if_false];exact hk undef E w (Stp.refl _ _ _) r tJ
 ·rw [h1];simp only [if_true];exact .inl (h2 _ _ fun u w' ⟨E',q1,q2,q3⟩=>hk u E' w' q1 q2 q3)
inductive Kind where
 |pa
 |e
 |r
 deriving DecidableEq
structure Plan [Glob] (P:Program) (ρ:Nat->Int) (ops:Array Oper) (vX:Tr AV) (H0:Hp) where
 base:Nat
 bf:Nat->Nat->Bool
 kd:Nat->Kind
 S:Nat->Tr AV
 val:Nat->AV
 st:Nat->Nat
 nE:Nat
 hp:Nat->Hp
 un:Nat->Nat->Bool
 blk:Nat->Option eP
 gen: ∀i j,bf i j=true->∃(o:Oper) (e:Edge),ops[j]?=some o/\e∈o.after/\Region.binds .any e=true/\(e.on=i\/bf i e.on=true)
 back: ∀(j:Nat) (o:Oper),ops[j]?=some o->∀e∈o.after,Region.binds .any e=true->e.on<j
 dst: ∀(i j:Nat) (oi oj:Oper) (d:Nat),ops[i]?=some oi->ops[j]?=some oj->oi.dst=some d->oj.dst=some d->i=j
 slots: ∀(i:Nat) (o:Oper),ops[i]?=some o->∀t x,(S i).get t=some x->(∃(j:Nat) (oj:Oper),bf j i=true/\ops[j]?=some oj/\oj.dst=some t/\val j=x)\/(vX.get t=some x/\∀(j:Nat) (oj:Oper),ops[j]?=some oj->oj.dst=some t->bf i j=true)
 stl: ∀(j:Nat) (o:Oper),ops[j]?=some o->kd j= .e->st j<nE
 inj: ∀i j,kd i= .e->kd j= .e->st i=st j->i=j
 aDT: ∀(j:Nat) (o:Oper),ops[j]?=some o->kd j= .e->∀m,m<st j->∃i,kd i= .e/\st i=m/\bf i j=true
 pa: ∀(i:Nat) (o:Oper),ops[i]?=some o->kd i= .pa->∃HA N,PU P ρ ops o (S i) ⟨.nil,N,some (base+i)⟩ (val i) HA/\HA.next=N/\blk i=HA.get (base+i)/\∀k,k<=nE->(hp k).next<=N
 ev: ∀(j:Nat) (o:Oper),ops[j]?=some o->kd j= .e->∃Wy,PU P ρ ops o (S j) Wy (val j) (hp (st j+1))/\Wy.next=(hp (st j)).next/\Wy.res=none/\
  (∀id x,Wy.get id=some x->(hp (st j)).get id=some x\/∃a,bf a j=true/\un (st j) a=true/\id=base+a/\blk a=some x)/\
  (∀a,un (st j+1) a=true->un (st j) a=true/\bf a j=false)
 rd: ∀(i:Nat) (o:Oper),ops[i]?=some o->kd i= .r->∀k,k<=nE->(∀j,kd j= .e->bf j i=true->st j<k)->(∀(j:Nat) (oj:Oper),ops[j]?=some oj->kd j= .e->bf i j=true->k<=st j)->
  ∃Wy,PU P ρ ops o (S i) Wy (val i) Wy/\Wy.next=(hp k).next/\Wy.res=none/\
   (∀id x,Wy.get id=some x->(hp k).get id=some x\/∃a,bf a i=true/\un k a=true/\id=base+a/\blk a=some x)
 unm: ∀k a x,k<=nE->blk a=some x->un k a=true->(hp k).get (base+a)=none
 nob: ∀i,kd i≠.pa->blk i=none
 first:base=H0.next/\base+ops.size<=(hp 0).next/\∀id x,(hp 0).get id=some x->H0.get id=some x
section
variable {gl:Glob} {ρ:Nat->Int} {ops:Array Oper} {vX:Tr AV} {H0:Hp} (p:Plan P ρ ops vX H0)
structure Plan.Inv (E0:En) (a0:Act) (w0:World) (L:Nat->Prop) (a:Act) (w:World):Prop where
 defers:a.defers=a0.defers
 size:a.tmps.size=a0.tmps.size
 closed: ∀i j,p.bf i j=true->L j->L i
 ex: ∃(E:En) (Hc:Hp) (k:Nat),k<=p.nE/\(∀(j:Nat) (o:Oper),ops[j]?=some o->p.kd j= .e->(L j↔p.st j<k))/\E.ρ=ρ/\Stw E0 H0 w0 E Hc w/\bG E Hc w/\Hc.next=(p.hp k).next/\Hc.res=none/\
  p.base+ops.size<=Hc.next/\(∀id,E.dm id->E0.dm id\/H0.next<=id)/\(∀(i:Nat) (o:Oper),ops[i]?=some o->¬L i->¬E.dm (p.base+i))/\
  (∀id x,(p.hp k).get id=some x->Hc.get id=some x)/\(∀b x,L b->p.un k b=true->p.blk b=some x->Hc.get (p.base+b)=some x)/\
  (∀t x,vX.get t=some x->(∀(j:Nat) (oj:Oper),ops[j]?=some oj->oj.dst=some t->¬L j)->∃u,a.tmps[t]?=some u/\VR E w.heap x u)/\
  (∀(j:Nat) (oj:Oper) (t:Nat),L j->ops[j]?=some oj->oj.dst=some t->∃u,a.tmps[t]?=some u/\VR E w.heap (p.val j) u)
theorem Np {a:Act} {d:Option Nat} {u:Value} {t:Nat} (h:d≠some t):(a.put d u).tmps[t]?=a.tmps[t]?:=by
 cases d with
 |none=>rfl
 |some x=> simp only [Act.put];rw [aIg];intro e;exact h (by rw [e])
theorem auT {a:Act} {u:Value} {t:Nat} (h:t<a.tmps.size):(a.put (some t) u).tmps[t]?=some u:=by simp [Act.put,h]
theorem Plan.aFK: ∀(j i:Nat),p.bf i j=true->i<j/\j<ops.size:=by
 intro j
 induction j using Nat.strongRecOn with
 |_ j ih=>
  intro i h;obtain⟨o,e,g1,g2,g3,g4⟩:=p.gen i j h;have hlt:=p.back j o g1 e g2 g3;have hj:=(aHN.1 g1).1;rcases g4 with rfl|g4
  ·exact⟨hlt,hj⟩
  ·have:=ih e.on hlt i g4;exact⟨by omega,hj⟩
theorem Plan.aAt {i j:Nat} (h:p.bf i j=true): ∃o:Oper,ops[i]?=some o:=by have:=p.aFK j i h;exact⟨ops[i]'(by omega),by simp⟩
theorem Plan.step {E0:En} {a0:Act} {w0:World} {L:Nat->Prop} {a:Act} {w:World} (hd: ∀o∈ops.toList,∀d,o.dst=some d->d<a0.tmps.size) (inv:p.Inv E0 a0 w0 L a w) {i:Nat} {o:Oper} (ho:ops[i]?=some o) (hL: ¬L i)
 (hr: ∀e∈o.after,Region.binds .any e=true->L e.on) {K:Act->World->Prop} {Q:Exit->Act->World->Prop} (hk: ∀a' w',p.Inv E0 a0 w0 (fun j=>j=i\/L j) a' w'->K a' w'):wpOp P ops Q i K a w:=by
 obtain⟨h1,h2,hcl,E,Hc,k,hkn,hst,hρ,YJ,rel,hnx,hres,hroom,hdm,hun,hhp,hbl,hs0,hs1⟩:=inv
 have hbf: ∀j,p.bf j i=true->L j:=by
  intro j hj;obtain⟨o',e,g1,g2,g3,g4⟩:=p.gen j i hj;rw [ho] at g1;simp at g1;subst g1;have:=hr e g2 g3;rcases g4 with rfl|g4
  ·exact this
  ·exact hcl j e.on g4 this
 have hii:p.bf i i≠true:=fun h=>hL (hbf i h);have hin:i<ops.size:=(aHN.1 ho).1
 have sr:SR E w.heap (p.S i) a:=by
  intro t x ht;rcases p.slots i o ho t x ht with ⟨j,oj,g1,g2,g3,g4⟩|⟨g1,g2⟩
  ·subst g4;exact hs1 j oj t (hbf j g1) g2 g3
  ·exact hs0 t x g1 fun j oj hj hjt hLj=>hL (hcl i j (g2 j oj hj hjt) hLj)
 have hcl': ∀x j,p.bf x j=true->(j=i\/L j)->(x=i\/L x):=by
  intro x j hx hj;rcases hj with rfl|hj
  ·exact .inr (hbf x hx)
  ·exact .inr (hcl x j hx hj)
 have fin: ∀(u:Value) (E':En) (YQ:Hp) (w':World) (k':Nat),Stw E Hc w E' YQ w'->bG E' YQ w'->VR E' w'.heap (p.val i) u->k'<=p.nE->(∀(j:Nat) (o:Oper),ops[j]?=some o->p.kd j= .e->((j=i\/L j)↔p.st j<k'))->
  YQ.next=(p.hp k').next->YQ.res=none->Hc.next<=YQ.next->(∀id,E'.dm id->E.dm id\/Hc.next<=id\/id=p.base+i)->(∀id x,(p.hp k').get id=some x->YQ.get id=some x)->
  (∀b x,(b=i\/L b)->p.un k' b=true->p.blk b=some x->YQ.get (p.base+b)=some x)->K (a.put o.dst u) w':=by
  intro u E' YQ w' k' q1 q2 q3 q4 q5 q6 q7 q8 q9 q10 q11;have kp:=q1.keeps rel;refine hk _ _ ⟨by rw [As.put_defers]; exact h1,by rw [Nl]; exact h2,hcl',E',YQ,k',q4,q5,q1.ρ.trans hρ,YJ.trans q1,q2,q6,q7,aHP hroom q8,?_,?_,q10,q11,?_,?_⟩
  ·intro id h;rcases q9 id h with h|h|h
   ·exact hdm id h
   ·right;have:=p.first.1;omega
   ·right;have:=p.first.1;omega
  ·intro j oj hj hn hdj;have hj2:=(aHN.1 hj).1;rcases q9 _ hdj with h|h|h
   ·exact hun j oj hj (fun h'=>hn (.inr h')) h
   ·omega
   ·exact hn (.inl (by omega))
  ·intro t x ht hno;obtain⟨y,g1,g2⟩:=hs0 t x ht fun j oj hj hjt h'=>hno j oj hj hjt (.inr h');exact⟨y,by rw [Np (fun e=>hno i o ho e (.inl rfl))]; exact g1,VR.keep kp _ _ g2⟩
  ·intro j oj t hj hoj ht;by_cases hji:j=i
   ·subst hji;rw [ho] at hoj;simp at hoj;subst hoj;rw [ht];exact⟨u,auT (by rw [h2]; exact hd o (Array.mem_toList_iff.2 (aJj ho)) t ht),q3⟩
   ·obtain⟨y,g1,g2⟩:=hs1 j oj t (hj.resolve_left hji) hoj ht;refine⟨y,?_,VR.keep kp _ _ g2⟩;rw [Np]
    ·exact g1
    ·intro h;exact hji (p.dst j i oj o t hoj ho ht h)
 cases hkd:p.kd i with
 |pa=>
  obtain⟨HA,N,g1,g2,g3,g4⟩:=p.pa i o ho hkd;have hN:=g4 k hkn;have aGu:=hun i o ho hL
  have r1:bG E ⟨.nil,N,some (p.base+i)⟩ w:=rel.part (by intro id x h; simp [Hp.get,Tr.get] at h) (by show Hc.next<=N; omega) (by
   intro q hq;simp at hq;subst hq
   exact⟨by show p.base+i<N; omega,aGu⟩)
  refine g1.wpOp hρ r1 sr ho fun u E' w' st r' hv=>?_
  have hdn: ∀id,E'.dm id->E.dm id\/id=p.base+i:=by
   intro id h;rcases st.dmn id h with h|h|h
   ·exact .inl h
   ·have h':N<=id/\id<HA.next:=h;omega
   ·have h':some (p.base+i)=some id:=h;simp at h';exact .inr h'.symm
  obtain⟨YQ,f1,f2,f3,f4,f5,f6⟩:=frame rel (by intro id x h; simp [Hp.get,Tr.get] at h) st r' Hc.next (fun id hid h=>by
   rcases hdn id h with h|h
   ·exact rel.fresh id hid h
   ·omega)
  refine fin u E' YQ w' k f6 f5 hv hkn ?_ (by rw [f1,hnx]) f2 (by omega) (fun id h=>(hdn id h).elim .inl fun h=> .inr (.inr h)) ?_ ?_
  ·intro j oj hoj hj;rw [<- hst j oj hoj hj];constructor
   ·intro h;rcases h with rfl|h
    ·rw [hkd] at hj; simp at hj
    ·exact h
   ·exact .inr
  ·intro id x h;exact f4 id x (hhp id x h) (by simp [Hp.get,Tr.get])
  ·intro b x hb hu hx;by_cases hbi:b=i
   ·subst hbi;rw [hx] at g3;exact f3 _ _ g3.symm
   ·exact f4 _ x (hbl b x (hb.resolve_left hbi) hu hx) (by simp [Hp.get,Tr.get])
 |e=>
  obtain⟨Wy,g1,g2,g3,g4,g5⟩:=p.ev i o ho hkd
  have hge:k<=p.st i:=by
   rcases aHw (p.st i) k with h|h
   ·exact absurd ((hst i o ho hkd).2 h) hL
   ·exact h
  have hsk:p.st i=k:=by
   rcases aHw k (p.st i) with h|h
   ·obtain⟨j,e1,e2,e3⟩:=p.aDT i o ho hkd k h;have hj:=hbf j e3;obtain⟨oj,hoj⟩:=p.aAt e3;have:=(hst j oj hoj e1).1 hj;omega
   ·omega
  rw [hsk] at g1 g2 g4 g5;have hkE:=p.stl i o ho hkd
  have hsub: ∀id x,Wy.get id=some x->Hc.get id=some x:=by
   intro id x h;rcases g4 id x h with h|⟨b,e1,e2,rfl,e4⟩
   ·exact hhp id x h
   ·exact hbl b x (hbf b e1) e2 e4
  have r1:bG E Wy w:=rel.part hsub (by omega) (by rw [g3]; simp);refine g1.wpOp hρ r1 sr ho fun u E' w' st r' hv=>?_
  have hdn: ∀id,E'.dm id->E.dm id\/Hc.next<=id:=by
   intro id h;rcases st.dmn id h with h|h|h
   ·exact .inl h
   ·right; omega
   ·rw [g3] at h; simp at h
  obtain⟨YQ,f1,f2,f3,f4,f5,f6⟩:=frame rel hsub st r' (p.hp (k+1)).next (fun id hid h=>r'.fresh id hid h)
  have hmono:=st.nxm;refine fin u E' YQ w' (k+1) f6 f5 hv (by omega) ?_ f1 f2 (by omega) (fun id h=>(hdn id h).elim .inl fun h=> .inr (.inl h)) f3 ?_
  ·intro j oj hoj hj;constructor
   ·intro h;rcases h with rfl|h
    ·omega
    ·have:=(hst j oj hoj hj).1 h;omega
   ·intro h;rcases aHw (p.st j) k with h'|h'
    ·exact .inr ((hst j oj hoj hj).2 h')
    ·exact .inl (p.inj j i hj hkd (by omega))
  ·intro b x hb hu hx;obtain⟨e1,e2⟩:=g5 b hu;by_cases hbi:b=i
   ·subst hbi;rw [p.nob b (by rw [hkd]; simp)] at hx;simp at hx
   ·refine f4 _ x (hbl b x (hb.resolve_left hbi) e1 hx) ?_
    cases hy:Wy.get (p.base+b) with
    |none=>rfl
    |some y=>
     exfalso;rcases g4 _ y hy with h|⟨c,c1,c2,c3,c4⟩
     ·rw [p.unm k b x hkn hx e1] at h;simp at h
     ·have:c=b:=by omega
      subst this;rw [e2] at c1;simp at c1
 |r=>
  have hk1: ∀j,p.kd j= .e->p.bf j i=true->p.st j<k:=by intro j hj hb;obtain⟨oj,hoj⟩:=p.aAt hb;exact (hst j oj hoj hj).1 (hbf j hb)
  have hk2: ∀(j:Nat) (oj:Oper),ops[j]?=some oj->p.kd j= .e->p.bf i j=true->k<=p.st j:=by
   intro j oj hoj hj hb;rcases aHw (p.st j) k with h|h
   ·exact absurd (hcl i j hb ((hst j oj hoj hj).2 h)) hL
   ·exact h
  obtain⟨Wy,g1,g2,g3,g4⟩:=p.rd i o ho hkd k hkn hk1 hk2
  have hsub: ∀id x,Wy.get id=some x->Hc.get id=some x:=by
   intro id x h;rcases g4 id x h with h|⟨b,e1,e2,rfl,e4⟩
   ·exact hhp id x h
   ·exact hbl b x (hbf b e1) e2 e4
  have r1:bG E Wy w:=rel.part hsub (by omega) (by rw [g3]; simp);refine g1.wpOp hρ r1 sr ho fun u E' w' st r' hv=>?_
  have hdn: ∀id,E'.dm id->E.dm id:=by
   intro id h;rcases st.dmn id h with h|h|h
   ·exact h
   ·omega
   ·rw [g3] at h; simp at h
  obtain⟨YQ,f1,f2,f3,f4,f5,f6⟩:=frame rel hsub st r' Hc.next (fun id hid h=>rel.fresh id hid (hdn id h))
  have hall: ∀id x,Hc.get id=some x->YQ.get id=some x:=by
   intro id x h
   cases h':Wy.get id with
   |none=>exact f4 id x h h'
   |some y=> have:=hsub id y h';rw [h] at this;simp at this;subst this;exact f3 id x h'
  refine fin u E' YQ w' k f6 f5 hv hkn ?_ (by rw [f1,hnx]) f2 (by omega) (fun id h=> .inl (hdn id h)) (fun id x h=>hall id x (hhp id x h)) ?_
  ·intro j oj hoj hj;rw [<- hst j oj hoj hj];constructor
   ·intro h;rcases h with rfl|h
    ·rw [hkd] at hj; simp at hj
    ·exact h
   ·exact .inr
  ·intro b x hb hu hx;by_cases hbi:b=i
   ·subst hbi;rw [p.nob b (by rw [hkd]; simp)] at hx;simp at hx
   ·exact hall _ x (hbl b x (hb.resolve_left hbi) hu hx)
def left (l:Nat->Bool):Nat->Nat
 |0=>0
 |n+1=>left l n+(if l n then 0 else 1)
theorem left_le {l l':Nat->Bool} (h: ∀j,l j=true->l' j=true): ∀n,left l' n<=left l n
 |0=>aHh _
 |n+1=>by
  have:=left_le h n;simp only [left]
  cases h1:l n with
  |true=>simp [h n h1]; exact this
  |false=>cases l' n<;>simp<;>omega
theorem aeB {l l':Nat->Bool} (h: ∀j,l j=true->l' j=true) {i:Nat} (h1:l i=false) (h2:l' i=true): ∀n,i<n->left l' n<left l n
 |0,hi=>by omega
 |n+1,hi=>by
  have hle:=left_le h n;simp only [left];by_cases hin:i=n
  ·subst hin;simp [h1,h2];omega
  ·have:=aeB h h1 h2 n (by omega)
   cases h3:l n with
   |true=>simp [h n h3]; exact this
   |false=>cases l' n<;>simp<;>omega
theorem Jd {l:Nat->Bool}: ∀n,left l n=0->∀i,i<n->l i=true
 |0,_,i,hi=>by omega
 |n+1,h,i,hi=>by
  simp only [left] at h;by_cases hin:i=n
  ·subst hin
   cases h3:l i with
   |true=>rfl
   |false=>rw [h3] at h; simp at h
  ·exact Jd n (by omega) i (by omega)
theorem Plan.ready_nil (q:Plan P ρ ops vX H0) {listed:Array Bool} (hsz:listed.size=ops.size) (h:Region.ready .any ops listed= []): ∀i,i<ops.size->listed[i]?=some true:=by
 intro i
 induction i using Nat.strongRecOn with
 |_ i ih=>
  intro hi
  cases hl:listed[i]? with
  |none=>rw [aJY] at hl; omega
  |some b=>
   cases b with
   |true=>rfl
   |false=>
    exfalso;have ho:ops[i]?=some ops[i]:=by simp [hi]
    have:i∈Region.ready .any ops listed:=by rw [mem_ready];refine⟨by simp [hl],ops[i],ho,fun e he hb=>?_⟩;have hlt:=q.back i _ ho e he hb;simp [ih e.on hlt (by omega)]
    rw [h] at this;simp at this
theorem Plan.any {E0:En} {a0:Act} {w0:World} (hd: ∀o∈ops.toList,∀d,o.dst=some d->d<a0.tmps.size) {Q:Exit->Act->World->Prop} (hq: ∀a w,p.Inv E0 a0 w0 (fun i=>i<ops.size) a w->Q .normal a w) :
 ∀(fuel:Nat) (listed:Array Bool) (a:Act) (w:World),listed.size=ops.size->left (fun i=>listed.getD i true) ops.size<=fuel->p.Inv E0 a0 w0 (fun i=>listed[i]?=some true) a w->wpAny P .any ops Q fuel listed a w:=by
 have hend: ∀(listed:Array Bool) (a:Act) (w:World),listed.size=ops.size->p.Inv E0 a0 w0 (fun i=>listed[i]?=some true) a w->Region.ready .any ops listed= []->Q .normal a w:=by
  intro listed a w hsz inv hnil;have hall:=p.ready_nil hsz hnil;refine hq a w ?_
  have:(fun i=>listed[i]?=some true)=(fun i=>i<ops.size):=by
   funext i;apply propext;constructor
   ·intro h;have:=(aHN.1 h).1;omega
   ·exact hall i
  rw [<- this];exact inv
 intro fuel
 induction fuel with
 |zero=>
  intro listed a w hsz hleft inv;have hall:=Jd (l:=fun i=>listed.getD i true) ops.size (by omega)
  have hnil:Region.ready .any ops listed= []:=by rw [aJk];intro i hi;rw [mem_ready] at hi;obtain⟨h1,o,h2,_⟩:=hi;have:=hall i (aHN.1 h2).1;rw [h1] at this;simp at this
  exact⟨hnil,hend listed a w hsz inv hnil⟩
 |succ fuel ih=>
  intro listed a w hsz hleft inv;refine⟨hend listed a w hsz inv,fun i hi=>?_⟩;rw [mem_ready] at hi;obtain⟨h1,o,h2,h3⟩:=hi;have hin:=(aHN.1 h2).1
  have hlf:listed[i]?=some false:=by
   have:listed[i]?=some (listed[i]'(by omega)):=by simp
   rw [this];simp only [aHZ,this,aHl] at h1;rw [h1]
  refine p.step hd inv h2 (by rw [hlf]; simp) (fun e he hb=>?_) fun a' w' aGi=>?_
  ·have:=h3 e he hb
   cases hc:listed[e.on]? with
   |none=>simp [hc] at this
   |some b=>simp [hc] at this; rw [this]
  ·refine ih _ a' w' (by simpa using hsz) ?_ ?_
   ·have:=aeB (l:=fun j=>listed.getD j true) (l':=fun j=>(listed.setIfInBounds i true).getD j true) (i:=i) (fun j hj=>?_) h1 ?_ ops.size hin
    ·omega
    ·by_cases hij:i=j
     ·subst hij;simp only [aHZ,aJl];split<;>rfl
     ·rw [getD_set_ne true hij]; exact hj
    ·simp only [aHZ,aJl];split<;>rfl
   ·have:(fun j=>(listed.setIfInBounds i true)[j]?=some true)=(fun j=>j=i\/listed[j]?=some true):=by
     funext j;apply propext;by_cases hij:i=j
     ·subst hij;simp [hsz,hin]
     ·rw [aIg hij];constructor
      ·exact .inr
      ·rintro (rfl|h)
       ·exact absurd rfl hij
       ·exact h
    rw [this];exact aGi
theorem Plan.start {E0:En} {s0:St} {a0:Act} {w0:World} (hs:s0.slots=vX) (hh:s0.h=H0) (hρ:E0.ρ=ρ) (fit:Fit E0 s0 a0 w0) (listed:Array Bool) (hl: ∀(i:Nat),listed[i]?≠some true):p.Inv E0 a0 w0 (fun i=>listed[i]?=some true) a0 w0:=by
 subst hs hh;obtain⟨h1,h2,h3⟩:=p.first;have rel:=fit.rel;have r1:bG E0 ⟨s0.h.m,(p.hp 0).next,none⟩ w0:=rel.part (fun id x h=>h) (by show s0.h.next<=(p.hp 0).next; omega) (by simp);refine⟨rfl,rfl,fun i j _ h=>absurd h (hl j),E0,⟨s0.h.m,(p.hp 0).next,none⟩,0,aIz _,fun j o _ _=> ⟨fun h=>absurd h (hl j),fun h=>by omega⟩,hρ,?_,r1,rfl,rfl,h2,fun id h=> .inl h,?_,fun id x h=>h3 id x h,fun b x h=>absurd h (hl b),?_,fun j oj t h=>absurd h (hl j)⟩
 ·have:=(Stp.refl E0 s0.h w0).weak;exact⟨this.ρ,this.dm,this.θ,this.κ,this.ro,this.JF,this.os,this.tape,this.output,this.size,this.keep,this.own⟩
 ·intro i o _ _ hdm;exact rel.fresh _ (by omega) hdm
 ·intro t x ht _;exact fit.sr t x ht
theorem Plan.finish {E0:En} {s0 s':St} {a0 a:Act} {w0 w:World} (hh:s0.h=H0) (inv:p.Inv E0 a0 w0 (fun i=>i<ops.size) a w) (hpc:bK ρ s'.pc)
 (aB7: ∀t x,s'.slots.get t=some x->(∃(j:Nat) (oj:Oper),ops[j]?=some oj/\oj.dst=some t/\p.val j=x)\/(vX.get t=some x/\∀(j:Nat) (oj:Oper),ops[j]?=some oj->oj.dst≠some t))
 (hheap: ∀id x,s'.h.get id=some x->(p.hp p.nE).get id=some x\/∃b,b<ops.size/\p.un p.nE b=true/\id=p.base+b/\p.blk b=some x)
 (hnext:(p.hp p.nE).next=s'.h.next) (hres:s'.h.res=none) (hall: ∀(m:Nat),m<p.nE->∃(j:Nat) (o:Oper),ops[j]?=some o/\p.kd j= .e/\p.st j=m):Then E0 s0 a0 w0 s' a w:=by
 subst hh;obtain⟨h1,h2,hcl,E,Hc,k,hkn,hst,hρ,YJ,rel,hnx,hrs,hroom,hdm,hun,hhp,hbl,hs0,hs1⟩:=inv
 have hk:k=p.nE:=by
  rcases aHw k p.nE with h|h
  ·obtain⟨j,o,g1,g2,g3⟩:=hall k h;have:=(hst j o g1 g2).1 (aHN.1 g1).1;omega
  ·omega
 subst hk
 have hsub: ∀id x,s'.h.get id=some x->Hc.get id=some x:=by
  intro id x h;rcases hheap id x h with h|⟨b,e1,e2,rfl,e4⟩
  ·exact hhp id x h
  ·exact hbl b x e1 e2 e4
 have hf:=p.first.1;refine⟨h1,h2,E,?_,rel.part hsub (by omega) (by rw [hres]; simp),?_,by rw [hρ]; exact hpc⟩
 ·refine Stw.strong ⟨YJ.ρ,YJ.dm,YJ.θ,YJ.κ,YJ.ro,YJ.JF,YJ.os,YJ.tape,YJ.output,YJ.size,YJ.keep,fun id o h=>YJ.own id o (hsub id o h)⟩ (by omega) hres fun id h=>?_;rcases hdm id h with g|g
  ·exact .inl g
  ·right;refine⟨g,?_⟩;rcases aHw id s'.h.next with g'|g'
   ·exact g'
   ·exact absurd h (rel.fresh id (by omega))
 ·intro t x ht;rcases aB7 t x ht with ⟨j,oj,g1,g2,rfl⟩|⟨g1,g2⟩
  ·exact hs1 j oj t (aHN.1 g1).1 g1 g2
  ·exact hs0 t x g1 fun j oj hj hjt _=>g2 j oj hj hjt
end
end
end Go.As
end
section
namespace Go.As
noncomputable section
mutual
def fK:AV->AV->Bool
 | .bool a,.bool b=>uO a b
 | .int k a,.int l b=>decide (k=l)&&iE a b
 | .str a,.str b=>decide (a=b)
 | .ptr i o,.ptr j p=>decide (i=j)&&decide (o=p)
 | .lH,.lH=>true
 | .rY a,.rY b=>kU a b
 | .slice i o l c,.slice j p m d=>decide (i=j)&&decide (o=p)&&decide (l=m)&&decide (c=d)
 | .aY,.aY=>true
 | .ro a n f,.ro b m g=>kU a b&&decide (n=m)&&decide (f=g)
 | .map i,.map j=>decide (i=j)
 | .rO,.rO=>true
 | .func f a b,.func g c d=>decide (f=g)&&kU a c&&kU b d
 | .Cb,.Cb=>true
 | .iface t v,.iface u x=>decide (t=u)&&fK v x
 | .E5,.E5=>true
 | .agg a,.agg b=>kU a b
 | .tuple a,.tuple b=>kU a b
 | .opq i,.opq j=>decide (i=j)
 | .inp i a,.inp j b=>decide (i=j)&&decide (a=b)
 | .emp,.emp=>true
 | .dat a t,.dat b u=>iE a b&&Nat.beq t u
 | .nC a,.nC b=>iE a b
 | .sN i n t,.sN j m u=>Nat.beq i j&&iE n m&&Nat.beq t u
 | .qV i a x o,.qV j b y p=>Nat.beq i j&&Nat.beq a b&&iE x y&&Nat.beq o p
 | .A8 i l n t,.A8 j k m u=>Nat.beq i j&&iE l k&&iE n m&&Nat.beq t u
 | .any,.any=>true
 | .FP a t,.FP b u=>iE a b&&Nat.beq t u
 |_,_=>false
def kU:List AV->List AV->Bool
 |[],[]=>true
 |x::xs,y::ys=>fK x y&&kU xs ys
 |_,_=>false
end
mutual
theorem oJ: ∀(x y:AV),fK x y=true->x=y
 | .bool a,y,h=>by cases y<;>simp [fK] at h<;>rw [yK _ _ h]
 | .int k a,y,h=>by cases y<;>simp [fK] at h<;>rw [h.1,dD _ _ h.2]
 | .str a,y,h=>by cases y<;>simp [fK] at h<;>simp [h]
 | .ptr i o,y,h=>by cases y<;>simp [fK] at h<;>simp [h]
 | .lH,y,h=>by cases y<;>simp [fK] at h<;>rfl
 | .rY a,y,h=>by cases y<;>simp [fK] at h; rw [iM _ _ h]
 | .slice i o l c,y,h=>by cases y<;>simp [fK] at h<;>simp [h]
 | .aY,y,h=>by cases y<;>simp [fK] at h<;>rfl
 | .ro a n f,y,h=>by cases y<;>simp [fK] at h; rw [iM _ _ h.1.1,h.1.2,h.2]
 | .map i,y,h=>by cases y<;>simp [fK] at h<;>simp [h]
 | .rO,y,h=>by cases y<;>simp [fK] at h<;>rfl
 | .func f a b,y,h=>by cases y<;>simp [fK] at h; rw [h.1.1,iM _ _ h.1.2,iM _ _ h.2]
 | .Cb,y,h=>by cases y<;>simp [fK] at h<;>rfl
 | .iface t v,y,h=>by cases y<;>simp [fK] at h; rw [h.1,oJ _ _ h.2]
 | .E5,y,h=>by cases y<;>simp [fK] at h<;>rfl
 | .agg a,y,h=>by cases y<;>simp [fK] at h; rw [iM _ _ h]
 | .tuple a,y,h=>by cases y<;>simp [fK] at h; rw [iM _ _ h]
 | .opq i,y,h=>by cases y<;>simp [fK] at h<;>simp [h]
 | .inp i a,y,h=>by cases y<;>simp [fK] at h<;>simp [h]
 | .emp,y,h=>by cases y<;>simp [fK] at h<;>rfl
 | .dat a t,y,h=>by cases y<;>simp [fK] at h<;>rw [h.2,dD _ _ h.1]
 | .nC a,y,h=>by cases y<;>simp [fK] at h<;>rw [dD _ _ h]
 | .sN i n t,y,h=>by cases y<;>simp [fK] at h<;>rw [h.1.1,dD _ _ h.1.2,h.2]
 | .qV i a x o,y,h=>by cases y<;>simp [fK] at h<;>rw [h.1.1.1,h.1.1.2,dD _ _ h.1.2,h.2]
 | .A8 i l n t,y,h=>by cases y<;>simp [fK] at h<;>rw [h.1.1.1,dD _ _ h.1.1.2,dD _ _ h.1.2,h.2]
 | .any,y,h=>by cases y<;>simp [fK] at h<;>rfl
 | .FP a t,y,h=>by cases y<;>simp [fK] at h<;>rw [h.2,dD _ _ h.1]
theorem iM: ∀(xs ys:List AV),kU xs ys=true->xs=ys
 |[],ys,h=>by cases ys<;>simp [kU] at h; rfl
 |x::xs,ys,h=>by
  cases ys with
  |nil=>simp [kU] at h
  |cons y ys=>simp [kU] at h; rw [oJ _ _ h.1,iM _ _ h.2]
end
def Nz (o:Op):List Nat:=o.operands.toList.filterMap fun
 | .tmp t=>some t
 |_=>none
def reads (all:List Oper) (o:Oper):List Nat:=match o.guard with
 |none=>Nz o.op
 |some (j,_)=>match iH all j with
  |some oj=>match oj.dst with
   |some d=>d::Nz o.op
   |none=>Nz o.op
  |none=>Nz o.op
def kindOf (tt:TT):Op->Kind
 | .load _ _=> .r
 | .lookup _ _ _ _=> .r
 | .call c=>match c.callee with
   | .builtin b=>match b with
     | .len=> .r
     | .min=> .pa
     | .max=> .pa
     |_=> .e
   |_=> .e
 | .store _ _ _=> .e
 | .insert _ _ _ _=> .e
 | .mapUpdate _ _ _ _=> .e
 | .next _ _=> .e
 | .range _ _=> .e
 | .convert t u _=>match tt t with
   |some i=>match i.kind with
    | .slice _=>match tt u with
      |some j=>match j.kind with
       | .string=> .r
       |_=> .e
      |none=> .e
    |_=> .pa
   |none=> .e
 | .panic _=> .e
 |_=> .pa
def uI (ms:List Nat):List Edge->Nat
 |[]=>0
 |e::es=>if Region.binds .any e then ((1 <<<e.on)|||ms.getD e.on 0)|||uI ms es else uI ms es
def xE:List Oper->List Nat->List Nat
 |[],ms=>ms
 |o::os,ms=>xE os (ms++ [uI ms o.after.toList])
structure Item where
 i:Nat
 o:Oper
 m:Nat
 k:Kind
 st:Nat
 rd:List Nat
def items (tt:TT) (all:List Oper) (ms:List Nat):List Oper->Nat->Nat->List Item
 |[],_,_=>[]
 |o::os,i,n=> ⟨i,o,ms.getD i 0,kindOf tt o.op,n,reads all o⟩ ::items tt all ms os (i+1) (match kindOf tt o.op with | .e=>n+1|_=>n)
def Kind.isE:Kind->Bool
 | .e=>true
 |_=>false
def Kind.isR:Kind->Bool
 | .r=>true
 |_=>false
def EY (ms:List Nat) (is:List Item) (x:Item):Bool:=
 x.o.after.toList.all (fun e=>!Region.binds .any e||decide (e.on<x.i))&&
 decide (x.m=uI ms x.o.after.toList)&&
 x.rd.all (fun t=>is.all fun y=>decide (y.o.dst≠some t)||x.m.testBit y.i||(!x.k.isR&&y.m.testBit x.i))&&
 is.all (fun y=>decide (y.i=x.i)||(match y.o.dst with |some d=>decide (x.o.dst≠some d)|none=>true))&&
 (!x.k.isE||is.all fun y=>!y.k.isE||!decide (y.i<x.i)||x.m.testBit y.i)
def stages (is:List Item) (n:Nat) (x:Item):List Nat:=
 (List.range (n+1)).filter fun k=>is.all fun y=>!y.k.isE||((!x.m.testBit y.i||decide (y.st<k))&&(!y.m.testBit x.i||decide (k<=y.st)))
structure Stat where
 is:List Item
 nE:Nat
 rs:List (Item×List Nat)
def nD:List Item->Nat
 |[]=>0
 |x::xs=>match x.k with | .e=>nD xs+1|_=>nD xs
def stat (tt:TT) (all:List Oper):Option Stat:=
 let ms:=xE all [];let is:=items tt all ms all 0 0
 if is.all (EY ms is) then
  some ⟨is,nD is,(is.filter (·.k.isR)).map fun x=>(x,stages is (nD is) x)⟩
 else none
def only (slots:Tr AV):List Nat->Tr AV
 |[]=> .nil
 |t::ts=>match slots.get t with
  |some v=>(only slots ts).put t (some v)
  |none=>only slots ts
structure DSt where
 slots:Tr AV
 qK:List (Hp×Nat)
 blks:List (Nat×eP)
 obs:List (Option eP)
 vs:List AV
def iG (base bm mm:Nat):List (Nat×eP)->Hp->Hp
 |[],h=>h
 |(a,x)::r,h=>if bm.testBit a&&!mm.testBit a then (iG base bm mm r h).put (base+a) x else iG base bm mm r h
def ev1 (tt:TT) (call:eF) (all:List Oper) (o:Oper) (s:St):T (AV×St):=
 DN all s o fun s b=>if b then Vm tt call s o.op else .ret (AV.undef,s)
def BI (slots:Tr AV) (d:Option Nat) (v:AV):Tr AV:=match d with
 |some t=>slots.put t (some v)
 |none=>slots
def arY (tt:TT) (call:eF) (all:List Oper) (base N:Nat) (pc:List (SB×Bool)) (x:Item) (d:DSt):T DSt:=
 match d.qK with
 |[]=> .fail
 |(h,mm)::rest=>
  match x.k with
  | .pa=>(ev1 tt call all x.o ⟨only d.slots x.rd,⟨.nil,N,some (base+x.i)⟩,pc⟩).bind fun (v,s')=>
    if s'.h.next=N then
     .ret ⟨BI d.slots x.o.dst v,d.qK,match s'.h.get (base+x.i) with |some b=>(x.i,b)::d.blks|none=>d.blks,s'.h.get (base+x.i)::d.obs,v::d.vs⟩
    else .fail
  | .e=>(ev1 tt call all x.o ⟨only d.slots x.rd,iG base x.m mm d.blks h,pc⟩).bind fun (v,s')=>
    if s'.h.next<=N/\s'.h.res=none then
     .ret ⟨BI d.slots x.o.dst v,(s'.h,mm|||x.m)::(h,mm)::rest,d.blks,none::d.obs,v::d.vs⟩
    else .fail
  | .r=>(ev1 tt call all x.o ⟨only d.slots x.rd,iG base x.m mm d.blks h,pc⟩).bind fun (v,_)=>
    .ret ⟨BI d.slots x.o.dst v,d.qK,d.blks,none::d.obs,v::d.vs⟩
def T.Ib {α β:Type} (pc:List (SB×Bool)) (f:List (SB×Bool)->α->T β):T α->T β
 | .fail=> .fail
 | .ret a=>f pc a
 | .split c x y=>match nI pc c with
   |some true=>T.Ib pc f x
   |some false=>T.Ib pc f y
   |none=> .split c (T.Ib ((c,true)::pc) f x) (T.Ib ((c,false)::pc) f y)
def aiH (tt:TT) (call:eF) (all:List Oper) (base N:Nat):List Item->List (SB×Bool)->DSt->T (List (SB×Bool)×DSt)
 |[],pc,d=> .ret (pc,d)
 |x::xs,pc,d=>(arY tt call all base N pc x d).Ib pc (aiH tt call all base N xs)
def KX (tt:TT) (call:eF) (all:List Oper) (base:Nat) (pc:List (SB×Bool)) (x:Item) (v:AV) (S:Tr AV) (blks:List (Nat×eP)) (qK:List (Hp×Nat)):List Nat->T Unit
 |[]=> .ret ()
 |k::ks=>match iH qK k with
  |some (h,mm)=>(ev1 tt call all x.o ⟨S,iG base x.m mm blks h,pc⟩).bind fun (u,_)=>
   if fK u v then KX tt call all base pc x v S blks qK ks else .fail
  |none=> .fail
def UA (tt:TT) (call:eF) (all:List Oper) (base:Nat) (d:DSt) (qK:List (Hp×Nat)) (vs:List AV):List (Item×List Nat)->List (SB×Bool)->T (List (SB×Bool))
 |[],pc=> .ret pc
 |(x,ks)::r,pc=>match iH vs x.i with
  |some v=>(KX tt call all base pc x v (only d.slots x.rd) d.blks qK ks).Ib pc fun pc _=>UA tt call all base d qK vs r pc
  |none=> .fail
def Ub (base:Nat) (blks:List (Nat×eP)) (qK:List (Hp×Nat)):Bool:=
 blks.all fun (a,_)=>qK.all fun (h,mm)=>mm.testBit a||(h.get (base+a)).isNone
def OW (tt:TT) (call:eF) (all:List Oper) (q:Stat) (s:St):T St:=
 match s.h.res with
 |some _=> .fail
 |none=>
 let base:=s.h.next;let n:=all.length;let N:=base+n+1099511627776
 (aiH tt call all base N q.is s.pc ⟨s.slots,[(⟨s.h.m,base+n,none⟩,0)],[],[],[]⟩).bind fun (pc,d)=>
  match d.qK with
  |[]=> .fail
  |(h,mm)::_=>
   (UA tt call all base d d.qK.reverse d.vs.reverse q.rs pc).bind fun pc=>
    if Ub base d.blks d.qK then .ret ⟨d.slots,iG base ((1 <<<n)-1) mm d.blks h,pc⟩ else .fail
def draw (tt:TT) (call:eF) (all:List Oper) (s:St):T St:=
 match stat tt all with
 |none=> .fail
 |some q=>OW tt call all q s
end
end Go.As
end
section
namespace Go.As
section
variable {P:Program}
theorem VE [Glob] {tt:TT} (htt:fE P tt) {call:eF} (hc:kP P call) {ops:Array Oper} {o:Oper} {s s':St} {v:AV} {ρ:Nat->Int} (hp:bK ρ s.pc) (h:(ev1 tt call ops.toList o s).leaf ρ=some (v,s')) :
 PU P ρ ops o s.slots s.h v s'.h:=by
 intro E a w hρ r sr;subst hρ;unfold ev1 at h;obtain⟨pc',hp',h1⟩:=NC ⟨r,sr,hp⟩ h;cases hw:Region.wanted o (yielded ops a.tmps)<;>rw [hw] at h1
 ·simp only [aHv,if_false] at h1;have:=aF h1;simp only [aHf] at this;obtain⟨rfl,rfl⟩:=this;exact .inl ⟨rfl,rfl,rfl⟩
 ·simp only [if_true] at h1;obtain⟨_,_,q3⟩:=afF htt hc (s:={ s with pc:=pc' }) (o:=o) r sr hp' h1;exact .inr ⟨rfl,q3⟩
theorem mQ {α:Type} {ρ:Nat->Int} {s:St} {c:SB} {f:St->Bool->T α} {r:α} (h:(pV s c f).leaf ρ=some r): ∃pc' b,(f { s with pc:=pc' } b).leaf ρ=some r:=by
 unfold pV at h;split at h
 ·rename_i b _; exact⟨s.pc,b,h⟩
 ·split at h<;>simp only [T.leaf] at h<;>split at h<;>exact⟨_,_,h⟩
theorem UG {α:Type} {ρ:Nat->Int} {s:St} {all:List Oper} {o:Oper} {f:St->Bool->T α} {r:α} (h:(DN all s o f).leaf ρ=some r): ∃pc' b,(f { s with pc:=pc' } b).leaf ρ=some r:=by
 unfold DN at h;split at h
 ·exact⟨s.pc,true,h⟩
 ·split at h
  ·split at h
   ·split at h
    ·obtain⟨pc',b,h1⟩:=mQ h; exact⟨pc',_,h1⟩
    ·exact⟨s.pc,_,h⟩
    ·simp [T.leaf] at h
   ·simp [T.leaf] at h
  ·simp [T.leaf] at h
theorem ND {ρ:Nat->Int} {s:St} {x:Operand} {f:AV->T (AV×St)} {r:AV×St} (h:(Ii s x f).leaf ρ=some r): ∃v,(f v).leaf ρ=some r:=by
 unfold Ii at h;split at h
 ·exact⟨_,h⟩
 ·simp [T.leaf] at h
theorem DJ {ρ:Nat->Int} {s s':St} {x:Option AV} {v:AV} (h:(yO s x).leaf ρ=some (v,s')):s'=s:=by
 unfold yO at h;split at h
 ·have:=aF h;simp only [aHf] at this;exact this.2.symm
 ·simp [T.leaf] at h
theorem aBT {tt:TT} {op:Op} (h:kindOf tt op= .r):(∃t x,op= .load t x)\/(∃t x i ok,op= .lookup t x i ok)\/(∃c:Call,op= .call c/\c.callee= .builtin .len)\/∃t u x i j e,op= .convert t u x/\tt t=some i/\i.kind= .slice e/\tt u=some j/\j.kind= .string:=by
 unfold kindOf at h;split at h<;>try (simp at h; done)
 ·exact .inl ⟨_,_,rfl⟩
 ·exact .inr (.inl ⟨_,_,_,_,rfl⟩)
 ·rename_i c;split at h
  ·rename_i b hb;split at h<;>simp at h;exact .inr (.inr (.inl ⟨c,rfl,hb⟩))
  ·simp at h
 ·split at h
  ·rename_i i hi;split at h
   ·rename_i e he;split at h
    ·rename_i j hj;split at h
     ·rename_i hs;exact .inr (.inr (.inr ⟨_,_,_,i,j,e,rfl,hi,he,hj,hs⟩))
     ·simp at h
    ·simp at h
   ·simp at h
  ·simp at h
theorem RU {α:Type} {ρ:Nat->Int} {s:St} {i n:SE} {f:St->T α} {r:α} (h:(Gj s i n f).leaf ρ=some r): ∃pc',(f { s with pc:=pc' }).leaf ρ=some r:=by
 unfold Gj at h;obtain⟨pc1,b1,h1⟩:=mQ h;split at h1
 ·simp [T.leaf] at h1
 ·obtain⟨pc2,b2,h2⟩:=mQ h1;split at h2
  ·exact⟨pc2,h2⟩
  ·simp [T.leaf] at h2
theorem AA {α:Type} {ρ:Nat->Int} {kk:TK} {k:AV} {r:α} {f:St->T α}: ∀{es:List (AV×AV×Nat)} {s:St},(AB kk k es s f).leaf ρ=some r->∃pc',(f { s with pc:=pc' }).leaf ρ=some r
 |[],s,h=> ⟨s.pc,h⟩
 |(k',v,b)::es,s,h=>by
  simp only [AB] at h;split at h
  ·split at h
   ·exact⟨s.pc,h⟩
   ·exact AA h
  ·split at h
   ·obtain⟨pc1,b1,h1⟩:=mQ h;split at h1
    ·exact⟨pc1,h1⟩
    ·obtain⟨pc2,h2⟩:=AA h1;exact⟨pc2,h2⟩
   ·exact⟨s.pc,h⟩
theorem PV {α:Type} {ρ:Nat->Int} {tt:TT} {t:Nat} {m k:AV} {r:α} {f:St->T α} {s:St} (h:(tC tt t m k s f).leaf ρ=some r): ∃pc',(f { s with pc:=pc' }).leaf ρ=some r:=by
 unfold tC at h;split at h
 ·split at h
  ·split at h
   ·split at h
    ·exact AA h
    ·exact⟨s.pc,h⟩
   ·exact⟨s.pc,h⟩
  ·exact⟨s.pc,h⟩
 ·exact⟨s.pc,h⟩
theorem awX {s s':St} {cs:List AV} {e:SE} {v:AV} {ρ:Nat->Int} (h:(Td s cs e).leaf ρ=some (v,s')):s'.h=s.h:=by
 unfold Td at h;split at h
 ·simp [T.leaf] at h
 ·split at h
  ·simp [T.leaf] at h
  ·obtain⟨pc',h1⟩:=RU h;have:=aF h1;simp only [aHf] at this;rw [<- this.2]
theorem aiC {tt:TT} {s s':St} {ty t:Nat} {k:AV} {ok:Bool} {e:SE} {v:AV} {ρ:Nat->Int} (h:(G5 tt ty k ok e t s).leaf ρ=some (v,s')):s'.h=s.h:=by
 unfold G5 at h;split at h
 ·simp [T.leaf] at h
 ·split at h
  ·simp [T.leaf] at h
  ·obtain⟨pc',b,h1⟩:=mQ h
   split at h1<;>
   ·have:=aF h1;simp only [aHf] at this;rw [<- this.2]
theorem Jz {α:Type} {ρ:Nat->Int} {i:SE} {r:α}: ∀{ov:List (SE×List AV)} {s:St} {k:St->T α},(Bz i ov s k).leaf ρ=some r->∃pc',(k { s with pc:=pc' }).leaf ρ=some r
 |[],s,k,h=> ⟨s.pc,h⟩
 |(j,c)::l,s,k,h=>by
  simp only [Bz] at h;split at h
  ·exact⟨s.pc,h⟩
  ·obtain⟨pc1,b1,h1⟩:=mQ h;split at h1
   ·exact⟨pc1,h1⟩
   ·obtain⟨pc2,h2⟩:=Jz h1;exact⟨pc2,h2⟩
theorem aiD {tt:TT} {s s':St} {ty id es off:Nat} {i:SE} {v:AV} {ρ:Nat->Int} (h:(G6 tt s ty id es i off).leaf ρ=some (v,s')):s'.h=s.h:=by
 unfold G6 at h;split at h
 ·split at h
  ·split at h
   ·split at h
    ·simp [T.leaf] at h
    ·exact awX h
   ·simp [T.leaf] at h
  ·split at h
   ·split at h
    ·obtain⟨pc',h1⟩:=RU h;obtain⟨pc2,h1⟩:=Jz h1;split at h1
     ·split at h1
      ·rw [DJ h1]
      ·simp [T.leaf] at h1
     ·simp [T.leaf] at h1
    ·simp [T.leaf] at h
   ·simp [T.leaf] at h
  ·simp [T.leaf] at h
 ·simp [T.leaf] at h
theorem aC3 {tt:TT} {call:eF} {op:Op} {s s':St} {v:AV} {ρ:Nat->Int} (hk:kindOf tt op= .r) (h:(Vm tt call s op).leaf ρ=some (v,s')):s'.h=s.h:=by
 rcases aBT hk with ⟨t,x,rfl⟩|⟨t,x,i,ok,rfl⟩|⟨c,rfl,hc⟩|⟨t,u,x,i,j,e,rfl,hi,he,hj,hs⟩
 ·simp only [Vm] at h;obtain⟨p,h1⟩:=ND h;split at h1
  ·exact aiD h1
  ·rw [DJ h1]
 ·simp only [Vm] at h;obtain⟨p,h1⟩:=ND h;split at h1
  ·split at h1
   ·exact aiC h1
   obtain⟨pc',h1⟩:=PV h1;rw [DJ h1]
  ·simp [T.leaf] at h1
 ·simp only [Vm,Vx] at h;split at h
  ·simp [T.leaf] at h
  ·rw [hc] at h;simp only [D7] at h;split at h
   all_goals first
    |(rw [DJ h]; done)
    |(simp [T.leaf] at h; done)
    |(rename_i e _ _; simp at e; done)
    |skip
   all_goals simp_all
 ·simp only [Vm] at h;obtain⟨p,h1⟩:=ND h;split at h1
  ·unfold LD at h1;rw [hi] at h1;simp only [he] at h1;simp [T.leaf] at h1
  obtain⟨H,e1,rfl⟩:=vZ h1;unfold vN at e1;rw [hi,hj] at e1;simp only [hs,he] at e1;split at e1
  ·simp at e1
  ·split at e1
   ·split at e1
    ·simp only [aHe,aHf] at e1;exact e1.2.symm
    ·split at e1
     ·rw [aHy] at e1;obtain⟨l,_,e2⟩:=e1;simp only [aHf] at e2;exact e2.2.symm
     ·simp at e1
    ·simp at e1
   ·simp at e1
theorem aFt {tt:TT} {call:eF} {all:List Oper} {o:Oper} {s s':St} {v:AV} {ρ:Nat->Int} (hk:kindOf tt o.op= .r) (h:(ev1 tt call all o s).leaf ρ=some (v,s')):s'.h=s.h:=by
 unfold ev1 at h;obtain⟨pc',b,h1⟩:=UG h;cases b
 ·simp only [aHv,if_false] at h1;have:=aF h1;simp only [aHf] at this;rw [<- this.2]
 ·simp only [if_true] at h1;exact aC3 (s:={ s with pc:=pc' }) hk h1
theorem uM {base bm mm:Nat}: ∀{l:List (Nat×eP)} {h:Hp} {id:Nat} {x:eP},(iG base bm mm l h).get id=some x->h.get id=some x\/∃a,(a,x)∈l/\bm.testBit a=true/\mm.testBit a=false/\id=base+a
 |[],h,id,x,hh=> .inl hh
 |(a,y)::r,h,id,x,hh=>by
  simp only [iG] at hh;split at hh
  ·rename_i hb;rw [Hp.get_put] at hh;split at hh
   ·rename_i e;simp at hh;subst hh;simp at hb;exact .inr ⟨a,by simp,hb.1,hb.2,e⟩
   ·rcases uM hh with h1|⟨b,h1,h2⟩
    ·exact .inl h1
    ·exact .inr ⟨b,by simp [h1],h2⟩
  ·rcases uM hh with h1|⟨b,h1,h2⟩
   ·exact .inl h1
   ·exact .inr ⟨b,by simp [h1],h2⟩
theorem mP {base bm mm:Nat}: ∀(l:List (Nat×eP)) (h:Hp),(iG base bm mm l h).next=h.next/\(iG base bm mm l h).res=h.res
 |[],h=> ⟨rfl,rfl⟩
 |(a,y)::r,h=>by
  have:=mP (base:=base) (bm:=bm) (mm:=mm) r h;simp only [iG];split
  ·exact this
  ·exact this
theorem Gi {slots:Tr AV}: ∀{ts:List Nat} {t:Nat} {x:AV},(only slots ts).get t=some x->t∈ts/\slots.get t=some x
 |[],t,x,h=>by simp [only,Tr.get] at h
 |u::us,t,x,h=>by
  simp only [only] at h;split at h
  ·rename_i v hv;rw [Tr.get_put] at h;split at h
   ·rename_i e;subst e;exact⟨by simp,by rw [hv]; exact h⟩
   ·have:=Gi h;exact⟨by simp [this.1],this.2⟩
  ·have:=Gi h;exact⟨by simp [this.1],this.2⟩
theorem Dz {slots:Tr AV} {d:Option Nat} {v:AV} {t:Nat}:(BI slots d v).get t=if d=some t then some v else slots.get t:=by
 cases d with
 |none=>simp [BI]
 |some u=>
  simp only [BI,Tr.get_put,aHe];by_cases h:t=u
  ·subst h; simp
  ·rw [aHc h,aHc (fun e=>h e.symm)]
theorem vC {ms:List Nat} {i:Nat}: ∀{es:List Edge},(uI ms es).testBit i=true->∃e∈es,Region.binds .any e=true/\(e.on=i\/(ms.getD e.on 0).testBit i=true)
 |[],h=>by simp [uI] at h
 |e::es,h=>by
  simp only [uI] at h;split at h
  ·rename_i hb;simp only [Nat.testBit_or,aIh] at h;rcases h with (h|h)|h
   ·rw [Nat.shiftLeft_eq,aIE,Nat.testBit_two_pow] at h;exact⟨e,by simp,hb,.inl (by simpa using h)⟩
   ·exact⟨e,by simp,hb,.inr h⟩
   ·obtain⟨e',h1,h2⟩:=vC h;exact⟨e',by simp [h1],h2⟩
  ·obtain⟨e',h1,h2⟩:=vC h;exact⟨e',by simp [h1],h2⟩
def mO (tt:TT):List Oper->Nat
 |[]=>0
 |o::os=>(match kindOf tt o.op with | .e=>1|_=>0)+mO tt os
theorem mY {tt:TT} {all:List Oper} {ms:List Nat}: ∀(os:List Oper) (i n j:Nat),(items tt all ms os i n)[j]?=(os[j]?).map fun o=> ⟨i+j,o,ms.getD (i+j) 0,kindOf tt o.op,n+mO tt (os.take j),reads all o⟩
 |[],i,n,j=>by simp [items]
 |o::os,i,n,j=>by
  simp only [items]
  cases j with
  |zero=>simp [mO]
  |succ j=>
   rw [aHp,mY os];simp only [aHp,aIc,mO];congr 1;funext o';have:i+1+j=i+(j+1):=by omega
   rw [this];congr 1;cases kindOf tt o.op<;>simp<;>omega
theorem zZ {tt:TT} {all:List Oper} {ms:List Nat}: ∀(os:List Oper) (i n:Nat),(items tt all ms os i n).length=os.length
 |[],i,n=>rfl
 |o::os,i,n=>by simp [items,zZ os]
theorem rG {tt:TT} {all:List Oper} {ms:List Nat}: ∀(os:List Oper) (i n:Nat),nD (items tt all ms os i n)=mO tt os
 |[],i,n=>rfl
 |o::os,i,n=>by simp only [items,nD,mO,rG os];cases kindOf tt o.op<;>simp<;>omega
end
section
variable {P:Program}
def PK [Glob] (P:Program) (ρ:Nat->Int) (ops:Array Oper) (base N:Nat) (x:Item) (d:DSt) (v:AV) (ob:Option eP) (d1:DSt):Prop:=
 ∃h mm rest,d.qK=(h,mm)::rest/\match x.k with
  | .pa=>d1.qK=d.qK/\∃HA,PU P ρ ops x.o (only d.slots x.rd) ⟨.nil,N,some (base+x.i)⟩ v HA/\HA.next=N/\ob=HA.get (base+x.i)
  | .e=>ob=none/\∃hn,d1.qK=(hn,mm|||x.m)::d.qK/\hn.next<=N/\hn.res=none/\PU P ρ ops x.o (only d.slots x.rd) (iG base x.m mm d.blks h) v hn
  | .r=>ob=none/\d1.qK=d.qK
theorem arX [Glob] {tt:TT} (htt:fE P tt) {call:eF} (hc:kP P call) {ops:Array Oper} {base N:Nat} {pc:List (SB×Bool)} {ρ:Nat->Int} (hp:bK ρ pc) {x:Item} {d d1:DSt} (h:(arY tt call ops.toList base N pc x d).leaf ρ=some d1) :
 ∃v ob,d1.slots=BI d.slots x.o.dst v/\d1.vs=v::d.vs/\d1.obs=ob::d.obs/\d1.blks=(match ob with |some b=>(x.i,b)::d.blks|none=>d.blks)/\PK P ρ ops base N x d v ob d1:=by
 unfold arY at h;split at h
 ·simp [T.leaf] at h
 ·rename_i h0 mm rest hs;split at h
  ·rename_i hk;obtain⟨⟨v,s'⟩,h1,h2⟩:=T.gZ h;have ha:=VE htt hc (s:=⟨only d.slots x.rd,⟨.nil,N,some (base+x.i)⟩,pc⟩) hp h1;simp only at h2;split at h2
   ·rename_i hn;have:=aF h2;subst this;refine⟨v,s'.h.get (base+x.i),rfl,rfl,rfl,?_,h0,mm,rest,hs,?_⟩
    ·cases s'.h.get (base+x.i)<;>rfl
    ·rw [hk];exact⟨rfl,s'.h,ha,hn,rfl⟩
   ·simp [T.leaf] at h2
  ·rename_i hk;obtain⟨⟨v,s'⟩,h1,h2⟩:=T.gZ h;have ha:=VE htt hc (s:=⟨only d.slots x.rd,iG base x.m mm d.blks h0,pc⟩) hp h1;simp only at h2;split at h2
   ·rename_i hn;have:=aF h2;subst this;refine⟨v,none,rfl,rfl,rfl,rfl,h0,mm,rest,hs,?_⟩;rw [hk];exact⟨rfl,s'.h,by rw [hs],hn.1,hn.2,ha⟩
   ·simp [T.leaf] at h2
  ·rename_i hk;obtain⟨⟨v,s'⟩,h1,h2⟩:=T.gZ h;have:=aF h2;subst this;refine⟨v,none,rfl,rfl,rfl,rfl,h0,mm,rest,hs,?_⟩;rw [hk];exact⟨rfl,rfl⟩
theorem PK.qK [Glob] {ρ:Nat->Int} {ops:Array Oper} {base N:Nat} {x:Item} {d d1:DSt} {v:AV} {ob:Option eP} (h:PK P ρ ops base N x d v ob d1): ∃pre,d1.qK=pre++d.qK/\pre.length=nD [x]:=by
 obtain⟨h0,mm,rest,hs,h1⟩:=h;cases hk:x.k<;>rw [hk] at h1
 ·exact⟨[],by rw [h1.1]; rfl,by simp [nD,hk]⟩
 ·obtain⟨_,hn,h2,_⟩:=h1;exact⟨[(hn,mm|||x.m)],by rw [h2]; rfl,by simp [nD,hk]⟩
 ·exact⟨[],by rw [h1.2]; rfl,by simp [nD,hk]⟩
theorem PK.nxt [Glob] {ρ:Nat->Int} {ops:Array Oper} {base N:Nat} {x:Item} {d d1:DSt} {v:AV} {ob:Option eP} (h:PK P ρ ops base N x d v ob d1) (hh: ∀q∈d.qK,q.1.next<=N/\q.1.res=none): ∀q∈d1.qK,q.1.next<=N/\q.1.res=none:=by
 obtain⟨h0,mm,rest,hs,h1⟩:=h;cases hk:x.k<;>rw [hk] at h1
 ·rw [h1.1]; exact hh
 ·obtain⟨_,hn,h2,h3,h4,_⟩:=h1;rw [h2];intro q hq;rcases aHm.1 hq with rfl|hq
  ·exact⟨h3,h4⟩
  ·exact hh q hq
 ·rw [h1.2]; exact hh
structure aFO [Glob] (P:Program) (ρ:Nat->Int) (ops:Array Oper) (base N:Nat) (xs:List Item) (d d':DSt):Prop where
 vs: ∃pre,d'.vs=pre++d.vs/\pre.length=xs.length
 obs: ∃pre,d'.obs=pre++d.obs/\pre.length=xs.length
 qK: ∃pre,d'.qK=pre++d.qK/\pre.length=nD xs
 blk: ∀a b,(a,b)∈d'.blks->(a,b)∈d.blks\/∃p x,xs[p]?=some x/\x.i=a/\d'.obs.reverse[d.obs.length+p]?=some (some b)
 aGP: ∀p x b,xs[p]?=some x->d'.obs.reverse[d.obs.length+p]?=some (some b)->(x.i,b)∈d'.blks
 aHa: ∀q,q∈d.blks->q∈d'.blks
 slot: ∀t x,d'.slots.get t=some x->(∃p y,xs[p]?=some y/\y.o.dst=some t/\d'.vs.reverse[d.vs.length+p]?=some x)\/(d.slots.get t=some x/\∀y∈xs,y.o.dst≠some t)
 same: ∀t,(∀y∈xs,y.o.dst≠some t)->d'.slots.get t=d.slots.get t
 nxt:(∀q∈d.qK,q.1.next<=N/\q.1.res=none)->∀q∈d'.qK,q.1.next<=N/\q.1.res=none
 at_: ∀p x,xs[p]?=some x->∃dp dp1 v ob pre,PK P ρ ops base N x dp v ob dp1/\d'.vs.reverse[d.vs.length+p]?=some v/\d'.obs.reverse[d.obs.length+p]?=some ob/\d'.qK=pre++dp1.qK/\dp.qK.length=d.qK.length+nD (xs.take p)/\
  (∀q,q∈dp.blks->q∈d'.blks)/\(∀t,(∀y∈xs.drop p,y.o.dst≠some t)->d'.slots.get t=dp.slots.get t)/\
  (∀t z,dp.slots.get t=some z->(∃p' y,p'<p/\xs[p']?=some y/\y.o.dst=some t/\d'.vs.reverse[d.vs.length+p']?=some z)\/(d.slots.get t=some z/\∀y∈xs.take p,y.o.dst≠some t))
theorem rev_at {α:Type} {l pre l0:List α} {v:α} (h:l=pre++v::l0):l.reverse[l0.length]?=some v:=by subst h;simp
theorem J6 (x:Item) (xs:List Item):nD (x::xs)=nD [x]+nD xs:=by simp only [nD];cases x.k<;>simp<;>omega
theorem T.qG {α β:Type} {ρ:Nat->Int} {f:List (SB×Bool)->α->T β} {r:β}: ∀{x:T α} {pc:List (SB×Bool)},bK ρ pc->(x.Ib pc f).leaf ρ=some r->∃a pc',x.leaf ρ=some a/\bK ρ pc'/\(f pc' a).leaf ρ=some r
 | .fail,pc,_,h=>by simp [T.Ib,T.leaf] at h
 | .ret a,pc,hp,h=> ⟨a,pc,rfl,hp,h⟩
 | .split c x y,pc,hp,h=>by
   simp only [T.Ib] at h
   cases hd:nI pc c with
   |some b=>
    rw [hd] at h;have hb:=jL hp hd;simp only [T.leaf,hb]
    cases b with
    |true=>exact T.qG hp h
    |false=>exact T.qG hp h
   |none=>
    rw [hd] at h;simp only [T.leaf] at h ⊢
    cases hb:c.den ρ with
    |true=>
     rw [hb] at h
     exact T.qG (x:=x) (pc:=(c,true)::pc) (fun c' b' hm=>by
      rcases aHm.1 hm with he|hm
      ·simp only [aHf] at he; rw [he.1,he.2]; exact hb
      ·exact hp c' b' hm) h
    |false=>
     rw [hb] at h
     exact T.qG (x:=y) (pc:=(c,false)::pc) (fun c' b' hm=>by
      rcases aHm.1 hm with he|hm
      ·simp only [aHf] at he; rw [he.1,he.2]; exact hb
      ·exact hp c' b' hm) h
theorem afQ {tt:TT} {call:eF} {all:List Oper} {base N:Nat} {ρ:Nat->Int}: ∀(xs:List Item) {pc pc':List (SB×Bool)} {d d':DSt},bK ρ pc->(aiH tt call all base N xs pc d).leaf ρ=some (pc',d')->bK ρ pc'
 |[],pc,pc',d,d',hp,h=>by have:=aF h;simp only [aHf] at this;rw [<- this.1]; exact hp
 |x::xs,pc,pc',d,d',hp,h=>by simp only [aiH] at h;obtain⟨d1,pc1,_,hp1,h2⟩:=T.qG hp h;exact afQ xs hp1 h2
theorem afR [Glob] {tt:TT} (htt:fE P tt) {call:eF} (hc:kP P call) {ops:Array Oper} {base N:Nat} {ρ:Nat->Int}: ∀(xs:List Item) {pc pc':List (SB×Bool)} {d d':DSt},bK ρ pc->(aiH tt call ops.toList base N xs pc d).leaf ρ=some (pc',d')->aFO P ρ ops base N xs d d'
 |[],pc,pc',d,d',hp,h=>by have:=aF h;simp only [aHf] at this;obtain⟨_,rfl⟩:=this;exact⟨⟨[],rfl,rfl⟩,⟨[],rfl,rfl⟩,⟨[],rfl,rfl⟩,fun a b h=> .inl h,fun p x b hh=>by simp at hh,fun q h=>h,fun t x h=> .inr ⟨h,by simp⟩,fun t _=>rfl,fun h=>h,fun p x hh=>by simp at hh⟩
 |x::xs,pc,pc',d,d',hp,h=>by
  simp only [aiH] at h;obtain⟨d1,pc1,h1,hp1,h2⟩:=T.qG hp h;obtain⟨v,ob,e1,e2,e3,e4,hF⟩:=arX htt hc hp h1;obtain⟨⟨pv,v1,v2⟩,⟨po,o1,o2⟩,⟨ps,s1,s2⟩,b1,b2,b3,sl,sm,nx,hat⟩:=afR htt hc xs hp1 h2;obtain⟨qs,t1,t2⟩:=hF.qK;have hv0:d'.vs.reverse[d.vs.length]?=some v:=rev_at (by rw [v1,e2]);have ho0:d'.obs.reverse[d.obs.length]?=some ob:=rev_at (by rw [o1,e3]);have hvl:d1.vs.length=d.vs.length+1:=by rw [e2]; rfl
  have hol:d1.obs.length=d.obs.length+1:=by rw [e3]; rfl
  have hb0: ∀q,q∈d.blks->q∈d1.blks:=by
   intro q hq;rw [e4]
   cases ob with
   |none=>exact hq
   |some b=>exact aH8 _ hq
  have hsh: ∀(p n:Nat),n+1+p=n+(p+1):=by intro p n; omega
  refine⟨⟨pv++ [v],by rw [v1,e2]; simp,by simp [v2]⟩,⟨po++ [ob],by rw [o1,e3]; simp,by simp [o2]⟩,⟨ps++qs,by rw [s1,t1]; simp,by rw [aHC,J6,s2,t2]; omega⟩,?_,?_,fun q hq=>b3 q (hb0 q hq),?_,?_,fun hh=>nx (hF.nxt hh),?_⟩
  ·intro a b hab;rcases b1 a b hab with hh|⟨p,y,g1,g2,g3⟩
   ·rw [e4] at hh
    cases ob with
    |none=>exact .inl hh
    |some c=>
     simp only [aHm,aHf] at hh;rcases hh with ⟨rfl,rfl⟩|hh
     ·exact .inr ⟨0,x,rfl,rfl,ho0⟩
     ·exact .inl hh
   ·exact .inr ⟨p+1,y,by simpa using g1,g2,by rw [<- hsh,<- hol]; exact g3⟩
  ·intro p y b hy hb
   cases p with
   |zero=> simp at hy;subst hy;rw [aHJ,ho0] at hb;simp at hb;subst hb;exact b3 _ (by rw [e4]; simp)
   |succ p=> refine b2 p y b (by simpa using hy) ?_;rw [hol,hsh];exact hb
  ·intro t y hy;rcases sl t y hy with ⟨p,z,g1,g2,g3⟩|⟨g1,g2⟩
   ·exact .inl ⟨p+1,z,by simpa using g1,g2,by rw [<- hsh,<- hvl]; exact g3⟩
   ·rw [e1,Dz] at g1;split at g1
    ·rename_i hd;simp at g1;subst g1;exact .inl ⟨0,x,rfl,hd,hv0⟩
    ·rename_i hd;refine .inr ⟨g1,fun z hz=>?_⟩;rcases aHm.1 hz with rfl|hz
     ·exact hd
     ·exact g2 z hz
  ·intro t ht;rw [sm t fun y hy=>ht y (by simp [hy]),e1,Dz,aHc (ht x (by simp))]
  ·intro p y hy
   cases p with
   |zero=> simp at hy;subst hy;refine⟨d,d1,v,ob,ps,hF,hv0,ho0,s1,by simp [nD],fun q hq=>b3 q (hb0 q hq),fun t ht=>?_,fun t z hz=> .inr ⟨hz,by simp⟩⟩;rw [sm t fun y hy=>ht y (by simp [hy]),e1,Dz,aHc (ht x (by simp))]
   |succ p=>
    obtain⟨dp,dp1,v',ob',pre,g1,g2,g3,g4,g5,g6,g7,g8⟩:=hat p y (by simpa using hy);refine⟨dp,dp1,v',ob',pre,g1,by rw [<- hsh,<- hvl]; exact g2,by rw [<- hsh,<- hol]; exact g3,g4,?_,g6,fun t ht=>g7 t (by simpa using ht),fun t z hz=>?_⟩
    ·rw [g5,aIc,J6,t1,aHC,t2];omega
    ·rcases g8 t z hz with ⟨p',y',q1,q2,q3,q4⟩|⟨q1,q2⟩
     ·exact .inl ⟨p'+1,y',by omega,by simpa using q2,q3,by rw [<- hsh,<- hvl]; exact q4⟩
     ·rw [e1,Dz] at q1;split at q1
      ·rename_i hd;simp at q1;subst q1;exact .inl ⟨0,x,by omega,rfl,hd,hv0⟩
      ·rename_i hd;refine .inr ⟨q1,fun u hu=>?_⟩;rw [aIc] at hu;rcases aHm.1 hu with rfl|hu
       ·exact hd
       ·exact q2 u hu
end
section
variable {P:Program}
theorem Ea {tt:TT}: ∀{l:List Oper} {i:Nat} {o:Oper},l[i]?=some o->mO tt (l.take (i+1))=mO tt (l.take i)+(match kindOf tt o.op with | .e=>1|_=>0)
 |[],i,o,h=>by simp at h
 |x::xs,0,o,h=>by simp at h;subst h;simp only [aHn,aIc,aJG,mO];cases kindOf tt x.op<;>rfl
 |x::xs,i+1,o,h=>by simp only [aIc,mO];rw [Ea (l:=xs) (by simpa using h)];omega
theorem Yg {tt:TT} {l:List Oper} {i:Nat} (h:l[i]?=none):mO tt (l.take (i+1))=mO tt (l.take i):=by have:=aIU.1 h;rw [aIb (by omega),aIb (by omega)]
theorem TM {tt:TT} {l:List Oper} {i:Nat}: ∀{j:Nat},i<=j->mO tt (l.take i)<=mO tt (l.take j)
 |0,h=>by
  obtain rfl:i=0:=by omega
  exact aHh _
 |j+1,h=>by
  by_cases e:i=j+1
  ·subst e; exact aHh _
  ·have:=TM (tt:=tt) (l:=l) (i:=i) (j:=j) (by omega)
   cases ho:l[j]? with
   |none=>rw [Yg ho]; exact this
   |some o=>rw [Ea ho]; omega
theorem VW {tt:TT} {l:List Oper} {i j:Nat} {o:Oper} (ho:l[i]?=some o) (hk:kindOf tt o.op= .e) (h:i<j):mO tt (l.take i)<mO tt (l.take j):=by have h1:=Ea (tt:=tt) ho;rw [hk] at h1;have h2:=TM (tt:=tt) (l:=l) (i:=i+1) (j:=j) h;simp only at h1;omega
theorem D9 {tt:TT} {l:List Oper} {m:Nat}: ∀{j:Nat},m<mO tt (l.take j)->∃i o,i<j/\l[i]?=some o/\kindOf tt o.op= .e/\mO tt (l.take i)=m
 |0,h=>by simp [mO] at h
 |j+1,h=>by
  cases ho:l[j]? with
  |none=> rw [Yg ho] at h;obtain⟨i,o,h1,h2⟩:=D9 h;exact⟨i,o,by omega,h2⟩
  |some o=>
   rw [Ea ho] at h;rcases aHw m (mO tt (l.take j)) with h'|h'
   ·obtain⟨i,o,h1,h2⟩:=D9 h';exact⟨i,o,by omega,h2⟩
   ·cases hk:kindOf tt o.op<;>rw [hk] at h<;>simp only at h<;>try omega
    exact⟨j,o,by omega,ho,hk,by omega⟩
def Ij (tt:TT) (all:List Oper) (ms:List Nat) (j:Nat) (o:Oper):Item:=⟨j,o,ms.getD j 0,kindOf tt o.op,mO tt (all.take j),reads all o⟩
theorem kV {tt:TT} {all:List Oper} {ms:List Nat} {j:Nat} {o:Oper} (h:all[j]?=some o):(items tt all ms all 0 0)[j]?=some (Ij tt all ms j o):=by rw [mY,h];simp [Ij]
theorem SH {tt:TT} {all:List Oper} {ms:List Nat} {x:Item} (h:x∈items tt all ms all 0 0): ∃j o,all[j]?=some o/\x=Ij tt all ms j o:=by
 obtain⟨j,hj⟩:=List.getElem?_of_mem h
 cases ho:all[j]? with
 |none=>rw [mY,ho] at hj; simp at hj
 |some o=> rw [kV ho] at hj;simp at hj;exact⟨j,o,ho,hj.symm⟩
structure aAv (tt:TT) (all:List Oper) (ms:List Nat):Prop where
 back: ∀(j:Nat) (o:Oper),all[j]?=some o->∀e∈o.after,Region.binds .any e=true->e.on<j
 mask: ∀(j:Nat) (o:Oper),all[j]?=some o->ms.getD j 0=uI ms o.after.toList
 rd: ∀(j:Nat) (o:Oper),all[j]?=some o->∀t∈reads all o,∀(i:Nat) (oi:Oper),all[i]?=some oi->oi.dst=some t->(ms.getD j 0).testBit i=true\/(kindOf tt o.op≠.r/\(ms.getD i 0).testBit j=true)
 dst: ∀(i j:Nat) (oi oj:Oper) (d:Nat),all[i]?=some oi->all[j]?=some oj->oi.dst=some d->oj.dst=some d->i=j
 tot: ∀(i j:Nat) (oi oj:Oper),all[i]?=some oi->all[j]?=some oj->kindOf tt oi.op= .e->kindOf tt oj.op= .e->i<j->(ms.getD j 0).testBit i=true
theorem auD {tt:TT} {all:List Oper} {q:Stat} (h:stat tt all=some q): ∃ms,q.is=items tt all ms all 0 0/\q.nE=mO tt all/\q.rs=((q.is.filter (·.k.isR)).map fun x=>(x,stages q.is q.nE x))/\aAv tt all ms:=by
 unfold stat at h;simp only at h;split at h
 ·rename_i hok;simp at h;subst h;refine⟨xE all [],rfl,rG _ _ _,rfl,?_⟩;have key: ∀(j:Nat) (o:Oper),all[j]?=some o->EY (xE all []) (items tt all (xE all []) all 0 0) (Ij tt all (xE all []) j o)=true:=fun j o ho=>aHz.1 hok _ (aHK (kV ho));have mem: ∀(j:Nat) (o:Oper),all[j]?=some o->Ij tt all (xE all []) j o∈items tt all (xE all []) all 0 0:=fun j o ho=>aHK (kV ho);refine⟨?_,?_,?_,?_,?_⟩
  ·intro j o ho e he hb;have:=key j o ho;simp only [EY,aHg,aHz] at this;have:=this.1.1.1.1 e (by simpa [Ij] using he);simpa [hb,Ij] using this
  ·intro j o ho;have:=key j o ho;simp only [EY,aHg] at this;have:=this.1.1.1.2;simpa [Ij] using this
  ·intro j o ho t ht i oi hoi hd;have:=key j o ho;simp only [EY,aHg,aHz] at this;have:=this.1.1.2 t ht _ (mem i oi hoi);simp only [Ij,hd,ne_eq,not_true_eq_false,decide_false,aII,aIh,aHg,aIj] at this;rcases this with h|⟨h1,h2⟩
   ·exact .inl h
   ·refine .inr ⟨fun hk=>?_,h2⟩;rw [hk] at h1;simp [Kind.isR] at h1
  ·intro i j oi oj d hi hj hdi hdj;have:=key i oi hi;simp only [EY,aHg,aHz] at this;have:=this.1.2 _ (mem j oj hj);simp [Ij,hdi,hdj] at this;exact this.symm
  ·intro i j oi oj hi hj hki hkj hlt;have:=key j oj hj;simp only [EY,aHg,aHz] at this;have:=this.2;simp only [Ij,hkj,Kind.isE,aIY,aII,aHz] at this;have:=this _ (mem i oi hi);simpa [Ij,hki,Kind.isE,hlt] using this
 ·simp at h
theorem Nk [Glob] {tt:TT} (htt:fE P tt) {call:eF} (hc:kP P call) {ops:Array Oper} {base:Nat} {pc:List (SB×Bool)} {ρ:Nat->Int} (hp:bK ρ pc) {x:Item} (hk:kindOf tt x.o.op= .r) {v:AV} {S:Tr AV} {blks:List (Nat×eP)} {qK:List (Hp×Nat)}: ∀(ks:List Nat),(KX tt call ops.toList base pc x v S blks qK ks).leaf ρ=some ()->
 ∀k∈ks,∃h mm,qK[k]?=some (h,mm)/\PU P ρ ops x.o S (iG base x.m mm blks h) v (iG base x.m mm blks h)
 |[],_=>by simp
 |k::ks,h=>by
  simp only [KX] at h;split at h
  ·rename_i h0 mm hn;obtain⟨⟨u,s'⟩,h1,h2⟩:=T.gZ h;simp only at h2;split at h2
   ·rename_i hs;have ha:=VE htt hc (s:=⟨S,iG base x.m mm blks h0,pc⟩) hp h1;have hr:=aFt hk h1;rw [hr,oJ _ _ hs] at ha;intro k' hk';rcases aHm.1 hk' with rfl|hk'
    ·exact⟨h0,mm,by rw [<- dI]; exact hn,ha⟩
    ·exact Nk htt hc hp hk ks h2 k' hk'
   ·simp [T.leaf] at h2
  ·simp [T.leaf] at h
theorem Ru [Glob] {tt:TT} (htt:fE P tt) {call:eF} (hc:kP P call) {ops:Array Oper} {base:Nat} {ρ:Nat->Int} {d:DSt} {qK:List (Hp×Nat)} {vs:List AV}: ∀(rs:List (Item×List Nat)) {pc pc':List (SB×Bool)},bK ρ pc->(∀r∈rs,kindOf tt r.1.o.op= .r)->(UA tt call ops.toList base d qK vs rs pc).leaf ρ=some pc'->
 bK ρ pc'/\∀r∈rs,∃v,vs[r.1.i]?=some v/\∀k∈r.2,∃h mm,qK[k]?=some (h,mm)/\PU P ρ ops r.1.o (only d.slots r.1.rd) (iG base r.1.m mm d.blks h) v (iG base r.1.m mm d.blks h)
 |[],pc,pc',hp,_,h=>by have:=aF h;subst this;exact⟨hp,by simp⟩
 |(x,ks)::rs,pc,pc',hp,hk,h=>by
  simp only [UA] at h;split at h
  ·rename_i v hv;obtain⟨⟨⟩,pc1,h1,hp1,h2⟩:=T.qG hp h;obtain⟨hp2,ih⟩:=Ru htt hc rs hp1 (fun r hr=>hk r (by simp [hr])) h2;refine⟨hp2,fun r hr=>?_⟩;rcases aHm.1 hr with rfl|hr
   ·exact⟨v,by rw [<- dI]; exact hv,Nk htt hc hp (hk _ (by simp)) ks h1⟩
   ·exact ih r hr
  ·simp [T.leaf] at h
end
section
variable {P:Program}
theorem auQ {α:Type} {l pre:List α} {a b:α} {l0:List α} (h:l=pre++a::b::l0):l.reverse[l0.length]?=some b/\l.reverse[l0.length+1]?=some a:=by
 subst h;constructor
 ·simp
 ·rw [show pre++a::b::l0=(pre++ [a])++(b::l0) by simp,List.reverse_append];rw [aJh (by simp)];simp
theorem agK {n b:Nat} (h:((1 <<<n)-1).testBit b=true):b<n:=by rw [Nat.shiftLeft_eq,aIE,Nat.testBit_two_pow_sub_one] at h;simpa using h
theorem auW [Glob] {tt:TT} {ops:Array Oper} {ms:List Nat} {ρ:Nat->Int} {vX:Tr AV} {H0:Hp} {base N:Nat} {d:DSt} (sf:aAv tt ops.toList ms) (hb:base=H0.next) (hN:base+ops.size<=N)
 (rf:aFO P ρ ops base N (items tt ops.toList ms ops.toList 0 0) ⟨vX,[(⟨H0.m,base+ops.size,none⟩,0)],[],[],[]⟩ d)
 (hrs: ∀r∈((items tt ops.toList ms ops.toList 0 0).filter (·.k.isR)).map fun x=>(x,stages (items tt ops.toList ms ops.toList 0 0) (mO tt ops.toList) x),∃v,d.vs.reverse[r.1.i]?=some v/\∀k∈r.2,∃h mm,d.qK.reverse[k]?=some (h,mm)/\PU P ρ ops r.1.o (only d.slots r.1.rd) (iG base r.1.m mm d.blks h) v (iG base r.1.m mm d.blks h))
 (hun:Ub base d.blks d.qK=true) :
 ∃p:Plan P ρ ops vX H0,p.base=base/\p.nE=mO tt ops.toList/\(∀i,p.val i=(d.vs.reverse[i]?).getD .lH)/\(∀k h mm,d.qK.reverse[k]?=some (h,mm)->p.hp k=h/\∀a,p.un k a=!mm.testBit a)/\(∀i,p.blk i=(d.obs.reverse[i]?).getD none)/\
  (∀(m:Nat),m<p.nE->∃(j:Nat) (o:Oper),ops[j]?=some o/\p.kd j= .e/\p.st j=m):=by
 have hsz: ∀(j:Nat),ops.toList[j]?=ops[j]?:=fun j=>aHT;have hlt: ∀{j:Nat} {o:Oper},ops[j]?=some o->j<ops.size:=fun h=>(aHN.1 h).1;have hci:nD (items tt ops.toList ms ops.toList 0 0)=mO tt ops.toList:=rG _ _ _;have hfull:mO tt ops.toList=mO tt (ops.toList.take ops.size):=by rw [aIb (by simp)]
 obtain⟨ps,s1,s2⟩:=rf.qK;rw [hci] at s2;have aG6:d.qK.length=mO tt ops.toList+1:=by rw [s1,aHC,s2]; rfl
 have aGv:d.qK.reverse[0]?=some (⟨H0.m,base+ops.size,none⟩,0):=by rw [s1]; simp
 have aEN: ∀k,k<=mO tt ops.toList->∃h mm,d.qK.reverse[k]?=some (h,mm):=by
  intro k hk;have:k<d.qK.reverse.length:=by rw [aJN]; omega
  exact⟨d.qK.reverse[k].1,d.qK.reverse[k].2,aHu this⟩
 have hnx:=rf.nxt (by
  intro q hq;simp only [aHm,aId,or_false] at hq;subst hq
  exact⟨hN,rfl⟩)
 have hnx2: ∀(k:Nat) (h:Hp) (mm:Nat),d.qK.reverse[k]?=some (h,mm)->h.next<=N/\h.res=none:=by intro k h mm hh;exact hnx (h,mm) (by have:=aHK hh; simpa using this)
 let hpf:Nat->Hp:=fun k=>((d.qK.reverse[k]?).map (·.1)).getD ⟨.nil,0,none⟩
 let unf:Nat->Nat->Bool:=fun k a=>match d.qK.reverse[k]? with |some q=>!q.2.testBit a|none=>false
 let bff:Nat->Nat->Bool:=fun i j=>match ops[j]? with |some _=>(ms.getD j 0).testBit i|none=>false
 let kdf:Nat->Kind:=fun i=>match ops[i]? with |some o=>kindOf tt o.op|none=> .pa
 let VZ:Nat->Option eP:=fun i=>(d.obs.reverse[i]?).getD none
 have hpe: ∀k h mm,d.qK.reverse[k]?=some (h,mm)->hpf k=h/\∀a,unf k a=!mm.testBit a:=by intro k h mm hh;refine⟨by simp only [hpf,hh]; rfl,fun a=>by simp only [unf,hh]⟩
 have bfe: ∀{i j:Nat} {o:Oper},ops[j]?=some o->bff i j=(ms.getD j 0).testBit i:=by intro i j o ho;simp only [bff,ho]
 have kde: ∀{j:Nat} {o:Oper},ops[j]?=some o->kdf j=kindOf tt o.op:=by intro j o ho;simp only [kdf,ho]
 have kdE: ∀{j:Nat},kdf j= .e->∃o,ops[j]?=some o/\kindOf tt o.op= .e:=by
  intro j hj
  cases ho:ops[j]? with
  |none=>simp only [kdf,ho] at hj; simp at hj
  |some o=>exact⟨o,rfl,by rw [<- kde ho]; exact hj⟩
 have hbelow: ∀(k:Nat),∀(o':Oper),ops[k]?=some o'->∀b,(ms.getD k 0).testBit b=true->b<k:=by
  intro k
  induction k using Nat.strongRecOn with
  |_ k ih=>
   intro o' ho' b hb';rw [sf.mask k o' (by rw [hsz]; exact ho')] at hb';obtain⟨e,e1,e2,e3⟩:=vC hb';have e1':e∈o'.after:=by simpa using e1
   have hlt':=sf.back k o' (by rw [hsz]; exact ho') e e1' e2;rcases e3 with rfl|e3
   ·exact hlt'
   ·have:=hlt ho';have:=ih e.on hlt' (ops[e.on]'(by omega)) (by simp) b e3;omega
 have aoJ: ∀(i:Nat),∃S:Tr AV,∀(o:Oper),ops[i]?=some o->∃dp dp1 v ob pre,dp.slots=S/\PK P ρ ops base N (Ij tt ops.toList ms i o) dp v ob dp1/\d.vs.reverse[i]?=some v/\d.obs.reverse[i]?=some ob/\d.qK=pre++dp1.qK/\dp.qK.length=1+mO tt (ops.toList.take i)/\
  (∀q,q∈dp.blks->q∈d.blks)/\(∀t x,S.get t=some x->(∃p oj,p<i/\ops[p]?=some oj/\oj.dst=some t/\d.vs.reverse[p]?=some x)\/(vX.get t=some x/\∀(p:Nat) (oj:Oper),p<i->ops[p]?=some oj->oj.dst≠some t)):=by
  intro i
  cases hoi:ops[i]? with
  |none=>exact⟨.nil,fun o h=>by simp at h⟩
  |some o0=>
   have hx:(items tt ops.toList ms ops.toList 0 0)[i]?=some (Ij tt ops.toList ms i o0):=kV (by rw [hsz]; exact hoi);obtain⟨dp,dp1,v,ob,pre,g1,g2,g3,g4,g5,g6,g7,g8⟩:=rf.at_ i _ hx;refine⟨dp.slots,fun o ho=>?_⟩;simp only [aHe] at ho;subst ho;refine⟨dp,dp1,v,ob,pre,rfl,g1,by simpa using g2,by simpa using g3,g4,?_,g6,?_⟩
   ·rw [g5];congr 1
    have:(items tt ops.toList ms ops.toList 0 0).take i=items tt ops.toList ms (ops.toList.take i) 0 0:=by
     apply aI8;intro j;rw [aIn,mY,mY,aIn];split
     ·rename_i hj;rw [aIW,Nat.min_eq_left (by omega)]
     ·rfl
    rw [this,rG]
   ·intro t x ht;rcases g8 t x ht with ⟨p,y,q1,q2,q3,q4⟩|⟨q1,q2⟩
    ·cases hoj:ops.toList[p]? with
     |none=>rw [mY,hoj] at q2; simp at q2
     |some oj=> rw [kV hoj] at q2;simp at q2;subst q2;exact .inl ⟨p,oj,q1,by rw [<- hsz]; exact hoj,q3,by simpa using q4⟩
    ·refine .inr ⟨q1,fun p oj hp hoj=>?_⟩
     have hm:Ij tt ops.toList ms p oj∈(items tt ops.toList ms ops.toList 0 0).take i:=by refine aHK (i:=p) ?_;rw [aIn,aHd hp];exact kV (by rw [hsz]; exact hoj)
     exact q2 _ hm
 obtain⟨Sd,hat⟩:=Classical.skolem.1 aoJ
 let Sf:Nat->Tr AV:=fun i=>match ops[i]? with
  |some o=>(match kindOf tt o.op with
   | .r=>only d.slots (reads ops.toList o)
   |_=>only (Sd i) (reads ops.toList o))
  |none=> .nil
 have SfR: ∀{i:Nat} {o:Oper},ops[i]?=some o->kindOf tt o.op= .r->Sf i=only d.slots (reads ops.toList o):=by intro i o ho hk;simp only [Sf,ho,hk]
 have SfN: ∀{i:Nat} {o:Oper},ops[i]?=some o->kindOf tt o.op≠.r->Sf i=only (Sd i) (reads ops.toList o):=by
  intro i o ho hk;have:Sf i=(match kindOf tt o.op with | .r=>only d.slots (reads ops.toList o)|_=>only (Sd i) (reads ops.toList o)):=by simp only [Sf,ho]
  rw [this]
  cases hh:kindOf tt o.op with
  |r=>exact absurd hh hk
  |pa=>rfl
  |e=>rfl
 have hblk: ∀a b,(a,b)∈d.blks->VZ a=some b:=by
  intro a b hab;rcases rf.blk a b hab with h|⟨p,x,g1,g2,g3⟩
  ·simp at h
  ·cases ho:ops.toList[p]? with
   |none=>rw [mY,ho] at g1; simp at g1
   |some o=> rw [kV ho] at g1;simp at g1;subst g1;have:p=a:=g2;subst this;simp only [aHD,aHn] at g3;simp only [VZ,g3,aHl]
 have hblk2: ∀a b,VZ a=some b->(a,b)∈d.blks:=by
  intro a b hab
  have hob:d.obs.reverse[a]?=some (some b):=by
   simp only [VZ] at hab
   cases hh:d.obs.reverse[a]? with
   |none=>rw [hh] at hab; simp at hab
   |some x=>rw [hh] at hab; simp at hab; rw [hab]
  obtain⟨po,o1,o2⟩:=rf.obs
  have hal:a<ops.size:=by have h1:=(aHB.1 hob).1;rw [aJN,o1,aHU,o2,zZ] at h1;simpa using h1
  have hx:(items tt ops.toList ms ops.toList 0 0)[a]?=some (Ij tt ops.toList ms a ops[a]):=kV (by rw [hsz]; simp [hal]);exact rf.aGP a _ b hx (by simpa using hob)
 refine⟨{
  base:=base,bf:=bff,kd:=kdf,S:=Sf,val:=fun i=>(d.vs.reverse[i]?).getD .lH,st:=fun i=>mO tt (ops.toList.take i),nE:=mO tt ops.toList,hp:=hpf,un:=unf,blk:=VZ,
  gen:=?_,back:=?_,dst:=?_,slots:=?_,stl:=?_,inj:=?_,aDT:=?_,pa:=?_,ev:=?_,rd:=?_,unm:=?_,nob:=?_,first:=?_ },rfl,rfl,fun i=>rfl,hpe,fun i=>rfl,?_⟩
 ·intro i j h
  cases ho:ops[j]? with
  |none=>simp only [bff,ho] at h; simp at h
  |some o=>
   rw [bfe ho,sf.mask j o (by rw [hsz]; exact ho)] at h;obtain⟨e,e1,e2,e3⟩:=vC h;have e1':e∈o.after:=by simpa using e1
   refine⟨o,e,rfl,e1',e2,e3.imp id fun h3=>?_⟩;have hl:=sf.back j o (by rw [hsz]; exact ho) e e1' e2;have hj:=hlt ho;rw [bfe (o:=ops[e.on]'(by omega)) (by simp)];exact h3
 ·intro j o ho e he hb';exact sf.back j o (by rw [hsz]; exact ho) e he hb'
 ·intro i j oi oj dd hi hj h1 h2;exact sf.dst i j oi oj dd (by rw [hsz]; exact hi) (by rw [hsz]; exact hj) h1 h2
 ·intro i o ho t x ht
  cases hk:kindOf tt o.op with
  |r=>
   rw [SfR ho hk] at ht;obtain⟨h1,h2⟩:=Gi ht;rcases rf.slot t x h2 with ⟨p,y,g1,g2,g3⟩|⟨g1,g2⟩
   ·cases hoj:ops.toList[p]? with
    |none=>rw [mY,hoj] at g1; simp at g1
    |some oj=>
     rw [kV hoj] at g1;simp at g1;subst g1;have hp:ops[p]?=some oj:=by rw [<- hsz]; exact hoj
     refine .inl ⟨p,oj,?_,hp,g2,?_⟩
     ·rw [bfe ho];rcases sf.rd i o (by rw [hsz]; exact ho) t h1 p oj hoj g2 with h|⟨h,_⟩
      ·exact h
      ·exact absurd hk h
     ·simp only [aHD,aHn] at g3;simp only [g3,aHl]
   ·refine .inr ⟨g1,fun j oj hoj hd=>?_⟩;exact absurd hd (g2 _ (aHK (kV (by rw [hsz]; exact hoj))))
  |_=>
   rw [SfN ho (by rw [hk]; simp)] at ht;obtain⟨h1,h2⟩:=Gi ht;obtain⟨dp,dp1,v,ob,pre,_,_,_,_,_,_,_,g8⟩:=hat i o ho;rcases g8 t x h2 with ⟨p,oj,q1,q2,q3,q4⟩|⟨q1,q2⟩
   ·refine .inl ⟨p,oj,?_,q2,q3,by rw [q4]; rfl⟩;rw [bfe ho];rcases sf.rd i o (by rw [hsz]; exact ho) t h1 p oj (by rw [hsz]; exact q2) q3 with h|⟨_,h⟩
    ·exact h
    ·have:=hbelow p oj q2 i h;omega
   ·refine .inr ⟨q1,fun j oj hoj hd=>?_⟩;rw [bfe hoj];rcases sf.rd i o (by rw [hsz]; exact ho) t h1 j oj (by rw [hsz]; exact hoj) hd with h|⟨_,h⟩
    ·exact absurd hd (q2 j oj (hbelow i o ho j h) hoj)
    ·exact h
 ·intro j o ho hk;rw [kde ho] at hk;rw [hfull];exact VW (by rw [hsz]; exact ho) hk (hlt ho)
 ·intro i j hi hj he;obtain⟨oi,hoi,hki⟩:=kdE hi;obtain⟨oj,hoj,hkj⟩:=kdE hj;rcases aJM i j with h|h|h
  ·have:=VW (tt:=tt) (l:=ops.toList) (by rw [hsz]; exact hoi) hki h;omega
  ·exact h
  ·have:=VW (tt:=tt) (l:=ops.toList) (by rw [hsz]; exact hoj) hkj h;omega
 ·intro j o ho hk m hm;obtain⟨i,oi,h1,h2,h3,h4⟩:=D9 hm;rw [kde ho] at hk;have h2':ops[i]?=some oi:=by rw [<- hsz]; exact h2
  refine⟨i,by rw [kde h2']; exact h3,h4,?_⟩;rw [bfe ho];exact sf.tot i j oi o h2 (by rw [hsz]; exact ho) h3 hk h1
 ·intro i o ho hk;rw [kde ho] at hk;obtain⟨dp,dp1,v,ob,pre,hdp,hF,g2,g3,g4,g5,g6,g7⟩:=hat i o ho;obtain⟨h0,mm,rest,hs,hF⟩:=hF;simp only [Ij,hk] at hF;obtain⟨_,HA,f1,f2,f3⟩:=hF;rw [hdp] at f1;refine⟨HA,N,?_,f2,?_,?_⟩
  ·rw [SfN ho (by rw [hk]; simp)];simp only [g2,aHl];exact f1
  ·simp only [VZ,g3,aHl];exact f3
  ·intro k hk2;obtain⟨h2,mm2,hh⟩:=aEN k hk2;rw [(hpe _ _ _ hh).1];exact (hnx2 _ _ _ hh).1
 ·intro j o ho hk;rw [kde ho] at hk;obtain⟨dp,dp1,v,ob,pre,hdp,hF,g2,g3,g4,g5,g6,g7⟩:=hat j o ho;obtain⟨h0,mm,rest,hs,hF⟩:=hF;simp only [Ij,hk] at hF;obtain⟨_,hn,f1,f2,f3,f4⟩:=hF;rw [hdp] at f4;rw [f1,hs] at g4;have hrl:rest.length=mO tt (ops.toList.take j):=by rw [hs] at g5; simp at g5; omega
  obtain⟨r1,r2⟩:=auQ g4;rw [hrl] at r1 r2;obtain⟨p1,p2⟩:=hpe _ _ _ r1;obtain⟨p3,p4⟩:=hpe _ _ _ r2;refine⟨iG base (ms.getD j 0) mm dp.blks h0,?_,?_,?_,?_,?_⟩
  ·rw [SfN ho (by rw [hk]; simp)];simp only [g2,aHl,p3];exact f4
  ·rw [(mP _ _).1,p1]
  ·rw [(mP _ _).2];exact (hnx2 _ _ _ r1).2
  ·intro id x hx;rcases uM hx with h|⟨a,a1,a2,a3,a4⟩
   ·left; rw [p1]; exact h
   ·right;exact⟨a,by rw [bfe ho]; exact a2,by rw [p2,a3]; rfl,a4,hblk a x (g6 _ a1)⟩
  ·intro a ha;rw [p4] at ha;simp only [Nat.testBit_or,Bool.not_or,aHg,aIj] at ha;refine⟨by rw [p2,ha.1]; rfl,?_⟩;rw [bfe ho];exact ha.2
 ·intro i o ho hk k hkn h1 h2;rw [kde ho] at hk;have hmem:Ij tt ops.toList ms i o∈items tt ops.toList ms ops.toList 0 0:=aHK (kV (by rw [hsz]; exact ho))
  obtain⟨v,g1,g2⟩:=hrs (Ij tt ops.toList ms i o,stages (items tt ops.toList ms ops.toList 0 0) (mO tt ops.toList) (Ij tt ops.toList ms i o)) (by
   rw [aHF]
   exact⟨_,aIo.2 ⟨hmem,by simp [Ij,hk,Kind.isR]⟩,rfl⟩)
  have hks:k∈stages (items tt ops.toList ms ops.toList 0 0) (mO tt ops.toList) (Ij tt ops.toList ms i o):=by
   unfold stages;rw [aIo,aH5];refine⟨by omega,aHz.2 fun y hy=>?_⟩;obtain⟨j,oj,hoj,rfl⟩:=SH hy;have avM:ops[j]?=some oj:=by rw [<- hsz]; exact hoj
   cases hkj:kindOf tt oj.op with
   |pa=>simp [Ij,hkj,Kind.isE]
   |r=>simp [Ij,hkj,Kind.isE]
   |e=>
    simp only [Ij,hkj,Kind.isE,aIY,aII,aHg,aIh,aIj,decide_eq_true_eq];constructor
    ·cases hbit:(ms.getD i 0).testBit j with
     |false=>exact .inl rfl
     |true=>exact .inr (h1 j (by rw [kde avM]; exact hkj) (by rw [bfe ho]; exact hbit))
    ·cases hbit:(ms.getD j 0).testBit i with
     |false=>exact .inl rfl
     |true=>exact .inr (h2 j oj avM (by rw [kde avM]; exact hkj) (by rw [bfe avM]; exact hbit))
  obtain⟨h0,mm,g3,g4⟩:=g2 k hks;obtain⟨p1,p2⟩:=hpe _ _ _ g3;refine⟨iG base (ms.getD i 0) mm d.blks h0,?_,?_,?_,?_⟩
  ·have g1':d.vs.reverse[i]?=some v:=g1;rw [SfR ho hk];simp only [g1',aHl];exact g4
  ·rw [(mP _ _).1,p1]
  ·rw [(mP _ _).2];exact (hnx2 _ _ _ g3).2
  ·intro id x hx;rcases uM hx with h|⟨a,a1,a2,a3,a4⟩
   ·left; rw [p1]; exact h
   ·right;exact⟨a,by rw [bfe ho]; exact a2,by rw [p2,a3]; rfl,a4,hblk a x a1⟩
 ·intro k a x hk hx hu;obtain⟨h0,mm,hh⟩:=aEN k hk;obtain⟨p1,p2⟩:=hpe _ _ _ hh;rw [p1];rw [p2] at hu;unfold Ub at hun;have:=aHz.1 hun _ (hblk2 a x hx)
  have:=aHz.1 this (h0,mm) (by
   have:=aHK hh
   simpa using this)
  simp only [aIh,Option.isNone_iff_eq_none] at this;simp only [aIj] at hu;rcases this with h|h
  ·rw [hu] at h; simp at h
  ·exact h
 ·intro i hk
  cases ho:ops[i]? with
  |none=>
   obtain⟨po,o1,o2⟩:=rf.obs
   have hnone:d.obs.reverse[i]?=none:=by rw [aIU,aJN,o1,aHU,o2,zZ];have:=aJY.1 ho;simpa using this
   simp only [VZ,hnone,Option.getD_none]
  |some o=>
   obtain⟨dp,dp1,v,ob,pre,hdp,hF,g2,g3,g4,g5,g6,g7⟩:=hat i o ho;obtain⟨h0,mm,rest,hs,hF⟩:=hF;rw [kde ho] at hk
   cases hkk:kindOf tt o.op with
   |pa=>exact absurd hkk hk
   |e=> simp only [Ij,hkk] at hF;simp only [VZ,g3,aHl,hF.1]
   |r=> simp only [Ij,hkk] at hF;simp only [VZ,g3,aHl,hF.1]
 ·have:=(hpe 0 _ _ aGv).1;refine⟨hb,by rw [this]; exact aHh _,fun id x h=>?_⟩;rw [this] at h;exact h
 ·intro m hm;have hm':m<mO tt (ops.toList.take ops.size):=by rw [<- hfull]; exact hm
  obtain⟨i,oi,h1,h2,h3,h4⟩:=D9 hm';have h2':ops[i]?=some oi:=by rw [<- hsz]; exact h2
  exact⟨i,oi,h2',by show kdf i=_; rw [kde h2']; exact h3,h4⟩
end
section
variable {P:Program}
theorem OV [Glob] {tt:TT} (htt:fE P tt) {call:eF} (hc:kP P call) {ops:Array Oper} {E:En} {s s':St} {a:Act} {w:World} {Q:Exit->Act->World->Prop}
 (hd: ∀o∈ops.toList,∀d,o.dst=some d->d<a.tmps.size) (fit:Fit E s a w) (h:(draw tt call ops.toList s).leaf E.ρ=some s') (hq: ∀a' w',Then E s a w s' a' w'->Q .normal a' w') :
 wpAny P .any ops Q ops.size (Array.replicate ops.size false) a { w with drawn:=w.drawn+1 }:=by
 unfold draw OW at h;split at h
 ·simp [T.leaf] at h
 ·rename_i q hq0;split at h
  ·simp [T.leaf] at h
  ·rename_i hres;simp only at h;obtain⟨⟨pc1,d⟩,h1,h2⟩:=T.gZ h;simp only at h2;obtain⟨ms,e1,e2,e3,sf⟩:=auD hq0;rw [e1,] at h1;have rf:=afR htt hc _ fit.pc h1;have hp1:=afQ _ fit.pc h1;split at h2
   ·simp [T.leaf] at h2
   ·rename_i h0 mm rest aB6;obtain⟨pc2,h3,h4⟩:=T.gZ h2;split at h4
    ·rename_i hun;have:=aF h4;subst this
     have aEO:=Ru htt hc q.rs hp1 (by
      intro r hr;rw [e3,aHF] at hr;obtain⟨x,hx,rfl⟩:=hr;rw [aIo,e1] at hx;obtain⟨j,o,ho,rfl⟩:=SH hx.1;have h5:(kindOf tt o.op).isR=true:=hx.2;show kindOf tt o.op= .r;revert h5
      cases kindOf tt o.op<;>simp [Kind.isR]) h3
     have hp2:=aEO.1;have hrs:=aEO.2;rw [e3,e1,e2] at hrs;obtain⟨p,p1,p2,p3,p4,p5,p6⟩:=auW sf (base:=s.h.next) (H0:=s.h) rfl (Nat.le_add_right _ _) rf hrs hun;have hsz: ∀(j:Nat),ops.toList[j]?=ops[j]?:=fun j=>aHT;let w1:World:={ w with drawn:=w.drawn+1 };have aGI:Fit E s a w1:=⟨⟨fit.rel.fresh,fit.rel.res,fit.rel.live,fit.rel.inj,fit.rel.BO,fit.rel.glob⟩,fit.sr,fit.pc⟩
     have hlist: ∀(i:Nat),(Array.replicate ops.size false)[i]?≠some true:=by intro i hh;have:=aJj hh;simp at this
     refine p.any (E0:=E) (a0:=a) (w0:=w1) hd ?_ ops.size _ a w1 (by simp) ?_ (p.start rfl rfl rfl aGI _ hlist)
     ·intro a' w' inv;obtain⟨ps,s1,s2⟩:=rf.qK;rw [rG] at s2
      have hlen:rest.length=mO tt ops.toList:=by
       have:d.qK.length=mO tt ops.toList+1:=by rw [s1,aHC,s2]; rfl
       rw [aB6] at this;simpa using this
      have hlast:d.qK.reverse[mO tt ops.toList]?=some (h0,mm):=by rw [<- hlen];exact rev_at (pre:=[]) aB6
      obtain⟨q1,q2⟩:=p4 _ _ _ hlast
      have hnx:=rf.nxt (by
       intro q hq;simp only [aHm,aId,or_false] at hq;subst hq
       exact⟨Nat.le_add_right _ _,rfl⟩) (h0,mm) (by rw [aB6]; simp)
      have ht:=p.finish (s0:=s) (s':=⟨d.slots,iG s.h.next ((1 <<<ops.toList.length)-1) mm d.blks h0,pc2⟩) (w0:=w1) rfl inv hp2 ?_ ?_ ?_ ?_ p6
      ·refine hq a' w' ⟨ht.defers,ht.size,?_⟩;obtain⟨E',st,f'⟩:=ht.step;exact⟨E',⟨st.ρ,st.dm,st.θ,st.κ,st.ro,st.JF,st.nxm,st.rsm,st.dmn,st.os,st.tape,st.output,st.size,st.keep,st.own⟩,f'⟩
      ·intro t x ht;rcases rf.slot t x ht with ⟨j,y,g1,g2,g3⟩|⟨g1,g2⟩
       ·cases hoj:ops.toList[j]? with
        |none=>rw [mY,hoj] at g1; simp at g1
        |some oj=> rw [kV hoj] at g1;simp at g1;subst g1;refine .inl ⟨j,oj,by rw [<- hsz]; exact hoj,g2,?_⟩;simp only [aHD,aHn] at g3;rw [p3,g3];rfl
       ·refine .inr ⟨g1,fun j oj hoj=>?_⟩;exact g2 _ (aHK (kV (by rw [hsz]; exact hoj)))
      ·intro id x hx;rw [p2,q1,p1];rcases uM hx with h|⟨b,b1,b2,b3,b4⟩
       ·exact .inl h
       ·right
        have hlt:b<ops.size:=by have:=agK b2;simpa using this
        refine⟨b,hlt,by rw [q2,b3]; rfl,b4,?_⟩;rcases rf.blk b x b1 with h|⟨j,y,g1,g2,g3⟩
        ·simp at h
        ·cases hoj:ops.toList[j]? with
         |none=>rw [mY,hoj] at g1; simp at g1
         |some oj=> rw [kV hoj] at g1;simp at g1;subst g1;have:j=b:=g2;subst this;simp only [aHD,aHn] at g3;rw [p5,g3];rfl
      ·rw [p2,q1];exact (mP _ _).1.symm
      ·show (iG s.h.next ((1 <<<ops.toList.length)-1) mm d.blks h0).res=none;rw [(mP _ _).2];exact hnx.2
     ·have: ∀(l:Nat->Bool) (n:Nat),left l n<=n:=by
       intro l n
       induction n with
       |zero=>exact aHh _
       |succ n ih=>simp only [left]; split<;>omega
      exact this _ _
    ·simp [T.leaf] at h4
theorem axG [Glob] {tt:TT} (htt:fE P tt) (hm:P.follows .mixedOrders=true) {call:eF} (hc:kP P call):ayA P (draw tt call):=by intro id ops E s s' a w Q hd fit h hq;exact wp_region_any hm (OV htt hc hd fit h hq)
end
end Go.As
end
section
namespace Go.As
noncomputable section
open Go.RowKit
section
variable {P:Program}
def En.zero (ρ:Nat->Int) (ro:Nat->Prop):En:={ ρ:=ρ,θ:=fun _=>(0,0),κ:=fun _=>0,dm:=fun _=>False,ro:=ro }
def Hp.zero:Hp:=⟨.nil,0,none⟩
theorem WB [Glob] (ρ:Nat->Int) (ro:Nat->Prop) (w:World) (h: ∀b,ro b->b<w.heap.size) (hg:Glob.ok ρ ro w.heap):bG (En.zero ρ ro) Hp.zero w:=
 ⟨fun _ _ h=>h,by simp [Hp.zero],fun id o h=>by simp [Hp.zero,Hp.get,Tr.get] at h,fun id _ o _ h=>by simp [Hp.zero,Hp.get,Tr.get] at h,h,hg⟩
theorem Stp.below {E E':En} {H':Hp} {w w':World} (s:Stp E Hp.zero w E' H' w'):Below w.heap.size w w':=
 ⟨s.os,s.tape,s.output,s.size,fun k hk=>s.keep k hk fun id o h=>by simp [Hp.zero,Hp.get,Tr.get] at h⟩
theorem H6 [Glob] {g:FuncId} {f:List AV->St->T (AV×St)} (hf:nK P g f) {fn:Func} (hfn:P.funcs[g]?=some fn) (hname:(fn.name == "runtime.NumGoroutine")=false) {c:Code} (hb2:fn.body=some c)
 {ρ:Nat->Int} {ro:Nat->Prop} {w:World} (hro: ∀b,ro b->b<w.heap.size) (hg:Glob.ok ρ ro w.heap) {args:List AV} {vals:List Value} (hv:bT (En.zero ρ ro) w.heap args vals) {v:AV} {s':St}
 (h:(f args ⟨.nil,Hp.zero,[]⟩).leaf ρ=some (v,s')):Calls P g vals.toArray w fun e w'=> ∃u E',e= .returned u/\VR E' w'.heap v u/\E'.ρ=ρ/\Below w.heap.size w w':=by
 obtain⟨_,_,h3⟩:=hf args ⟨.nil,Hp.zero,[]⟩ (En.zero ρ ro) w vals v s' (WB ρ ro w hro hg) hv (by simp [bK]) h
 have hrun:(callFunc g vals.toArray).run P w= .ok (.enter g vals.toArray) w:=by unfold callFunc;simp [hfn,hb2,by simpa using hname]
 unfold uY uX at h3;rw [hrun] at h3;exact Calls.mono h3 fun e w' ⟨u,he,E',st,_,hv⟩=> ⟨u,E',he,hv,st.ρ,st.below⟩
end
end
end Go.As
end
section
namespace Go.As
noncomputable section
open Go.RowKit
mutual
def kH:AV->Bool
 | .bool (.lit _)=>true
 | .int _ (.lit _)=>true
 | .str _=>true
 | .lH=>true
 | .aY=>true
 | .rO=>true
 | .Cb=>true
 | .E5=>true
 | .iface _ v=>kH v
 | .agg cs=>uJ cs
 | .tuple cs=>uJ cs
 | .func _ fs cs=>uJ fs&&uJ cs
 |_=>false
def uJ:List AV->Bool
 |[]=>true
 |x::xs=>kH x&&uJ xs
end
section
variable {P:Program}
mutual
theorem Eb {E E':En} {h h':Array Obj}: ∀(x:AV) (u:Value),kH x=true->VR E h x u->VR E' h' x u
 | .bool b,u,hc,hv=>by cases b<;>simp [kH] at hc; simpa [VR,SB.den] using hv
 | .int k e,u,hc,hv=>by cases e<;>simp [kH] at hc; simpa [VR,SE.den] using hv
 | .str s,u,_,hv=>by simp only [VR] at *; exact hv
 | .lH,u,_,hv=>by simp only [VR] at *; exact hv
 | .aY,u,_,hv=>by simp only [VR] at *; exact hv
 | .rO,u,_,hv=>by simp only [VR] at *; exact hv
 | .Cb,u,_,hv=>by simp only [VR] at *; exact hv
 | .E5,u,_,hv=>by simp only [VR] at *; exact hv
 | .iface t x,u,hc,hv=>by simp only [VR,kH] at *;obtain⟨y,h1,h2⟩:=hv;exact⟨y,h1,Eb x y hc h2⟩
 | .agg cs,u,hc,hv=>by simp only [VR,kH] at *;obtain⟨us,h1,h2⟩:=hv;exact⟨us,h1,sK cs us hc h2⟩
 | .tuple cs,u,hc,hv=>by simp only [VR,kH] at *;obtain⟨us,h1,h2⟩:=hv;exact⟨us,h1,sK cs us hc h2⟩
 | .func fn fs cs,u,hc,hv=>by simp only [VR,kH,aHg] at *;obtain⟨us,ws,h1,h2,h3⟩:=hv;exact⟨us,ws,h1,sK fs us hc.1 h2,sK cs ws hc.2 h3⟩
 | .ptr _ _,_,hc,_=>by simp [kH] at hc
 | .rY _,_,hc,_=>by simp [kH] at hc
 | .slice _ _ _ _,_,hc,_=>by simp [kH] at hc
 | .ro _ _ _,_,hc,_=>by simp [kH] at hc
 | .map _,_,hc,_=>by simp [kH] at hc
 | .opq _,_,hc,_=>by simp [kH] at hc
 | .inp _ _,_,hc,_=>by simp [kH] at hc
theorem sK {E E':En} {h h':Array Obj}: ∀(xs:List AV) (us:List Value),uJ xs=true->bT E h xs us->bT E' h' xs us
 |[],us,_,hv=>by simp only [bT] at *; exact hv
 |x::xs,us,hc,hv=>by simp only [bT,uJ,aHg] at *;obtain⟨u,vs,h1,h2,h3⟩:=hv;exact⟨u,vs,h1,Eb x u hc.1 h2,sK xs vs hc.2 h3⟩
end
theorem Ee [Glob] {E:En} {H:Hp} {w w':World} (r:bG E H w) (b:Below w.heap.size w w'):Stp E H w E H w'/\bG E H w':=by have hk:Keeps E w.heap E w'.heap:=⟨rfl,fun _ h=>h,fun _ _=>rfl,fun _ _=>rfl,fun _ h=>h,fun x hx=>b.block x (r.BO x hx)⟩;refine⟨⟨rfl,fun _ h=>h,fun _ _=>rfl,fun _ _=>rfl,fun _ h=>h,fun _ h=> .inl h,aHh _,.inr rfl,fun _ h=> .inl h,b.os,b.tape,b.output,b.size,fun x hx _=>b.block x hx,fun id o h _=> ⟨id,o,h,rfl⟩⟩,r.fresh,r.res,fun id o h=>?_,r.inj,fun x hx=>aIe (r.BO x hx) b.size,Glob.keep r.glob hk.ro hk.MW⟩;obtain⟨h1,h2,h3⟩:=r.live id o h;exact⟨h1,h2.keep hk h1 (b.block _ (jS r h)),h3⟩
def memo (args:List AV) (v:AV):List AV->St->T (AV×St):=fun aHb s=>if kU aHb args then .ret (v,s) else .fail
def gives (args:List AV) (v:AV) (f:List AV->St->T (AV×St)):Bool:=
 uJ args&&kH v&&(match f args ⟨.nil,Hp.zero,[]⟩ with | .ret (u,_)=>fK u v|_=>false)
theorem Lh [Glob] {g:FuncId} {f:List AV->St->T (AV×St)} (hf:nK P g f) {fn:Func} (hfn:P.funcs[g]?=some fn) (hname:(fn.name == "runtime.NumGoroutine")=false) {c:Code} (hb:fn.body=some c)
 {args:List AV} {v:AV} (h:gives args v f=true):nK P g (memo args v):=by
 intro aHb s E w vals u s' r hv hp hl;unfold memo at hl;split at hl
 ·rename_i hs;have:=aF hl;simp only [aHf] at this;obtain⟨rfl,rfl⟩:=this;rw [iM _ _ hs] at hv;unfold gives at h;simp only [aHg] at h;obtain⟨⟨h1,h2⟩,h3⟩:=h;split at h3
  ·rename_i u' s1 hrun;have hu:=oJ _ _ h3;subst hu;have hc:=H6 hf hfn hname hb (ρ:=E.ρ) (ro:=E.ro) (w:=w) r.BO r.glob (sK args vals h1 hv) (v:=u') (s':=s1) (by rw [hrun]; rfl);refine⟨rfl,hp,?_⟩
   have hrun:(callFunc g vals.toArray).run P w= .ok (.enter g vals.toArray) w:=by unfold callFunc;simp [hfn,hb,by simpa using hname]
   unfold uY uX;rw [hrun];exact Calls.mono hc fun e w' ⟨x,E',he,hx,_,hbl⟩=> ⟨x,he,E,(Ee r hbl).1,(Ee r hbl).2,Eb u' x h2 hx⟩
  ·simp at h3
 ·simp [T.leaf] at hl
def orElse (f g:List AV->St->T (AV×St)):List AV->St->T (AV×St):=fun aHb s=>match f aHb s with | .fail=>g aHb s|x=>x
theorem DL [Glob] {id:FuncId} {f g:List AV->St->T (AV×St)} (hf:nK P id f) (hg:nK P id g):nK P id (orElse f g):=by
 intro aHb s E w vals u s' r hv hp hl;unfold orElse at hl;split at hl
 ·exact hg aHb s E w vals u s' r hv hp hl
 ·exact hf aHb s E w vals u s' r hv hp hl
end
end
end Go.As
end

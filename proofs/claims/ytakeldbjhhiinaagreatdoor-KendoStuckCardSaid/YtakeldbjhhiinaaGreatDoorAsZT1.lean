import Derived.Lib.Bytealg
import Derived.Lib.IndexMore
import Derived.Test.YtakeldbjhhiinaaGreatDoorAsZT0
set_option linter.unusedSectionVars false
set_option linter.unusedVariables false
set_option linter.unusedSimpArgs false
section
namespace Go.As
theorem lX.rd {ro:Nat->Prop} {h:Array Obj} {c:CK} {d:D} {u:Value} (r:lX ro h c d u) (wf:wU c d):Rd ro h c d u:=by
 cases c with
 |int k=> simp only [lX,wU] at r wf;rw [wf,r];exact .int k d.n
 |bool=>
  simp only [lX,wU] at r wf;subst r;rcases wf with rfl|rfl
  ·exact .bool false
  ·exact .bool true
 |str=>exact r
 |sl t=>exact r
theorem dO.get {ro:Nat->Prop} {h:Array Obj} {d:D}: ∀{cs:List CK} {j:Nat} {us:List Value},dO ro h cs j d us->∀{k:Nat} {c:CK},cs[k]?=some c->∃u,us[k]?=some u/\lX ro h c (d.hd (j+k)) u
 |[],_,_,_,k,c,hk=>by simp at hk
 |c0::cs,j,us,hh,k,c,hk=>by
  simp only [dO] at hh;obtain⟨u,vs,rfl,h1,h2⟩:=hh
  cases k with
  |zero=> simp at hk;subst hk;exact⟨u,rfl,h1⟩
  |succ k=> obtain⟨x,h3,h4⟩:=h2.get (by simpa using hk);exact⟨x,by simpa using h3,by rw [show j+(k+1)=j+1+k by omega]; exact h4⟩
theorem dO.length {ro:Nat->Prop} {h:Array Obj} {d:D}: ∀{cs:List CK} {j:Nat} {us:List Value},dO ro h cs j d us->us.length=cs.length
 |[],_,us,hh=>by simp only [dO] at hh; subst hh; rfl
 |c::cs,j,us,hh=>by simp only [dO] at hh;obtain⟨u,vs,rfl,_,h2⟩:=hh;simp [h2.length]
theorem dO.shift {ro:Nat->Prop} {h:Array Obj} {a b:D}: ∀{cs:List CK} {j:Nat} {us:List Value},dO ro h cs (j+1) (.p a b) us↔dO ro h cs j b us
 |[],_,us=>by simp only [dO]
 |c::cs,j,us=>by
  simp only [dO,Hy];constructor
  ·rintro⟨u,vs,rfl,h1,h2⟩;exact⟨u,vs,rfl,h1,dO.shift.1 h2⟩
  ·rintro⟨u,vs,rfl,h1,h2⟩;exact⟨u,vs,rfl,h1,dO.shift.2 h2⟩
section
variable {P:Program} {E:En} {w:World}
theorem vV {ρ:Nat->Int} {c:CK} {v:AV} {a:SE} (h:sN c v=some a):wU c (dec (a.den ρ)):=by
 unfold sN at h;split at h
 ·split at h
  ·split at h
   ·simp only [aJf] at h;subst h;simp only [wU,qA,aF,D.n]
   ·simp at h
  ·simp at h
 ·split at h
  ·split at h
   ·rename_i b;simp only [aJf] at h;subst h;simp only [wU,SE.den,aF];cases b<;>simp
   ·split at h
    ·split at h
     ·split at h
      ·simp only [aJf] at h;subst h;simp only [wU,SE.den,iY.den,aF];split<;>simp
      ·simp at h
     ·simp at h
    ·simp at h
   ·simp at h
  ·simp at h
 ·trivial
 ·trivial
theorem qV {h:Array Obj} {c:CK} {v:AV} {u:Value} {a:SE} (hv:VR E h v u) (hc:sN c v=some a):lX E.ro h c (dec (a.den E.ρ)) u:=by
 unfold sN at hc;split at hc
 ·split at hc
  ·split at hc
   ·rename_i hk;subst hk;simp only [aJf] at hc;subst hc;simp only [VR] at hv;simp only [lX,qA,aF,D.n];exact hv
   ·simp at hc
  ·simp at hc
 ·split at hc
  ·split at hc
   ·rename_i b;simp only [aJf] at hc;subst hc;simp only [VR,SB.den] at hv;subst hv;simp only [lX,SE.den,aF];cases b<;>rfl
   ·split at hc
    ·split at hc
     ·split at hc
      ·rename_i x n hn;subst hn;simp only [aJf] at hc;subst hc;simp only [VR,SB.den,SE.den] at hv;subst hv;simp only [lX,SE.den,iY.den,qA,aF,D.n];congr 2;split
       ·rename_i hz; rw [hz]
       ·rename_i hz; simpa using hz
      ·simp at hc
     ·simp at hc
    ·simp at hc
   ·simp at hc
  ·simp at hc
 ·obtain⟨s,rfl,hs⟩:=Gy hv hc;simp only [lX,hs];exact .str s
 ·split at hc
  ·split at hc
   ·rename_i ht;subst ht;simp only [aJf] at hc;subst hc;exact hv
   ·simp at hc
  ·simp only [aJf] at hc;subst hc;simp only [VR] at hv;subst hv;simp only [lX,SE.den,aF];exact .nil _
  ·split at hc
   ·rename_i ht;subst ht;simp only [aJf] at hc;subst hc;simp only [VR] at hv;exact hv.2
   ·simp at hc
  ·split at hc
   ·simp only [aJf] at hc;subst hc;simp only [VR] at hv;obtain⟨_,a,cap,rfl,_⟩:=hv;simp only [lX,SE.den,aF];exact .non _ _ _
   ·simp at hc
  ·simp at hc
theorem Iq {ρ:Nat->Int}: ∀{cs:List CK} {vs:List AV} {x:SE},codeCells cs vs=some x->Xr cs (dec (x.den ρ))
 |[],[],x,h=>by
  simp only [codeCells,aJf] at h;subst h;refine⟨?_,?_,?_⟩
  ·simp only [SE.den,aF]; rfl
  ·simp only [SE.den,aF]; rfl
  ·intro j c y hj; simp at hj
 |[],_::_,x,h=>by simp [codeCells] at h
 |_::_,[],x,h=>by simp [codeCells] at h
 |c::cs,v::vs,x,h=>by
  simp only [codeCells] at h;split at h
  ·simp at h
  ·rename_i a ha;split at h
   ·simp at h
   ·rename_i b hb;simp only [aJf] at h;subst h;obtain⟨h1,h2,h3⟩:=Iq (ρ:=ρ) hb;refine⟨?_,?_,?_⟩
    ·simp only [iG,SE.den,iY.den,aF,D.l,dL];rw [<- h1]
    ·simp only [iG,SE.den,iY.den,aF,D.l,aJr,h2]
    ·intro j c' y hj hy;simp only [iG,SE.den,iY.den,aF,D.l] at hy
     cases j with
     |zero=> simp only [aJn,aJf] at hj hy;subst hj hy;exact vV ha
     |succ j=>exact h3 j c' y (by simpa using hj) (by simpa using hy)
theorem Ir {h:Array Obj}: ∀{cs:List CK} {vs:List AV} {us:List Value} {x:SE},bP E h vs us->codeCells cs vs=some x->dO E.ro h cs 0 (dec (x.den E.ρ)) us
 |[],[],us,x,hv,hc=>by simp only [bP] at hv; subst hv; simp [dO]
 |[],_::_,_,x,_,hc=>by simp [codeCells] at hc
 |_::_,[],_,x,_,hc=>by simp [codeCells] at hc
 |c::cs,v::vs,us,x,hv,hc=>by
  simp only [codeCells] at hc;rw [bG] at hv;obtain⟨u,us',rfl,h1,h2⟩:=hv;split at hc
  ·simp at hc
  ·rename_i a ha;split at hc
   ·simp at hc
   ·rename_i b hb;simp only [aJf] at hc;subst hc;simp only [dO,iG,SE.den,iY.den,aF];refine⟨u,us',rfl,by rw [Hw]; exact qV h1 ha,?_⟩;rw [dO.shift];exact Ir h2 hb
theorem Bq {ρ:Nat->Int} {r:Row} {cs:List AV} {x:SE} (h:codeRow r cs=some x):xX r (dec (x.den ρ)):=by
 unfold codeRow at h;split at h
 ·split at h
  ·exact vV h
  ·simp at h
 ·exact Iq h
theorem Bv {h:Array Obj} {r:Row} {cs:List AV} {us:List Value} {x:SE} (hv:bP E h cs us) (hc:codeRow r cs=some x):EN E.ro h r (dec (x.den E.ρ)) us:=by
 unfold codeRow at hc;split at hc
 ·split at hc
  ·rw [bG] at hv;obtain⟨u,us',rfl,h1,h2⟩:=hv;rw [lJ] at h2;subst h2;exact⟨u,rfl,qV h1 hc⟩
  ·simp at hc
 ·exact Ir hv hc
theorem Dt {ρ:Nat->Int} {r:Row}: ∀(m:Nat) {e e1:SE} {news:List AV},uK r e m news=some e1->
 ∃ds:List D,ds.length=m/\(dec (e1.den ρ)).l=(dec (e.den ρ)).l++ds/\(dec (e.den ρ)=dL (dec (e.den ρ)).l->dec (e1.den ρ)=dL (dec (e1.den ρ)).l)/\(∀d∈ds,xX r d)/\
  ∀(E':En) (h:Array Obj) (us:List Value) (j:Nat),E'.ρ=ρ->bP E' h news us->bP E' h (aO ρ r [] ds j) us
 |0,e,e1,[],h=>by simp only [uK,aJf] at h;subst h;exact⟨[],rfl,by simp,id,by simp,fun E' h us j _ hv=>by simpa [aO] using hv⟩
 |0,e,e1,_::_,h=>by simp [uK] at h
 |m+1,e,e1,news,h=>by
  simp only [uK] at h;split at h
  ·simp at h
  ·rename_i x hx;obtain⟨ds,h1,h2,h3,h4,h5⟩:=Dt (ρ:=ρ) m h;have hs:dec ((SE.op .snoc e x).den ρ)=dL ((dec (e.den ρ)).l++ [dec (x.den ρ)]):=by simp only [SE.den,iY.den,aF]
   refine⟨dec (x.den ρ)::ds,by simp [h1],?_,fun _=>h3 (by rw [hs,aW]),?_,?_⟩
   ·rw [h2,hs,aW]; simp
   ·intro d hd;rcases aJq.1 hd with rfl|hd
    ·exact Bq hx
    ·exact h4 d hd
   ·intro E' h us j hρ hv;rw [<- aKp r.es news] at hv;obtain⟨a,b,rfl,a1,a2⟩:=hv.split;simp only [aO,dR];refine bP.append ?_ (h5 E' h b (j+1) hρ a2);rw [iI];simp only [SE.den,aF];have:=Bv a1 hx;rw [hρ] at this;exact this
theorem aeG {h:Array Obj} {id:Nat} {e:SE} {t:Nat} {ty:TypeId} {ro:Nat->Prop} (hro: ∀b,E.ro b->ro b) (hb:ro (E.θ id).1) (ho:OR E h id (.vec e t ty [])) {k cap:Nat} {a:Addr} (hk:k=(dec (e.den E.ρ)).l.length) (hcap:k<=cap)
 (hc:0<k->a=⟨(E.θ id).1,(E.θ id).2,none⟩):Rd ro h (.sl t) (dec (e.den E.ρ)) (.slice (some a) k cap):=by
 obtain⟨⟨hov,hwf⟩,hcl⟩:=OR.zO.1 ho;obtain⟨us,h1,h2,h3⟩:=EZ hcl;obtain⟨w1,w2,w3⟩:=hwf;rcases aKy k with h0|hpos
 ·subst h0;exact absurd (aJV hk.symm) w3
 ·have ha:a=⟨(E.θ id).1,(E.θ id).2,none⟩:=hc hpos;subst ha;subst hk
  have hrow: ∀(i:Nat) (x:D),(dec (e.den E.ρ)).l[i]?=some x->∃rs,EN ro h (rowOf t) x rs/\∀j u,rs[j]?=some u->us[i*(rowOf t).es+j]?=some u:=by
   intro i x hx;obtain⟨c1,c2⟩:=mD (ρ:=E.ρ) hov (j:=0) hx;unfold dN at h1;rw [c1] at h1;obtain⟨p,q,rfl,p1,p2⟩:=h1.split;obtain⟨q1,q2,rfl,r1,r2⟩:=p2.split;have hp:=p1.length;rw [c2] at hp;refine⟨q1,?_,?_⟩
   ·have r1':bP E h (jS (rowOf t) (.dat x)) q1:=r1;rw [iI] at r1';simp only [SE.den,aF] at r1'
    have mono: ∀c d u,lX E.ro h c d u->lX ro h c d u:=by
     intro c d u hh
     cases c with
     |int k=>exact hh
     |bool=>exact hh
     |str=>exact Rd.keep hro (fun _ _=>rfl) hh
     |sl t=>exact Rd.keep hro (fun _ _=>rfl) hh
    have aGr: ∀(cs:List CK) (j:Nat) (d:D) (us:List Value),dO E.ro h cs j d us->dO ro h cs j d us:=by
     intro cs
     induction cs with
     |nil=>intro j d us hh; exact hh
     |cons c cs ih=> intro j d us hh;obtain⟨u,vs,rfl,g1,g2⟩:=hh;exact⟨u,vs,rfl,mono _ _ _ g1,ih _ _ _ g2⟩
    cases hr:rowOf t with
    |one c=> rw [hr] at r1';obtain⟨u,rfl,g1⟩:=r1';exact⟨u,rfl,mono _ _ _ g1⟩
    |many cs=> rw [hr] at r1';exact aGr _ _ _ _ r1'
   ·intro j u hj;rw [aLe (by omega),hp];rw [show i*(rowOf t).es+j-i*(rowOf t).es=j by omega];have:=(aJC.1 hj).1;rw [aLB this];exact hj
  rw [w1];simp only [aW] at hrow ⊢;generalize hL:(dec (e.den E.ρ)).l=L at *
  cases hr:rowOf t with
  |one c=>
   refine .one t c _ _ cap L (fun i=>(us[i]?).getD undef) hr hcap hb ?_ ?_
   ·intro i d hd;obtain⟨rs,g1,g2⟩:=hrow i d hd;rw [hr] at g1;obtain⟨u,rfl,g3⟩:=g1;have:=g2 0 u rfl;rw [hr] at this;simp only [Row.es,aKT,aJG] at this;rw [this];exact h2 i u this
   ·intro i d hd;obtain⟨rs,g1,g2⟩:=hrow i d hd;rw [hr] at g1;obtain⟨u,rfl,g3⟩:=g1;have:=g2 0 u rfl;rw [hr] at this;simp only [Row.es,aKT,aJG] at this;rw [this];have hw:=w2 d (aJL hd);rw [hr] at hw;exact g3.rd hw
  |many cs=>
   have hwr: ∀d∈L,Xr cs d:=by intro d hd;have:=w2 d hd;rw [hr] at this;exact this
   have hLm:L=(L.map D.l).map dL:=by rw [aKD];have:L.map (dL ∘ D.l)=L.map (fun d=>d):=aKL fun d hd=>(hwr d hd).1.symm;rw [this,List.map_id']
   have hlen:(L.map D.l).length=L.length:=by simp
   have hcap':(L.map D.l).length<=cap:=by rw [hlen]; exact hcap
   have goal:Rd ro h (.sl t) (dL ((L.map D.l).map dL)) (.slice (some ⟨(E.θ id).1,(E.θ id).2,none⟩) (L.map D.l).length cap):=by
    refine .many t cs _ _ cap (L.map D.l) (fun i j=>(us[i*cs.length+j]?).getD undef) hr hcap' hb ?_ ?_ ?_
    ·intro r hrm;rw [aJE] at hrm;obtain⟨d,hd,rfl⟩:=hrm;exact (hwr d hd).2.1
    ·intro i r j d hi hj;rw [aJF,aJA] at hi;obtain⟨x,hx,rfl⟩:=hi;obtain⟨rs,g1,g2⟩:=hrow i x hx;rw [hr] at g1;have hjl:j<cs.length:=by rw [<- (hwr x (aJL hx)).2.1]; exact (aJC.1 hj).1
     obtain⟨u,g3,g4⟩:=dO.get g1 (aJu hjl);have:=g2 j u g3;rw [hr] at this;simp only [Row.es] at this;rw [this,aJP];exact h2 _ u this
    ·intro i r j d c hi hj hcj;rw [aJF,aJA] at hi;obtain⟨x,hx,rfl⟩:=hi;obtain⟨rs,g1,g2⟩:=hrow i x hx;rw [hr] at g1;obtain⟨u,g3,g4⟩:=dO.get g1 hcj;have:=g2 j u g3;rw [hr] at this;simp only [Row.es] at this;rw [this];rw [aJp] at g4;have hd:x.hd j=d:=by simp [D.hd,hj]
     rw [hd] at g4;exact g4.rd ((hwr x (aJL hx)).2.2 j c d hcj hj)
   rw [<- hLm,hlen] at goal;exact goal
theorem amS {h:Array Obj} {id:Nat} {e:SE} {t:Nat} {ty:TypeId} {ro:Nat->Prop} (hro: ∀b,E.ro b->ro b) (hb:ro (E.θ id).1) (ho:OR E h id (.vec e t ty [])) {k cap:Nat} {a:Addr} (hk:k=(dec (e.den E.ρ)).l.length) (hcap:k<=cap)
 (hc:gJ E id 0 k a cap (.rest (rowOf t).es)):Rd ro h (.sl t) (dec (e.den E.ρ)) (.slice (some a) k cap):=by
 refine aeG hro hb ho hk hcap fun hpos=>?_;simp only [gJ] at hc;rcases hc with hc|hc
 ·simpa using hc.1
 ·omega
structure Sub (H' H:Hp):Prop where
 get: ∀j o,H'.get j=some o->H.get j=some o
 next:H'.next=H.next
 res:H'.res=H.res
theorem Sub.refl (H:Hp):Sub H H:=⟨fun _ _ h=>h,rfl,rfl⟩
theorem Sub.trans {A B C:Hp} (a:Sub B A) (b:Sub C B):Sub C A:=⟨fun j o h=>a.get j o (b.get j o h),b.next.trans a.next,b.res.trans a.res⟩
theorem Sub.drop (H:Hp) (id:Nat):Sub (H.drop id) H:=by
 refine⟨fun j o hj=>?_,rfl,rfl⟩;rw [Hp.zH] at hj;split at hj
 ·simp at hj
 ·exact hj
theorem Xa [Glob] {H:Hp} (r:bJ E H w) {id:Nat} {o:dW} (hl:H.get id=some o) :
 Keeps E w.heap { E with ro:=fun b=>E.ro b\/b=(E.θ id).1 } w.heap/\Stp E H w { E with ro:=fun b=>E.ro b\/b=(E.θ id).1 } (H.drop id) w/\bJ { E with ro:=fun b=>E.ro b\/b=(E.θ id).1 } (H.drop id) w:=by
 have hk:Keeps E w.heap { E with ro:=fun b=>E.ro b\/b=(E.θ id).1 } w.heap:=⟨rfl,fun _ h=>h,fun _ _=>rfl,fun _ _=>rfl,fun _ h=> .inl h,fun _ _=>rfl⟩
 have hg: ∀j o,(H.drop id).get j=some o->H.get j=some o/\j≠id:=by
  intro j o hj;rw [Hp.zH] at hj;split at hj
  ·simp at hj
  ·rename_i hne; exact⟨hj,hne⟩
 refine⟨hk,⟨rfl,fun _ h=>h,fun _ _=>rfl,fun _ _=>rfl,fun _ h=> .inl h,?_,aJi _,.inr rfl,fun _ h=> .inl h,rfl,rfl,rfl,aJi _,fun _ _ _=>rfl,fun j o hj _=> ⟨j,o,(hg j o hj).1,rfl⟩⟩,
  ⟨r.fresh,r.res,?_,?_,?_,Glob.keep r.glob (fun _ h=> .inl h) (fun _ _=>rfl)⟩⟩
 ·intro b hb;rcases hb with hb|rfl
  ·exact .inl hb
  ·exact .inr (.inl ⟨id,_,hl,rfl⟩)
 ·intro j o hj;obtain⟨h1,h2⟩:=hg j o hj;obtain⟨g1,g2,g3⟩:=r.live j o h1;refine⟨g1,g2.keep hk g1 rfl,?_⟩;rintro (hb|hb)
  ·exact g3 hb
  ·exact h2 (r.inj j id o _ h1 hl hb)
 ·intro i j x y hi hj he;exact r.inj i j x y (hg i x hi).1 (hg j y hj).1 he
 ·intro b hb;rcases hb with hb|rfl
  ·exact r.CG b hb
  ·exact jV r hl
theorem aEm [Glob] {H H':Hp} (r:bJ E H w) {v v':AV} (h:frz v H=(v',H')) :
 ∃E',E'.ρ=E.ρ/\Stp E H w E' H' w/\bJ E' H' w/\(∀u,VR E w.heap v u->VR E' w.heap v' u)/\Sub H' H:=by
 have same:(v,H)=(v',H')->∃E',E'.ρ=E.ρ/\Stp E H w E' H' w/\bJ E' H' w/\(∀u,VR E w.heap v u->VR E' w.heap v' u)/\Sub H' H:=by intro he;simp only [aJg] at he;obtain⟨rfl,rfl⟩:=he;exact⟨E,rfl,Stp.refl _ _ _,r,fun _ h=>h,Sub.refl _⟩
 unfold frz at h;split at h
 ·rename_i id n t;split at h
  ·rename_i o hl;split at h
   ·rename_i e t' ty ov;split at h
    ·split at h
     ·rename_i ht;split at h
      ·rename_i hn;simp only [aJg] at h;obtain⟨rfl,rfl⟩:=h;have ht:=aJj ht;have hn:=bZ _ _ hn;subst ht hn;have hlive:=r.live id _ hl;obtain⟨hk,s1,r1⟩:=Xa r hl;refine⟨{ E with ro:=fun b=>E.ro b\/b=(E.θ id).1 },rfl,s1,r1,fun u hv=>?_,Sub.drop _ _⟩;simp only [VR] at hv ⊢;obtain⟨hid,k,a,cap,h1,rfl,h2,h3⟩:=hv;rw [dF] at h1;exact amS (fun _ h=> .inl h) (.inr rfl) hlive.2.1 (by omega) h2 h3
      ·exact same h
     ·exact same h
    ·exact same h
   ·exact same h
  ·exact same h
 ·simp only [aJg] at h;obtain⟨rfl,rfl⟩:=h;exact⟨E,rfl,Stp.refl _ _ _,r,fun u hu=>by simp only [VR] at hu ⊢; exact hu.2,Sub.refl _⟩
 ·exact same h
end
section
variable {P:Program} {E:En} {w:World}
theorem Rd.part {ro:Nat->Prop} {h:Array Obj} {t:Nat} {d:D} {b o n cap l k:Nat} (r:Rd ro h (.sl t) d (.slice (some ⟨b,o,none⟩) n cap)) (hl:l<=k) (hk:k<=n) (hn:n<=cap) :
 Rd ro h (.sl t) (fJ d ((d.l.take k).drop l)) (.slice (some (if cap=l then⟨b,o,none⟩ else⟨b,o+l*(rowOf t).es,none⟩)) (k-l) (cap-l)):=by
 by_cases h0:k-l=0
 ·have:(d.l.take k).drop l= []:=by
   apply aLR;rw [aJB];omega
  have hd:d≠.i 1:=by intro q;obtain⟨_,q2,_⟩:=TD r;have:=q2 q;simp at this
  rw [this,h0];simp only [fJ];rw [aJd hd];exact .non _ _ _
 ·rw [aJd (by omega)]
  have hne:(d.l.take k).drop l≠[]:=by intro q;have:=congrArg List.length q;obtain⟨x,cap',hv,_⟩:=r.slice;simp only [Value.slice.injEq] at hv;rw [aJQ,aJB] at this;simp at this;omega
  rw [zM hne];generalize hc:CK.sl t=c at r;generalize hv:Value.slice (some ⟨b,o,none⟩) n cap=v at r
  cases r with
  |int k n=>simp at hc
  |bool b=>simp at hc
  |str s=>simp at hc
  |nil t=>simp at hv
  |non t a cap=> simp only [Value.slice.injEq] at hv;omega
  |one t' c b' o' cap' ds f hr hcp hb h1 h2=>
   simp only [CK.sl.injEq] at hc;subst hc;simp only [Value.slice.injEq,aJf,Addr.mk.injEq] at hv;obtain⟨⟨rfl,rfl,_⟩,rfl,rfl⟩:=hv;rw [aW];have hlen:((ds.take k).drop l).length=k-l:=by rw [aJQ,aJB]; omega
   have hget: ∀i d,((ds.take k).drop l)[i]?=some d->ds[l+i]?=some d:=by
    intro i d hd;rw [aKv,aKk] at hd;split at hd
    ·exact hd
    ·simp at hd
   rw [<- hlen];refine .one t c b (o+l*(rowOf t).es) (cap-l) ((ds.take k).drop l) (fun i=>f (l+i)) hr (by rw [hlen]; omega) hb ?_ ?_
   ·intro i d hd;have:=h1 (l+i) d (hget i d hd);rw [hr,show o+l*(Row.one c).es+i=o+(l+i) by simp only [Row.es]; omega];exact this
   ·intro i d hd;exact h2 (l+i) d (hget i d hd)
  |many t' cs b' o' cap' rows f hr hcp hb hll h1 h2=>
   simp only [CK.sl.injEq] at hc;subst hc;simp only [Value.slice.injEq,aJf,Addr.mk.injEq] at hv;obtain⟨⟨rfl,rfl,_⟩,rfl,rfl⟩:=hv;rw [aW];have hlen:((rows.take k).drop l).length=k-l:=by rw [aJQ,aJB]; omega
   have hget: ∀i d,((rows.take k).drop l)[i]?=some d->rows[l+i]?=some d:=by
    intro i d hd;rw [aKv,aKk] at hd;split at hd
    ·exact hd
    ·simp at hd
   rw [<- hlen,<- aLv,<- aLw];refine .many t cs b (o+l*(rowOf t).es) (cap-l) ((rows.take k).drop l) (fun i=>f (l+i)) hr (by rw [hlen]; omega) hb (fun r hrm=>hll r (aJX (aJT hrm))) ?_ ?_
   ·intro i r j d hi hj;have:=h1 (l+i) r j d (hget i r hi) hj;rw [hr,show o+l*(Row.many cs).es+i*cs.length+j=o+(l+i)*cs.length+j by simp only [Row.es,aJ5]; omega];exact this
   ·intro i r j d c hi hj hcj;exact h2 (l+i) r j d c (hget i r hi) hj hcj
theorem Rd.aGm {ro:Nat->Prop} {h:Array Obj} {t:Nat} {d:D} {x:Option Addr} {n cap l k:Nat} (r:Rd ro h (.sl t) d (.slice x n cap)) (hl:l<=k) (hk:k<=n) (hn:n<=cap) :
 Rd ro h (.sl t) (fJ d ((d.l.take k).drop l)) (.slice (match x with |some a=>some (if cap=l then a else a.add (l*(rowOf t).es))|none=>none) (k-l) (cap-l)):=by
 have hx:(∃b o,x=some ⟨b,o,none⟩)\/(d= .i 1/\x=none/\n=0/\cap=0)\/(d= .i 2/\n=0/\∃a,x=some a):=by
  generalize hc:CK.sl t=c at r;generalize hv:Value.slice x n cap=v at r
  cases r with
  |int k n=>simp at hc
  |bool b=>simp at hc
  |str s=>simp at hc
  |nil t=>simp only [Value.slice.injEq] at hv; exact .inr (.inl ⟨rfl,hv.1,hv.2.1,hv.2.2⟩)
  |non t a cap=>simp only [Value.slice.injEq] at hv; exact .inr (.inr ⟨rfl,hv.2.1,a,hv.1⟩)
  |one t' c b' o' cap' ds f hr hcp hb h1 h2=>simp only [Value.slice.injEq] at hv; exact .inl ⟨_,_,hv.1⟩
  |many t' cs b' o' cap' rows f hr hcp hb hll h1 h2=>simp only [Value.slice.injEq] at hv; exact .inl ⟨_,_,hv.1⟩
 rcases hx with ⟨b,o,rfl⟩|⟨rfl,rfl,rfl,rfl⟩|⟨rfl,rfl,a,rfl⟩
 ·have:=r.part hl hk hn;simp only [gI];exact this
 ·obtain rfl:k=0:=by omega
  obtain rfl:l=0:=by omega
  exact .nil _
 ·obtain rfl:k=0:=by omega
  obtain rfl:l=0:=by omega
  exact .non _ _ _
theorem awH (l:List D):dL l≠.i 1:=by cases l<;>simp [dL]
theorem Rd.empty0 {ro:Nat->Prop} {h:Array Obj} {t:Nat} {d:D} {x:Option Addr} {n cap:Nat} (r:Rd ro h (.sl t) d (.slice x n cap)):Rd ro h (.sl t) (fJ d []) (.slice x 0 0):=by
 generalize hc:CK.sl t=c at r;generalize hv:Value.slice x n cap=v at r
 cases r with
 |int k n=>simp at hc
 |bool b=>simp at hc
 |str s=>simp at hc
 |nil t=> simp only [Value.slice.injEq] at hv;obtain⟨rfl,_,_⟩:=hv;exact .nil _
 |non t a cap=> simp only [Value.slice.injEq] at hv;obtain⟨rfl,_,_⟩:=hv;exact .non _ _ _
 |one t' c b' o' cap' ds f hr hcp hb h1 h2=> simp only [Value.slice.injEq] at hv;obtain⟨rfl,_,_⟩:=hv;rw [vU (awH _)];exact .non _ _ _
 |many t' cs b' o' cap' rows f hr hcp hb hll h1 h2=> simp only [Value.slice.injEq] at hv;obtain⟨rfl,_,_⟩:=hv;rw [vU (awH _)];exact .non _ _ _
theorem acX [Glob] {tt:TT} (htt:eY P tt) {s s':St} (hp:bM E.ρ s.pc) {ty t:Nat} {e:SE} {lo hi mx:Option AV} {lo' hi' mx':Option Value} {v:AV} {u:Value} (hx:VR E w.heap (.dat e t) u)
 (hlo:jK E w.heap lo lo') (hhi:jK E w.heap hi hi') (hmx:jK E w.heap mx mx') (h:(WL tt s ty t e lo hi mx).leaf E.ρ=some (v,s')) :
 s'.slots=s.slots/\s'.h=s.h/\bM E.ρ s'.pc/\∃r,(Instr.sliceAt ty u lo' hi' mx').run P w= .ok r w/\VR E w.heap v r:=by
 unfold WL at h;split at h
 ·rename_i m;split at h
  ·rename_i hm;split at h
   ·simp [T.leaf] at h
   ·rename_i z hz;split at h
    ·split at h
     ·rename_i hv;split at h
      ·rename_i hh;have:=aH h;simp only [aJg] at this;obtain⟨rfl,rfl⟩:=this;refine⟨rfl,rfl,hp,?_⟩;obtain⟨el,ie,hu,hie,rfl⟩:=sK htt hz;have hsz:=eF (htt el ie hie);simp only [VR] at hx;obtain⟨x,cap,rfl,hcap⟩:=hx.slice
       have zb: ∀(a:AV),LD a=true->∀d y,bnd (some a) d y=some 0:=by
        intro a ha d y;unfold LD at ha;unfold bnd;split at ha
        ·rename_i n hn;have:=Ed ha;subst this;simp only [hn];rw [aJe (aKl y)]
        ·simp at ha
       obtain⟨e1,e2⟩:=iO (P:=P) (w:=w) (isSlice:=true) (len:=(dec (e.den E.ρ)).l.length) (cap:=cap) (m0:=cap) (d:=0) (m:=0) (h0:=0) (h:=0) (l:=0) hlo hhi hmx (fun _=>rfl) (.inr ⟨m,rfl,zb m hm _ _,aJi _⟩) (zb hv hh _ _) ⟨fun q=>by simp at q,fun _=>rfl⟩ (by simp [bnd]);refine⟨.slice x 0 0,?_,?_⟩
       rotate_left
       ·simp only [VR];refine⟨⟨x,rfl⟩,?_⟩;simp only [SE.den,iY.den,aF];exact hx.empty0
       cases x with
       |none=>simp [Instr.sliceAt,run_underlying hu,Instr.slice,e1,hsz]
       |some a=>simp [Instr.sliceAt,run_underlying hu,Instr.slice,e1,hsz]
      ·simp [T.leaf] at h
     ·simp [T.leaf] at h
    ·simp [T.leaf] at h
  ·simp [T.leaf] at h
 ·simp only [jK] at hmx;subst hmx;split at h
  ·simp [T.leaf] at h
  ·rename_i z hz;split at h
   ·rename_i hes;obtain⟨el,ie,hu,hie,rfl⟩:=sK htt hz;have hsz:=eF (htt el ie hie);simp only [VR] at hx;obtain⟨x,cap,rfl,hcap⟩:=hx.slice
    have fin: ∀(l k:Nat) (e':SE) (lo2 hi2:Option AV),jK E w.heap lo2 lo'->jK E w.heap hi2 hi'->bnd hi2 (dec (e.den E.ρ)).l.length (dec (e.den E.ρ)).l.length=some k->bnd lo2 0 k=some l->dec (e'.den E.ρ)=fJ (dec (e.den E.ρ)) (((dec (e.den E.ρ)).l.take k).drop l)->
     ∃r,(Instr.sliceAt ty (.slice x (dec (e.den E.ρ)).l.length cap) lo' hi' none).run P w= .ok r w/\VR E w.heap (.dat e' t) r:=by
     intro l k e' lo2 hi2 h1 h2 h3 h4 h5;obtain⟨e1,e2⟩:=iO (P:=P) (w:=w) (isSlice:=true) (len:=(dec (e.den E.ρ)).l.length) (cap:=cap) (m0:=cap) (d:=0) (m:=cap) h1 h2 (mx:=none) (mx':=none) (by simp [jK]) (by simp) (.inl ⟨rfl,rfl,aJi _⟩) h3 ⟨fun _=>hcap,by simp⟩ h4;have hk:=pU h3;have hrd:=hx.aGm e2 hk hcap;refine⟨_,?_,by simp only [VR,h5]; exact hrd⟩
     cases x with
     |none=>simp [Instr.sliceAt,run_underlying hu,Instr.slice,e1,hsz]
     |some a=>simp [Instr.sliceAt,run_underlying hu,Instr.slice,e1,hsz,hes]<;>split<;>rfl
    have lit: ∀(k:IntKind) (n:Nat) (q:SE) (o:Option Value),q.den E.ρ=(n:Int)->jK E w.heap (some (.int k q)) o->jK E w.heap (some (.int k (.lit (Int.ofNat n)))) o:=by intro k n q o hq ho;obtain⟨y,rfl,hy⟩:=ho;refine⟨y,rfl,?_⟩;simp only [VR,SE.den] at hy ⊢;rw [hy,hq];rfl
    have bl: ∀(k:IntKind) (n d y:Nat),n<=y->bnd (some (.int k (.lit (Int.ofNat n)))) d y=some n:=by intro k n d y hn;simp [bnd,oH,hn]
    split at h
    ·
     simp only [jK] at hhi;subst hhi;split at h
     ·rename_i kl ql;obtain⟨pc1,hp1,h1⟩:=dB hp h;split at h1
      ·simp [T.leaf] at h1
      ·rename_i t1;obtain⟨pc2,hp2,h2⟩:=dB (s:={ s with pc:=pc1 }) hp1 h1;split at h2
       ·simp [T.leaf] at h2
       ·rename_i t2;have:=aH h2;simp only [aJg] at this;obtain⟨rfl,rfl⟩:=this;rw [dV,decide_eq_false_iff_not] at t1 t2;rw [dF] at t2;simp only [SE.den,aKx] at t1 t2;obtain⟨l,hl⟩ : ∃l:Nat,ql.den E.ρ=(l:Int):=⟨(ql.den E.ρ).toNat,by omega⟩;refine⟨rfl,rfl,hp2,fin l (dec (e.den E.ρ)).l.length _ _ none (lit kl l ql lo' hl hlo) (by simp [jK]) (by simp [bnd]) (bl _ _ _ _ (by omega)) ?_⟩;simp only [SE.den,iY.den,aF,hl,aJJ,aKV]
     ·simp [T.leaf] at h
    ·rename_i kh qh;obtain⟨pc1,hp1,h1⟩:=dB hp h;split at h1
     ·simp [T.leaf] at h1
     ·rename_i t1;rw [dV,decide_eq_false_iff_not,dF] at t1;split at h1
      ·simp only [jK] at hlo;subst hlo;obtain⟨pc2,hp2,h2⟩:=dB (s:={ s with pc:=pc1 }) hp1 h1;split at h2
       ·simp [T.leaf] at h2
       ·rename_i t2;have:=aH h2;simp only [aJg] at this;obtain⟨rfl,rfl⟩:=this;rw [dV,decide_eq_false_iff_not] at t2;simp only [SE.den,aKx] at t2;obtain⟨k,hk⟩ : ∃k:Nat,qh.den E.ρ=(k:Int):=⟨(qh.den E.ρ).toNat,by omega⟩;refine⟨rfl,rfl,hp2,fin 0 k _ none _ (by simp [jK]) (lit kh k qh hi' hk hhi) (bl _ _ _ _ (by omega)) (by simp [bnd]) ?_⟩;simp only [SE.den,iY.den,aF,hk,aJJ,aKf]
      ·rename_i kl ql;obtain⟨pc2,hp2,h2⟩:=dB (s:={ s with pc:=pc1 }) hp1 h1;split at h2
       ·simp [T.leaf] at h2
       ·rename_i t2;obtain⟨pc3,hp3,h3⟩:=dB (s:={ s with pc:=pc2 }) hp2 h2;split at h3
        ·simp [T.leaf] at h3
        ·rename_i t3;have:=aH h3;simp only [aJg] at this;obtain⟨rfl,rfl⟩:=this;rw [dV,decide_eq_false_iff_not] at t2 t3;simp only [SE.den,aKx] at t2 t3;obtain⟨l,hl⟩ : ∃l:Nat,ql.den E.ρ=(l:Int):=⟨(ql.den E.ρ).toNat,by omega⟩;obtain⟨k,hk⟩ : ∃k:Nat,qh.den E.ρ=(k:Int):=⟨(qh.den E.ρ).toNat,by omega⟩;refine⟨rfl,rfl,hp3,fin l k _ _ _ (lit kl l ql lo' hl hlo) (lit kh k qh hi' hk hhi) (bl _ _ _ _ (by omega)) (bl _ _ _ _ (by omega)) ?_⟩;simp only [SE.den,iY.den,aF,hl,hk,aJJ,jC];exact F5 fun q=>by rw [q]; simp [D.l]
      ·simp [T.leaf] at h1
    ·simp [T.leaf] at h
   ·simp [T.leaf] at h
end
theorem OM {e:SE} (h:isZ e=true):e= .lit 0:=by
 unfold isZ at h;split at h
 ·rw [Ed h]
 ·simp at h
theorem vX (ρ:Nat->Int) (a b:SE):(zX a b).den ρ=a.den ρ+b.den ρ:=by
 unfold zX;split
 ·rename_i h;rw [OM h];simp only [SE.den,Int.zero_add]
 ·rfl
theorem ajG (ρ:Nat->Int) (a b:SE):(ND a b).den ρ=a.den ρ-b.den ρ:=by
 unfold ND;split
 ·rename_i h;rw [OM h];simp only [SE.den,Int.sub_zero]
 ·rfl
theorem Ol {ρ:Nat->Int} {e lo n:SE} {l k:Nat} (hl:lo.den ρ=(l:Int)) (hn:n.den ρ=(k:Int)) :
 dec ((VK e lo n).den ρ)=fJ (dec (e.den ρ)) (((dec (e.den ρ)).l.take (l+k)).drop l):=by
 unfold VK;split
 ·rename_i h;have h:=OM h;subst h;simp only [SE.den] at hl;have:l=0:=by omega
  subst this;simp only [SE.den,iY.den,aF,hn,aJJ,aJp,aKf]
 ·have h2:((l:Int)+(k:Int)).toNat=l+k:=by omega
  simp only [SE.den,iY.den,aF,hl,hn,h2,aJJ,jC];exact F5 fun h=>by rw [h]; simp [D.l]
theorem Jj {α:Type} {ρ:Nat->Int} {e lo n:SE} {s:St} {k:St->T α} {x:α} (hp:bM ρ s.pc) (h:(Jk e lo n s k).leaf ρ=some x) :
 ∃pc',bM ρ pc'/\0<=lo.den ρ/\0<=n.den ρ/\lo.den ρ+n.den ρ<=((dec (e.den ρ)).l.length:Int)/\(k { s with pc:=pc' }).leaf ρ=some x:=by
 unfold Jk at h;obtain⟨pc1,hp1,h1⟩:=dB hp h;split at h1
 ·simp [T.leaf] at h1
 ·rename_i hb1;obtain⟨pc2,hp2,h2⟩:=dB (s:={ s with pc:=pc1 }) hp1 h1;split at h2
  ·simp [T.leaf] at h2
  ·rename_i hb2;obtain⟨pc3,hp3,h3⟩:=dB (s:={ s with pc:=pc2 }) hp2 h2;split at h3
   ·simp [T.leaf] at h3
   ·rename_i hb3;rw [dV,decide_eq_false_iff_not] at hb1 hb2 hb3;rw [dF,vX] at hb3;simp only [SE.den] at hb1 hb2;exact⟨pc3,hp3,by omega,by omega,by omega,h3⟩
theorem Ac {h:Hp} {id t:Nat} {e:SE} {ty:TypeId} (hv:RJ h id t=some (e,ty)):h.get id=some (.vec e t ty []):=by
 unfold RJ at hv;split at hv
 ·rename_i o ho;split at hv
  ·split at hv
   ·split at hv
    ·rename_i ht;have ht:=aJj ht;simp only [aJf,aJg] at hv;obtain⟨rfl,rfl⟩:=hv;rw [ho,ht]
    ·simp at hv
   ·simp at hv
  ·simp at hv
 ·simp at hv
theorem Rd.aGf {ro:Nat->Prop} {h:Array Obj} {t:Nat} {d:D} {a:Addr} {n cap cap':Nat} (r:Rd ro h (.sl t) d (.slice (some a) n cap)) (hc:n<=cap'):Rd ro h (.sl t) d (.slice (some a) n cap'):=by
 generalize hk:CK.sl t=c at r;generalize hv:Value.slice (some a) n cap=v at r
 cases r with
 |int k n=>simp at hk
 |bool b=>simp at hk
 |str s=>simp at hk
 |nil t=>simp at hv
 |non t a cap=> simp only [CK.sl.injEq] at hk;simp only [Value.slice.injEq,aJf] at hv;obtain⟨rfl,rfl,rfl⟩:=hv;subst hk;exact .non _ _ _
 |one t' c b' o' cap' ds f hr hcp hb h1 h2=> simp only [CK.sl.injEq] at hk;simp only [Value.slice.injEq,aJf] at hv;obtain⟨rfl,rfl,rfl⟩:=hv;subst hk;exact .one _ _ _ _ _ _ _ hr hc hb h1 h2
 |many t' cs b' o' cap' rows f hr hcp hb hll h1 h2=> simp only [CK.sl.injEq] at hk;simp only [Value.slice.injEq,aJf] at hv;obtain⟨rfl,rfl,rfl⟩:=hv;subst hk;exact .many _ _ _ _ _ _ _ hr hc hb hll h1 h2
section
variable {P:Program} {E:En} {w:World}
theorem amT {h:Array Obj} {id:Nat} {e:SE} {t:Nat} {ty:TypeId} {ro:Nat->Prop} (hro: ∀b,E.ro b->ro b) (hb:ro (E.θ id).1) (ho:OR E h id (.vec e t ty [])) {l k cap:Nat} {a:Addr} (hk:l+k<=(dec (e.den E.ρ)).l.length) (hcap:k<=cap)
 (hc:gJ E id (l*(rowOf t).es) k a cap (.rest (rowOf t).es)):Rd ro h (.sl t) (fJ (dec (e.den E.ρ)) (((dec (e.den E.ρ)).l.take (l+k)).drop l)) (.slice (some a) k cap):=by
 have hw:=(OR.zO.1 ho).1.2
 have hne:dec (e.den E.ρ)≠.i 1:=by intro q;have:=hw.2.2;rw [q] at this;exact this rfl
 rcases aKy k with h0|hpos
 ·subst h0
  have:((dec (e.den E.ρ)).l.take (l+0)).drop l= []:=by apply aLR;rw [aJB];omega
  rw [this,vU hne];exact .non _ _ _
 ·simp only [gJ] at hc
  obtain⟨rfl,_⟩ : a=⟨(E.θ id).1,(E.θ id).2+l*(rowOf t).es,none⟩/\l*(rowOf t).es+cap*(rowOf t).es=E.κ id:=by
   rcases hc with hc|hc
   ·exact hc
   ·omega
  have r0:=aeG hro hb ho (k:=(dec (e.den E.ρ)).l.length) (cap:=(dec (e.den E.ρ)).l.length+l+1) (a:=⟨(E.θ id).1,(E.θ id).2,none⟩) rfl (by omega) (fun _=>rfl);have r1:=r0.part (l:=l) (k:=l+k) (by omega) hk (by omega);rw [aJd (by omega),show l+k-l=k by omega] at r1;exact r1.aGf hcap
structure ZI [Glob] (E:En) (w:World) (H:Hp) (E':En) (H':Hp):Prop where
 ρ:E'.ρ=E.ρ
 dX:Stp E H w E' H' w
 rel:bJ E' H' w
 sub:Sub H' H
theorem ZI.refl [Glob] {H:Hp} (r:bJ E H w):ZI E w H E H:=⟨rfl,Stp.refl _ _ _,r,Sub.refl _⟩
theorem ZI.trans [Glob] {E1 E2:En} {H H1 H2:Hp} (a:ZI E w H E1 H1) (b:ZI E1 w H1 E2 H2):ZI E w H E2 H2:=
 ⟨b.ρ.trans a.ρ,a.dX.trans b.dX,b.rel,a.sub.trans b.sub⟩
theorem ahM [Glob] {α:Type} {ρ:Nat->Int} {v:AV} {s:St} {k:AV->St->T α} {x:α} (hρ:E.ρ=ρ) (r:bJ E s.h w) (hp:bM ρ s.pc) (h:(akY v s k).leaf ρ=some x) :
 ∃v' h' pc' E',bM ρ pc'/\ZI E w s.h E' h'/\(∀u,VR E w.heap v u->VR E' w.heap v' u)/\(k v' { s with h:=h',pc:=pc' }).leaf ρ=some x:=by
 unfold akY at h;split at h
 ·rename_i id lo n t;split at h
  ·rename_i e ty hv;have hl:=Ac hv;obtain⟨pc',hp',h1,h2,h3,h4⟩:=Jj hp h;obtain⟨hk,s1,r1⟩:=Xa r hl;refine⟨_,_,pc',{ E with ro:=fun b=>E.ro b\/b=(E.θ id).1 },hp',⟨rfl,s1,r1,Sub.drop _ _⟩,fun u hu=>?_,h4⟩;simp only [VR] at hu ⊢;obtain⟨hid,l,m,a,cap,q1,q2,rfl,q4,q5⟩:=hu;rw [Ol q1 q2];rw [hρ] at q1 q2;have hh:=amT (E:=E) (ro:=fun b=>E.ro b\/b=(E.θ id).1) (fun _ h=> .inl h) (.inr rfl) (r.live id _ hl).2.1 (l:=l) (k:=m) (by rw [hρ]; omega) q4 q5;exact hh
  ·exact⟨_,_,s.pc,E,hp,ZI.refl r,fun _ h=>h,h⟩
 ·cases hf:frz v s.h with
  |mk v' h'=> rw [hf] at h;obtain⟨E',q1,q2,q3,q4,q5⟩:=aEm r hf;exact⟨v',h',s.pc,E',hp,⟨q1,q2,q3,q5⟩,q4,h⟩
theorem YL [Glob] {α:Type} {ρ:Nat->Int}: ∀{vs:List AV} {s:St} {E:En} {k:List AV->St->T α} {x:α},E.ρ=ρ->bJ E s.h w->bM ρ s.pc->(Ug vs s k).leaf ρ=some x->
 ∃vs' h' pc' E',bM ρ pc'/\ZI E w s.h E' h'/\(∀us,bP E w.heap vs us->bP E' w.heap vs' us)/\(k vs' { s with h:=h',pc:=pc' }).leaf ρ=some x
 |[],s,E,k,x,hρ,r,hp,h=> ⟨[],s.h,s.pc,E,hp,ZI.refl r,fun _ h=>h,h⟩
 |v::vs,s,E,k,x,hρ,r,hp,h=>by simp only [Ug] at h;obtain⟨v1,h1,pc1,E1,hp1,f1,q1,g1⟩:=ahM hρ r hp h;obtain⟨vs1,h2,pc2,E2,hp2,f2,q2,g2⟩:=YL (s:={ s with h:=h1,pc:=pc1 }) (f1.ρ.trans hρ) f1.rel hp1 g1;refine⟨v1::vs1,h2,pc2,E2,hp2,f1.trans f2,fun us hu=>?_,g2⟩;rw [bG] at hu ⊢;obtain⟨u,us',rfl,a,b⟩:=hu;exact⟨u,us',rfl,VR.keep (f2.dX.keeps f1.rel) _ _ (q1 u a),q2 us' (bP.keep (f1.dX.keeps r) _ _ b)⟩
theorem GX {ρ:Nat->Int} {i:Nat} {j:SE} {cs:List AV}: ∀{pre:List (SE×List AV)},dR ρ i (pre++ [(j,cs)])=match dR ρ i pre with |some c=>some c|none=>if j.den ρ=(i:Int) then some cs else none
 |[]=>rfl
 |(a,b)::pre=>by
  simp only [aJv,dR];split
  ·rfl
  ·exact GX
theorem ayW (ρ:Nat->Int) (e j x:SE):dec ((SE.op .set e (iG (Jc j) x)).den ρ)=dL (dY (dec (e.den ρ)).l (j.den ρ) (dec (x.den ρ))):=by simp only [iG,SE.den,iY.den,aF,qA,D.n]
theorem X3 (ds:List D) (z:Int) (x:D) (n:Nat):(dY ds z x)[n]?=if z=(n:Int)/\n<ds.length then some x else ds[n]?:=by
 unfold dY;split
 ·rw [aJd (by omega)]
 ·rw [aKS];by_cases hz:z=(n:Int)
  ·subst hz;simp only [aJJ,if_true,true_and];split
   ·rfl
   ·rename_i hn;rw [aJ6 (by omega)]
  ·rw [aJd (by omega),aJd (fun q=>hz q.1)]
theorem EX {ρ:Nat->Int} {E1 E2:En} {h:Array Obj} {r:Row} {pre:List (SE×List AV)} {j:SE} {cs:List AV} {X:D} (mono: ∀a us,bP E1 h a us->bP E2 h a us) (hX: ∀us,bP E1 h cs us->EN E2.ro h r X us) :
 ∀{L L':List D} {i:Nat} {us:List Value},L'.length=L.length->(∀n:Nat,L'[n]?=if j.den ρ=((i+n:Nat):Int)/\n<L.length then some X else L[n]?)->
  bP E1 h (aO ρ r (pre++ [(j,cs)]) L i) us->bP E2 h (aO ρ r pre L' i) us
 |[],[],i,us,_,_,hv=>by simp only [aO,bP] at *; exact hv
 |[],_::_,_,_,hl,_,_=>by simp at hl
 |_::_,[],_,_,hl,_,_=>by simp at hl
 |d::L,d'::L',i,us,hl,hg,hv=>by
  simp only [aO] at *;obtain⟨a,b,rfl,a1,a2⟩:=hv.split;have h0:=hg 0;simp only [aJn,aJG,aJr] at h0;refine bP.append ?_ (EX mono hX (by simpa using hl) (fun n=>?_) a2)
  ·rw [GX] at a1
   cases ho:dR ρ i pre with
   |some c=> rw [ho] at a1;exact mono _ _ a1
   |none=>
    rw [ho] at a1;simp only at a1 ⊢;by_cases hj:j.den ρ=(i:Int)
    ·rw [aJe hj] at a1;rw [aJe ⟨hj,by omega⟩] at h0;simp only [aJf] at h0;subst h0;rw [iI];simp only [SE.den,aF];exact hX _ a1
    ·rw [aJd hj] at a1;rw [aJd (fun q=>hj q.1)] at h0;simp only [aJf] at h0;subst h0;exact mono _ _ a1
  ·have:=hg (n+1);simp only [aJk,aJr] at this;rw [this,show i+(n+1)=i+1+n by omega];by_cases hc:j.den ρ=((i+1+n:Nat):Int)/\n<L.length
   ·rw [aJe hc,aJe ⟨hc.1,by omega⟩]
   ·rw [aJd hc,aJd (fun q=>hc ⟨q.1,by omega⟩)]
theorem ayX {r:Row} {ds:List D} {z:Int} {x:D} (h1: ∀d∈ds,xX r d) (h2:xX r x): ∀d∈dY ds z x,xX r d:=by
 intro d hd;obtain⟨n,hn⟩:=aKN.1 hd;rw [X3] at hn;split at hn
 ·simp only [aJf] at hn;subst hn;exact h2
 ·exact h1 d (aJL hn)
theorem ayY {ds:List D} {z:Int} {x:D} (h:ds≠[]):dY ds z x≠[]:=by intro q;have:=congrArg List.length q;rw [dQ] at this;exact h (aJV this)
theorem Yg [Glob] {α:Type} {ρ:Nat->Int} {t:Nat}: ∀{ov:List (SE×List AV)} {e:SE} {s:St} {E:En} {k:SE->St->T α} {x:α} (pre:List (SE×List AV)),E.ρ=ρ->bJ E s.h w->bM ρ s.pc->KU (rowOf t) (dec (e.den ρ))->
 (Tj t ov e s k).leaf ρ=some x->
 ∃e' h' pc' E',bM ρ pc'/\ZI E w s.h E' h'/\KU (rowOf t) (dec (e'.den ρ))/\(dec (e'.den ρ)).l.length=(dec (e.den ρ)).l.length/\
  (∀us,bP E w.heap (aO ρ (rowOf t) (pre++ov) (dec (e.den ρ)).l 0) us->bP E' w.heap (aO ρ (rowOf t) pre (dec (e'.den ρ)).l 0) us)/\(k e' { s with h:=h',pc:=pc' }).leaf ρ=some x
 |[],e,s,E,k,x,pre,hρ,r,hp,hw,h=> ⟨e,s.h,s.pc,E,hp,ZI.refl r,hw,rfl,fun us hu=>by rw [aJ1] at hu; exact hu,h⟩
 |(j,cs)::ov,e,s,E,k,x,pre,hρ,r,hp,hw,h=>by
  simp only [Tj] at h;obtain⟨e1,h1,pc1,E1,hp1,f1,w1,l1,c1,g1⟩:=Yg (pre++ [(j,cs)]) hρ r hp hw h;obtain⟨cs2,h2,pc2,E2,hp2,f2,c2,g2⟩:=YL (s:={ s with h:=h1,pc:=pc1 }) (f1.ρ.trans hρ) f1.rel hp1 g1;split at g2
  ·rename_i y hy;have hρ2:E2.ρ=ρ:=f2.ρ.trans (f1.ρ.trans hρ);have hsd:=ayW ρ e1 j y;refine⟨_,h2,pc2,E2,hp2,f1.trans f2,?_,?_,?_,g2⟩
   ·rw [hsd];exact⟨by rw [aW],by rw [aW]; exact ayX w1.2.1 (Bq hy),by rw [aW]; exact ayY w1.2.2⟩
   ·rw [hsd,aW,dQ,l1]
   ·intro us hu;rw [hsd,aW];have hu1:=c1 us (by rw [aKa]; exact hu);refine EX (j:=j) (cs:=cs) (X:=dec (y.den ρ)) (fun a us ha=>bP.keep (f2.dX.keeps f1.rel) _ _ ha) (fun us hus=>?_) (dQ _ _ _) (fun n=>?_) hu1
    ·have:=Bv (c2 us hus) hy;rw [hρ2] at this;exact this
    ·rw [X3,aJp]
  ·simp [T.leaf] at g2
theorem akE {v:AV} {h:Hp} {id t:Nat} {e:SE} {ov:List (SE×List AV)} (hv:aDM v h=some (id,e,t,ov)): ∃ty,v= .vZ id (fB e) t/\h.get id=some (.vec e t ty ov):=by
 unfold aDM at hv;split at hv
 ·split at hv
  ·rename_i o ho;split at hv
   ·split at hv
    ·simp at hv
    ·split at hv
     ·rename_i ht;split at hv
      ·rename_i hn;have ht:=aJj ht;have hn:=bZ _ _ hn;simp only [aJf,aJg] at hv;obtain⟨rfl,rfl,rfl,rfl⟩:=hv;subst ht hn;exact⟨_,rfl,ho⟩
      ·simp at hv
     ·simp at hv
   ·simp at hv
  ·simp at hv
 ·simp at hv
theorem ahK [Glob] {α:Type} {ρ:Nat->Int} {v:AV} {s:St} {k:AV->St->T α} {x:α} (hρ:E.ρ=ρ) (r:bJ E s.h w) (hp:bM ρ s.pc) (h:(akX v s k).leaf ρ=some x) :
 ∃v' h' pc' E',bM ρ pc'/\ZI E w s.h E' h'/\(∀u,VR E w.heap v u->VR E' w.heap v' u)/\(k v' { s with h:=h',pc:=pc' }).leaf ρ=some x:=by
 unfold akX at h;split at h
 ·rename_i id e t ov hv;obtain⟨ty,rfl,hl⟩:=akE hv;obtain⟨hid,ho,aI6⟩:=r.live id _ hl;have ho':=ho;simp only [OR] at ho';rw [hρ] at ho';obtain⟨⟨hov,hwf⟩,arr,lo,hi,us,q1,q2,q3,q4,q5,q6,q7⟩:=ho';obtain⟨e',h',pc',E',hp',f,w',l',c',g⟩:=Yg [] hρ r hp hwf h;split at g
  ·rename_i o hg;have hg':=f.sub.get _ _ hg;rw [hl] at hg';simp only [aJf] at hg';subst hg';obtain⟨hk,s1,r1⟩:=Xa f.rel hg;have hρ':E'.ρ=ρ:=f.ρ.trans hρ;refine⟨_,_,pc',{ E' with ro:=fun b=>E'.ro b\/b=(E'.θ id).1 },hp',⟨f.ρ,f.dX.trans s1,r1,f.sub.trans (Sub.drop _ _)⟩,fun u hu=>?_,g⟩;simp only [VR] at hu ⊢;obtain⟨_,m,a,cap,p1,rfl,p3,p4⟩:=hu;rw [dF,hρ] at p1;have hθ:=f.dX.θ id hid;have hκ:=f.dX.κ id hid
   have hO:OR E' w.heap id (.vec e' t ty []):=by simp only [OR];rw [hρ',hθ,hκ];have hv':=c' us (by rw [aJo]; exact q2);refine⟨⟨fun p hp=>by simp at hp,w'⟩,arr,lo,hi,us,q1,hv',q3,?_,q5,q6,q7⟩;have e1:=hv'.length;have e2:=q2.length;omega
   have hh:=amS (E:=E') (ro:=fun b=>E'.ro b\/b=(E'.θ id).1) (fun _ h=> .inl h) (.inr rfl) hO (k:=m) (cap:=cap) (a:=a) (by rw [hρ',l']; omega) p3 (by
    simp only [gJ] at p4 ⊢;rw [hθ,hκ]
    exact p4)
   exact hh
  ·simp [T.leaf] at g
 ·exact ahM hρ r hp h
theorem zJ [Glob] {α:Type} {ρ:Nat->Int}: ∀{vs:List AV} {s:St} {E:En} {k:List AV->St->T α} {x:α},E.ρ=ρ->bJ E s.h w->bM ρ s.pc->(HY vs s k).leaf ρ=some x->
 ∃vs' h' pc' E',bM ρ pc'/\ZI E w s.h E' h'/\(∀us,bP E w.heap vs us->bP E' w.heap vs' us)/\(k vs' { s with h:=h',pc:=pc' }).leaf ρ=some x
 |[],s,E,k,x,hρ,r,hp,h=> ⟨[],s.h,s.pc,E,hp,ZI.refl r,fun _ h=>h,h⟩
 |v::vs,s,E,k,x,hρ,r,hp,h=>by simp only [HY] at h;obtain⟨v1,h1,pc1,E1,hp1,f1,q1,g1⟩:=ahK hρ r hp h;obtain⟨vs1,h2,pc2,E2,hp2,f2,q2,g2⟩:=zJ (s:={ s with h:=h1,pc:=pc1 }) (f1.ρ.trans hρ) f1.rel hp1 g1;refine⟨v1::vs1,h2,pc2,E2,hp2,f1.trans f2,fun us hu=>?_,g2⟩;rw [bG] at hu ⊢;obtain⟨u,us',rfl,a,b⟩:=hu;exact⟨u,us',rfl,VR.keep (f2.dX.keeps f1.rel) _ _ (q1 u a),q2 us' (bP.keep (f1.dX.keeps r) _ _ b)⟩
end
section
variable {P:Program} {E:En} {w:World}
theorem pY: ∀{cs vs l:List AV} {o:Nat},splice cs o vs=some l->l.length=cs.length
 |cs,[],l,0,h=>by simp only [splice,aJf] at h; rw [h]
 |[],v::vs,l,0,h=>by simp [splice] at h
 |c::cs,v::vs,l,0,h=>by
  simp only [splice] at h;split at h
  ·rename_i l' hl;simp only [aJf] at h;subst h;simp [pY hl]
  ·simp at h
 |[],vs,l,o+1,h=>by simp [splice] at h
 |c::cs,vs,l,o+1,h=>by
  simp only [splice] at h;split at h
  ·rename_i l' hl;simp only [aJf] at h;subst h;simp [pY hl]
  ·simp at h
theorem tV: ∀{cs vs l:List AV} {o:Nat} (m:List AV),splice cs o vs=some l->splice (cs++m) o vs=some (l++m)
 |cs,[],l,0,m,h=>by simp only [splice,aJf] at h ⊢; rw [h]
 |[],v::vs,l,0,m,h=>by simp [splice] at h
 |c::cs,v::vs,l,0,m,h=>by
  simp only [splice,aJv] at h ⊢;split at h
  ·rename_i l' hl;simp only [aJf] at h;subst h;rw [tV m hl];rfl
  ·simp at h
 |[],vs,l,o+1,m,h=>by simp [splice] at h
 |c::cs,vs,l,o+1,m,h=>by
  simp only [splice,aJv] at h ⊢;split at h
  ·rename_i l' hl;simp only [aJf] at h;subst h;rw [tV m hl];rfl
  ·simp at h
theorem Ah: ∀{cs vs l:List AV} {o:Nat} (p:List AV),splice cs o vs=some l->splice (p++cs) (p.length+o) vs=some (p++l)
 |cs,vs,l,o,[],h=>by simpa using h
 |cs,vs,l,o,x::p,h=>by have:=Ah p h;rw [aJv,aJr,show p.length+1+o=(p.length+o)+1 by omega];simp only [splice,this,aJv]
theorem yO: ∀{cs vs l:List AV} {o:Nat},splice cs o vs=some l->∀j:Nat,l[j]?=if o<=j/\j<o+vs.length then vs[j-o]? else cs[j]?
 |cs,[],l,0,h,j=>by simp only [splice,aJf] at h;rw [h,aJd (by simp)]
 |[],v::vs,l,0,h,j=>by simp [splice] at h
 |c::cs,v::vs,l,0,h,j=>by
  simp only [splice] at h;split at h
  ·rename_i l' hl;simp only [aJf] at h;subst h
   cases j with
   |zero=>simp
   |succ j=>
    have:=yO hl j;simp only [aJk,this,aJr,aKc];by_cases hj:j<vs.length
    ·rw [aJe (by omega),aJe (by omega)]
    ·rw [aJd (by omega),aJd (by omega)]
  ·simp at h
 |[],vs,l,o+1,h,j=>by simp [splice] at h
 |c::cs,vs,l,o+1,h,j=>by
  simp only [splice] at h;split at h
  ·rename_i l' hl;simp only [aJf] at h;subst h
   cases j with
   |zero=>rw [aJd (by omega)]; rfl
   |succ j=>
    have:=yO hl j;simp only [aJk,this];by_cases hj:o<=j/\j<o+vs.length
    ·rw [aJe hj,aJe (by omega),show j+1-(o+1)=j-o by omega]
    ·rw [aJd hj,aJd (by omega)]
  ·simp at h
theorem Iu (x:SE): ∀(cs:List CK) (j k:Nat),(lW cs j x)[k]?=(cs[k]?).map fun c=>BA c (nX (j+k) x)
 |[],j,k=>by simp [lW]
 |c::cs,j,0=>by simp [lW]
 |c::cs,j,k+1=>by simp only [lW,aJk,Iu x cs (j+1) k];rw [show j+1+k=j+(k+1) by omega]
theorem J4 {ρ:Nat->Int} {ks:List CK}: ∀{vs:List AV} {off:Nat} {x x':SE},setCells ks off vs x=some x'->off+vs.length<=(dec (x.den ρ)).l.length->
 (dec (x'.den ρ)).l.length=(dec (x.den ρ)).l.length/\(dec (x.den ρ)=dL (dec (x.den ρ)).l->dec (x'.den ρ)=dL (dec (x'.den ρ)).l)/\
 ∀j,(j<off\/off+vs.length<=j)/\(dec (x'.den ρ)).l[j]?=(dec (x.den ρ)).l[j]?\/∃c v a,off<=j/\vs[j-off]?=some v/\ks[j]?=some c/\sN c v=some a/\(dec (x'.den ρ)).l[j]?=some (dec (a.den ρ))
 |[],off,x,x',h,_=>by simp only [setCells,aJf] at h;subst h;refine⟨rfl,id,fun j=> .inl ⟨?_,rfl⟩⟩;simp only [aJt];omega
 |v::vs,off,x,x',h,hle=>by
  simp only [setCells] at h;split at h
  ·rename_i c hc;split at h
   ·rename_i a ha;simp only [aJr] at hle
    have hs:dec ((SE.op .set x (iG (.dat (.i (Int.ofNat off))) a)).den ρ)=dL ((dec (x.den ρ)).l.set off (dec (a.den ρ))):=by simp only [iG,SE.den,iY.den,aF,D.n];rfl
    obtain⟨h1,h2,h3⟩:=J4 (ρ:=ρ) h (by rw [hs,aW,aKM]; omega);rw [hs,aW,aKM] at h1;rw [hs] at h2 h3;simp only [aW] at h2 h3;rw [dD] at hc;refine⟨h1,fun _=>h2 trivial,fun j=>?_⟩;rcases h3 j with ⟨q1,q2⟩|⟨c',v',a',q1,q2,q3,q4,q5⟩
    ·by_cases hj:j=off
     ·subst hj;refine .inr ⟨c,v,a,aJi _,by simp,hc,ha,?_⟩;rw [q2,aLS (by omega)]
     ·refine .inl ⟨by simp only [aJr]; omega,?_⟩;rw [q2,List.getElem?_set_ne (fun q=>hj q.symm)]
    ·refine .inr ⟨c',v',a',by omega,?_,q3,q4,q5⟩;rw [show j-off=(j-(off+1))+1 by omega,aJk];exact q2
   ·simp at h
  ·simp at h
theorem dO.mk {ro:Nat->Prop} {h:Array Obj} {d:D}: ∀{cs:List CK} {j:Nat} {us:List Value},us.length=cs.length->(∀k c u,cs[k]?=some c->us[k]?=some u->lX ro h c (d.hd (j+k)) u)->dO ro h cs j d us
 |[],j,us,hl,_=>by simp only [dO];exact aJV hl
 |c::cs,j,[],hl,_=>by simp at hl
 |c::cs,j,u::us,hl,hh=>by simp only [dO];refine⟨u,us,rfl,by simpa using hh 0 c u rfl rfl,dO.mk (by simpa using hl) fun k c' u' h1 h2=>?_⟩;have:=hh (k+1) c' u' (by simpa using h1) (by simpa using h2);rw [show j+1+k=j+(k+1) by omega];exact this
theorem adQ {r:Row} {e e' i:SE} {off k:Nat} {vs:List AV} {x:D} (hc:Xg r e i off vs=some e') (hi:i.den E.ρ=(k:Int)) (hx:(dec (e.den E.ρ)).l[k]?=some x) (hwf:xX r x) (hle:off+vs.length<=r.es) :
 ∃x',dec (e'.den E.ρ)=dL ((dec (e.den E.ρ)).l.set k x')/\xX r x'/\∀(h:Array Obj) (us':List Value),us'.length=r.es->(∀j v u,off<=j->vs[j-off]?=some v->us'[j]?=some u->VR E h v u)->
  (∀j a u,(j<off\/off+vs.length<=j)->(jS r (.op .at e i))[j]?=some a->us'[j]?=some u->VR E h a u)->EN E.ro h r x' us':=by
 unfold Xg at hc;split at hc
 ·rename_i c;split at hc
  ·split at hc
   ·rename_i v;split at hc
    ·rename_i a ha;simp only [aJf] at hc;subst hc;refine⟨dec (a.den E.ρ),?_,vV ha,?_⟩
     ·simp only [iG,SE.den,iY.den,aF,qA,D.n,hi,yQ]
     ·intro h us' h1 h2 _
      cases us' with
      |nil=>simp [Row.es] at h1
      |cons y ys=>
       have:ys= []:=by
        cases ys with
        |nil=>rfl
        |cons z zs=>simp [Row.es] at h1
       subst this;exact⟨y,rfl,qV (h2 0 v y (aJi _) rfl rfl) ha⟩
    ·simp at hc
   ·simp at hc
  ·simp at hc
 ·rename_i ks;split at hc
  ·rename_i x' hx';simp only [aJf] at hc;subst hc;have hat:=JJ E.ρ e i hi hx;obtain⟨w1,w2,w3⟩:=hwf;obtain⟨g1,g2,g3⟩:=J4 (ρ:=E.ρ) hx' (by rw [hat,w2]; exact hle);rw [hat] at g1 g2 g3;refine⟨dec (x'.den E.ρ),?_,⟨g2 w1,by rw [g1,w2],?_⟩,?_⟩
   ·simp only [iG,SE.den,iY.den,aF,qA,D.n,hi,yQ]
   ·intro j c y hj hy;rcases g3 j with ⟨_,q2⟩|⟨c',v',a',_,_,q3,q4,q5⟩
    ·exact w3 j c y hj (by rw [<- q2]; exact hy)
    ·rw [q5] at hy;rw [hj] at q3;simp only [aJf] at hy q3;subst hy q3;exact vV q4
   ·intro h us' h1 h2 h3;show dO E.ro h ks 0 (dec (x'.den E.ρ)) us';refine dO.mk h1 fun j c u hj hu=>?_;rw [aJp];rcases g3 j with ⟨q1,q2⟩|⟨c',v',a',q1,q2,q3,q4,q5⟩
    ·have p2:=h3 j (BA c (nX j (.op .at e i))) u q1 (by simp only [jS,Iu,hj,aJU,aJp]) hu;rw [vW,Aj,hat] at p2;have:(dec (x'.den E.ρ)).hd j=x.hd j:=by simp only [D.hd,q2]
     rw [this];exact p2
    ·rw [hj] at q3;simp only [aJf] at q3;subst q3;have:(dec (x'.den E.ρ)).hd j=dec (a'.den E.ρ):=by simp only [D.hd,q5,aJl]
     rw [this];exact qV (h2 j v' u q1 q2 hu) q4
  ·simp at hc
theorem oJ {ρ:Nat->Int} {r:Row} {ov xA:List (SE×List AV)}: ∀(ds:List D) (i:Nat),(∀j,i<=j->j<i+ds.length->dR ρ j ov=dR ρ j xA)->aO ρ r ov ds i=aO ρ r xA ds i
 |[],_,_=>rfl
 |d::ds,i,h=>by simp only [aO];rw [h i (aJi _) (by simp),oJ ds (i+1) fun j h1 h2=>h j (by omega) (by simp only [aJr]; omega)]
theorem Og {ρ:Nat->Int} {pc:List (SB×Bool)} (hp:bM ρ pc) {i:SE} {k:Nat} (hi:i.den ρ=(k:Int)) {cs':List AV} {r:Row} (hcs:cs'.length=r.es): ∀{ov xA:List (SE×List AV)},S9 pc i cs' ov=some xA->GY r ov->
 GY r xA/\dR ρ k xA=some cs'/\∀j:Nat,j≠k->dR ρ j xA=dR ρ j ov
 |[],xA,h,_=>by simp [S9] at h
 |(j,c)::l,xA,h,ho=>by
  simp only [S9] at h;split at h
  ·rename_i he;have he:=bZ _ _ he;subst he;simp only [aJf] at h;subst h;refine⟨?_,by simp [dR,hi],?_⟩
   ·intro p hp';rcases aJq.1 hp' with rfl|hp'
    ·exact hcs
    ·exact ho p (by simp [hp'])
   ·intro m hm;simp only [dR,hi];rw [aJd (by omega),aJd (by omega)]
  ·split at h
   ·rename_i b hd;split at h
    ·have hd:=jP hp hd;rw [mZ,beq_iff_eq,hi] at hd;simp only [aJf] at h;subst h;refine⟨?_,by simp [dR,hd],?_⟩
     ·intro p hp';rcases aJq.1 hp' with rfl|hp'
      ·exact hcs
      ·exact ho p (by simp [hp'])
     ·intro m hm;simp only [dR,<- hd];rw [aJd (by omega),aJd (by omega)]
    split at h
    ·rename_i l' hl;simp only [aJf] at h;subst h;have hd:=jP hp hd;rw [mZ,beq_eq_false_iff_ne,hi] at hd;obtain⟨g1,g2,g3⟩:=Og hp hi hcs hl fun p hp'=>ho p (by simp [hp']);refine⟨?_,?_,?_⟩
     ·intro p hp';rcases aJq.1 hp' with rfl|hp'
      ·exact ho _ (by simp)
      ·exact g1 p hp'
     ·simp only [dR];rw [aJd (fun q=>hd q.symm)];exact g2
     ·intro m hm;simp only [dR];split
      ·rfl
      ·exact g3 m hm
    ·simp at h
   ·simp at h
theorem UW {ρ:Nat->Int} {pc:List (SB×Bool)} (hp:bM ρ pc) {i:SE} {k:Nat} (hi:i.den ρ=(k:Int)): ∀{ov:List (SE×List AV)},DI pc i ov=true->dR ρ k ov=none
 |[],_=>rfl
 |(j,c)::l,h=>by
  simp only [DI] at h;split at h
  ·rename_i hd;have hd:=jP hp hd;rw [mZ,beq_eq_false_iff_ne,hi] at hd;simp only [dR];rw [aJd (fun q=>hd q.symm)];exact UW hp hi h
  ·simp at h
theorem OR.congr {h:Array Obj} {id:Nat} {a b:List AV} {ty:TypeId} (ho:OR E h id (.cells a ty)) (hl:b.length=a.length) (hv: ∀us,bP E h a us->bP E h b us):OR E h id (.cells b ty):=by simp only [OR] at ho ⊢;obtain⟨arr,lo,hi,us,q1,q2,q3,q4,q5,q6,q7⟩:=ho;exact⟨arr,lo,hi,us,q1,hv us q2,q3,by rw [hl]; exact q4,q5,q6,q7⟩
set_option maxHeartbeats 800000 in
theorem YV [Glob] {E1:En} {tt:TT} (htt:eY P tt) {s s':St} (r1:bJ E1 s.h w) (hp:bM E1.ρ s.pc) {ty id es:Nat} {i:SE} {off:Nat} {one:Bool} {vs:List AV} {v':AV} {u x:Value} (hx:VR E1 w.heap (.qZ id es i off) u)
 (hcv:one=true->bP E1 w.heap vs x.cells.toList/\∀u∈x.cells.toList,u.oneCell'=true) (h:(Ph tt s ty id es i off one vs).leaf E1.ρ=some (v',s')) :
 s'.slots=s.slots/\bM E1.ρ s'.pc/\v'=AV.undef/\∃w' E',(Instr.storeAt ty u x).run P w= .ok () w'/\Stp E1 s.h w E' s'.h w'/\bJ E' s'.h w':=by
 unfold Ph at h;split at h
 ·rename_i o hl;split at h
  ·rename_i e t I4 ov;split at h
   ·rename_i ti hti;split at h
    ·rename_i hcond;obtain⟨hes,hvl,hone⟩:=hcond;obtain⟨pc0,hp0,t1,t2,h3⟩:=sU hp h;obtain⟨pc',hp',h3⟩:=DN (s:={ s with pc:=pc0 }) hp0 h3;split at h3
     ·rename_i cs hc;split at h3
      ·rename_i cs' hs;obtain⟨hvs,arW⟩:=hcv hone;have hx1:=hx;simp only [VR] at hx1;obtain⟨hid,k,hk,rfl⟩:=hx1;obtain⟨rc,ho,hwf⟩:=r1.zO hl;rw [dF] at t2;have hlt:k<(dec (e.den E1.ρ)).l.length:=by omega
       have hd:(dec (e.den E1.ρ)).l[k]?=some (dec (e.den E1.ρ)).l[k]:=aJu hlt;generalize hxk:(dec (e.den E1.ρ)).l[k]=xk at hd;obtain⟨c1,c2⟩:=mD (ρ:=E1.ρ) ho (j:=0) hd;rw [aJp] at c1;generalize hpre:aO E1.ρ (rowOf t) ov ((dec (e.den E1.ρ)).l.take k) 0=pre at c1 c2;generalize hpost:aO E1.ρ (rowOf t) ov ((dec (e.den E1.ρ)).l.drop (k+1)) (k+1)=post at c1
       have hrow:(∀h us,bP E1 h (match dR E1.ρ k ov with |some cs=>cs|none=>jS (rowOf t) (.dat xk)) us↔bP E1 h cs us)/\cs.length=(rowOf t).es:=by
        rcases tX hp' hk hc with g|⟨g,rfl⟩
        ·rw [g];obtain⟨p,p1,p2,_⟩:=oO g;have:=ho p p1;rw [p2] at this;exact⟨fun _ _=>Iff.rfl,this⟩
        ·rw [g];refine⟨fun h us=>FC ?_,jZ _ _⟩;rw [JJ E1.ρ e i hk hd];simp only [SE.den,aF]
       obtain⟨hrv,hcl⟩:=hrow;have hcl':cs'.length=(rowOf t).es:=by rw [pY hs,hcl]
       have hor:OR E1 w.heap id (.cells (pre++(cs++post)) I4):=by
        have:=(rc.live id _ (by rw [Hp.get_put,aJe rfl])).2.1;unfold dN at this;rw [c1] at this;refine OR.congr this ?_ ?_
        ·simp only [aJy,hcl];congr 2;split
         ·rename_i cs0 h0;obtain⟨p,p1,p2,_⟩:=oO h0;have:=ho p p1;rw [p2] at this;exact this.symm
         ·rw [jZ]
        ·intro us q2;obtain⟨a,b,rfl,a1,a2⟩:=q2.split;obtain⟨a',b',rfl,b1,b2⟩:=a2.split;exact a1.append (((hrv _ _).1 b1).append b2)
       have r2:=r1.swap (H2:=s.h.put id (.cells (pre++(cs++post)) I4)) hl hor (by rw [Hp.get_put,aJe rfl]) (fun j hj=>by rw [Hp.get_put,aJd hj]) rfl rfl
       have hs2:splice (pre++(cs++post)) (k*es+off) vs=some (pre++(cs'++post)):=by rw [<- hes,<- c2];exact Ah pre (tV post hs)
       obtain⟨w',g1,g2,g3⟩:=qG (P:=P) r2 (by rw [Hp.get_put,aJe rfl]) hs2 hvs arW;have hlen:x.cells.size=ti.size:=by have:=hvs.length; simp only [aJM] at this; omega
       have hrun:(Instr.storeAt ty (.pointer (some ⟨(E1.θ id).1,(E1.θ id).2+(k*es+off),none⟩)) x).run P w= .ok () w':=by simp [Instr.storeAt,Instr.sureAddr,storeVar,eF (htt ty ti hti),hlen,g1]
       have fin: ∀(o':dW),OR E1 w'.heap id o'->∃w' E',(Instr.storeAt ty (.pointer (some ⟨(E1.θ id).1,(E1.θ id).2+(k*es+off),none⟩)) x).run P w= .ok () w'/\Stp E1 s.h w E' (s.h.put id o') w'/\bJ E' (s.h.put id o') w':=by
        intro o' ho';have al1:Xv (s.h.put id (.cells (pre++(cs++post)) I4)) s.h:=(Xv.put hl).symm
        have al2:Xv ((s.h.put id (.cells (pre++(cs++post)) I4)).put id (.cells (pre++(cs'++post)) I4)) (s.h.put id o'):=by
         refine⟨fun j y hj=>?_,fun j y hj=>?_,rfl,rfl⟩
         ·rw [Hp.get_put];split
          ·exact⟨o',rfl⟩
          ·rename_i hne;rw [Hp.get_put,aJd hne,Hp.get_put,aJd hne] at hj;exact⟨y,hj⟩
         ·rw [Hp.get_put] at hj ⊢;split
          ·exact⟨_,rfl⟩
          ·rename_i hne;rw [aJd hne] at hj;rw [Hp.get_put,aJd hne];exact⟨y,hj⟩
        refine⟨w',E1,hrun,(g2.left al1).right al2,?_⟩;exact g3.swap (id:=id) (by rw [Hp.get_put,aJe rfl]) ho' (by rw [Hp.get_put,aJe rfl]) (fun j hj=>by rw [Hp.get_put,aJd hj,Hp.get_put,aJd hj,Hp.get_put,aJd hj]) rfl rfl
       have hcells:=(g3.live id _ (by rw [Hp.get_put,aJe rfl])).2.1
       have apart: ∀xA:List (SE×List AV),GY (rowOf t) xA->dR E1.ρ k xA=some cs'->(∀j:Nat,j≠k->dR E1.ρ j xA=dR E1.ρ j ov)->OR E1 w'.heap id (.vec e t I4 xA):=by
        intro xA q1 q2 q3;refine OR.zO.2 ⟨⟨q1,hwf⟩,?_⟩
        have:dN E1.ρ e t xA=pre++(cs'++post):=by
         unfold dN;obtain⟨d1,_⟩:=mD (ρ:=E1.ρ) q1 (j:=0) hd;rw [aJp,q2] at d1;rw [d1,<- hpre,<- hpost];congr 1
         ·refine oJ _ _ fun j _ hj=>q3 j ?_;rw [aJB] at hj;omega
         ·congr 1;exact oJ _ _ fun j hj _=>q3 j (by omega)
        rw [this];exact hcells
       split at h3
       ·rename_i xA hov;have:=aH h3;simp only [aJg] at this;obtain⟨rfl,rfl⟩:=this;refine⟨rfl,hp',rfl,?_⟩;obtain⟨q1,q2,q3⟩:=Og hp' hk hcl' hov ho;exact fin _ (apart xA q1 q2 q3)
       ·split at h3
        ·rename_i habs;have hnone:=UW hp' hk habs;split at h3
         ·rename_i e' hset;have:=aH h3;simp only [aJg] at this;obtain⟨rfl,rfl⟩:=this;refine⟨rfl,hp',rfl,fin _ ?_⟩;have hxm:xk∈(dec (e.den E1.ρ)).l:=aJL hd
          have hle:off+vs.length<=(rowOf t).es:=by
           rw [<- hcl];rcases aKy vs.length with hz|hz
           ·have aGB:=aJV hz;subst aGB
            have: ∀(l c:List AV) (o:Nat),splice c o []=some l->o<=c.length:=by
             intro l c
             induction c generalizing l with
             |nil=>intro o ho; cases o with |zero=>exact aKl _|succ o=>simp [splice] at ho
             |cons a c ih=>
              intro o ho
              cases o with
              |zero=>exact aKl _
              |succ o=>
               simp only [splice] at ho;split at ho
               ·rename_i l' hl';have:=ih l' o hl';simp; omega
               ·simp at ho
            have:=this _ _ _ hs;simpa using this
           ·have:=yO hs (off+vs.length-1);rw [aJe (by omega)] at this
            have hsome:(vs[off+vs.length-1-off]?).isSome=true:=by rw [aJu (by omega)]; rfl
            rw [<- this] at hsome;obtain⟨y,hy⟩:=aKq.1 hsome;have:=(aJC.1 hy).1;rw [pY hs] at this;omega
          obtain⟨x',z1,z2,z3⟩:=adQ hset hk hd (hwf.2.1 xk hxm) hle;refine OR.zO.2 ⟨⟨ho,?_⟩,?_⟩
          ·rw [z1];refine⟨by rw [aW],fun y hy=>?_,by rw [aW]; intro q; have:=congrArg List.length q; simp at this; exact hwf.2.2 this⟩;rw [aW] at hy;rcases aLT hy with hy|rfl
           ·exact hwf.2.1 y hy
           ·exact z2
          ·have hd':(dec (e'.den E1.ρ)).l[k]?=some x':=by
            rw [z1,aW,aLS hlt]
           obtain⟨d1,d2⟩:=mD (ρ:=E1.ρ) ho (j:=0) hd';rw [aJp,hnone] at d1
           have ahF:dN E1.ρ e' t ov=pre++(jS (rowOf t) (.dat x')++post):=by
            unfold dN;rw [d1,<- hpre,<- hpost,z1,aW];congr 1
            ·rw [aLC (aJi _)]
            ·congr 1;rw [aLD (by omega)]
           rw [ahF];refine OR.congr hcells (by simp only [aJy,jZ,hcl']) fun us q2=>?_;obtain⟨a,b,rfl,a1,a2⟩:=q2.split;obtain⟨a',b',rfl,b1,b2⟩:=a2.split;refine a1.append (bP.append ?_ b2);rw [iI];simp only [SE.den,aF]
           have aGJ:cs=jS (rowOf t) (.op .at e i):=by
            rcases tX hp' hk hc with g|⟨g,g'⟩
            ·rw [hnone] at g; simp at g
            ·exact g'
           refine z3 _ a' (by rw [b1.length,hcl']) ?_ ?_
           ·intro j vj uj hj1 hj2 hj3;have hjl:=(aJC.1 hj2).1;have:=yO hs j;rw [aJe (by omega),hj2] at this;obtain⟨y,y1,y2⟩:=b1.nth (by rw [dD]; exact this);rw [hj3] at y1;simp only [aJf] at y1;subst y1;exact y2
           ·intro j aj uj hj1 hj2 hj3;have:=yO hs j;rw [aJd (by omega),aGJ,hj2] at this;obtain⟨y,y1,y2⟩:=b1.nth (by rw [dD]; exact this);rw [hj3] at y1;simp only [aJf] at y1;subst y1;exact y2
         ·have:=aH h3;simp only [aJg] at this;obtain⟨rfl,rfl⟩:=this;refine⟨rfl,hp',rfl,fin _ (apart _ ?_ ?_ ?_)⟩
          ·intro p hp';rcases aJq.1 hp' with rfl|hp'
           ·exact hcl'
           ·exact ho p hp'
          ·simp only [dR];rw [aJe hk]
          ·intro j hj;simp only [dR];rw [aJd (by omega)]
        ·simp [T.leaf] at h3
      ·simp [T.leaf] at h3
     ·simp [T.leaf] at h3
    ·simp [T.leaf] at h
   ·simp [T.leaf] at h
  ·simp [T.leaf] at h
 ·simp [T.leaf] at h
theorem aAu {E1:En} {h:Array Obj} {c:CK} {v:AV} {u:Value} (hv:VR E1 h v u):VR E1 h (aEn c v) u:=by
 unfold aEn;split
 ·split
  ·simp only [VR] at hv ⊢;subst hv;exact⟨⟨none,rfl⟩,by simp only [SE.den,aF]; exact .nil _⟩
  ·split
   ·split
    ·split
     ·simp only [VR] at hv ⊢;obtain⟨_,a,cap,rfl,_,hc⟩:=hv;simp only [gJ] at hc;obtain⟨rfl,_⟩:=hc;exact⟨⟨some a,rfl⟩,by simp only [SE.den,aF]; exact .non _ _ _⟩
     ·exact hv
    ·exact hv
   ·exact hv
  ·exact hv
 ·exact hv
theorem Ui {E1:En} {h:Array Obj}: ∀(cs:List CK) {vs:List AV} {us:List Value},bP E1 h vs us->bP E1 h (YN cs vs) us
 |[],vs,us,hv=>hv
 |_::_,[],us,hv=>hv
 |c::cs,v::vs,us,hv=>by rw [bG] at hv;obtain⟨u,us',rfl,h1,h2⟩:=hv;simp only [YN];rw [bG];exact⟨u,us',rfl,aAu h1,Ui cs h2⟩
set_option maxHeartbeats 800000 in
theorem YU [Glob] {E1:En} {tt:TT} (htt:eY P tt) {s s':St} (r1:bJ E1 s.h w) (hp:bM E1.ρ s.pc) {ty id es:Nat} {i j0:SE} {off:Nat} {one:Bool} {vs:List AV} {v':AV} {u x:Value} (hx:VR E1 w.heap (.qZ id es i off) u)
 (hcv:one=true->bP E1 w.heap vs x.cells.toList/\∀u∈x.cells.toList,u.oneCell'=true) (h:(Pg tt s ty id es i j0 off one vs).leaf E1.ρ=some (v',s')) :
 s'.slots=s.slots/\bM E1.ρ s'.pc/\v'=AV.undef/\∃w' E',(Instr.storeAt ty u x).run P w= .ok () w'/\Stp E1 s.h w E' s'.h w'/\bJ E' s'.h w':=by
 unfold Pg at h;split at h
 ·rename_i o hl;split at h
  ·rename_i e t I4 ov;split at h
   ·rename_i ti hti;split at h
    ·rename_i hcond;obtain⟨hes,hvl,hone⟩:=hcond;obtain⟨pc0,hp0,t1,t2,h3⟩:=sU hp h;obtain⟨pc',hp',h3⟩:=DN (s:={ s with pc:=pc0 }) hp0 h3;split at h3
     ·rename_i hdb;have hij:=jP hp' hdb;split at h3
      ·rename_i cs hc;split at h3
       ·rename_i cs' hs;obtain⟨aGA,arW⟩:=hcv hone;have hvs:=Ui ((abA (rowOf t)).drop off) aGA;have hx1:=hx;simp only [VR] at hx1;obtain⟨hid,k,hk,rfl⟩:=hx1;simp only [SB.den,beq_iff_eq] at hij;have hk2:j0.den E1.ρ=(k:Int):=by rw [<- hij]; exact hk
        obtain⟨rc,ho,hwf⟩:=r1.zO hl;rw [dF] at t2;have hlt:k<(dec (e.den E1.ρ)).l.length:=by omega
        have hd:(dec (e.den E1.ρ)).l[k]?=some (dec (e.den E1.ρ)).l[k]:=aJu hlt;generalize hxk:(dec (e.den E1.ρ)).l[k]=xk at hd;obtain⟨c1,c2⟩:=mD (ρ:=E1.ρ) ho (j:=0) hd;rw [aJp] at c1;generalize hpre:aO E1.ρ (rowOf t) ov ((dec (e.den E1.ρ)).l.take k) 0=pre at c1 c2;generalize hpost:aO E1.ρ (rowOf t) ov ((dec (e.den E1.ρ)).l.drop (k+1)) (k+1)=post at c1
        have hrow:(∀h us,bP E1 h (match dR E1.ρ k ov with |some cs=>cs|none=>jS (rowOf t) (.dat xk)) us↔bP E1 h cs us)/\cs.length=(rowOf t).es:=by
         rcases tX hp' hk2 hc with g|⟨g,rfl⟩
         ·rw [g];obtain⟨p,p1,p2,_⟩:=oO g;have:=ho p p1;rw [p2] at this;exact⟨fun _ _=>Iff.rfl,this⟩
         ·rw [g];refine⟨fun h us=>FC ?_,jZ _ _⟩;rw [JJ E1.ρ e j0 hk2 hd];simp only [SE.den,aF]
        obtain⟨hrv,hcl⟩:=hrow;have hcl':cs'.length=(rowOf t).es:=by rw [pY hs,hcl]
        have hor:OR E1 w.heap id (.cells (pre++(cs++post)) I4):=by
         have:=(rc.live id _ (by rw [Hp.get_put,aJe rfl])).2.1;unfold dN at this;rw [c1] at this;refine OR.congr this ?_ ?_
         ·simp only [aJy,hcl];congr 2;split
          ·rename_i cs0 h0;obtain⟨p,p1,p2,_⟩:=oO h0;have:=ho p p1;rw [p2] at this;exact this.symm
          ·rw [jZ]
         ·intro us q2;obtain⟨a,b,rfl,a1,a2⟩:=q2.split;obtain⟨a',b',rfl,b1,b2⟩:=a2.split;exact a1.append (((hrv _ _).1 b1).append b2)
        have r2:=r1.swap (H2:=s.h.put id (.cells (pre++(cs++post)) I4)) hl hor (by rw [Hp.get_put,aJe rfl]) (fun j hj=>by rw [Hp.get_put,aJd hj]) rfl rfl
        have hs2:splice (pre++(cs++post)) (k*es+off) (YN ((abA (rowOf t)).drop off) vs)=some (pre++(cs'++post)):=by rw [<- hes,<- c2];exact Ah pre (tV post hs)
        obtain⟨w',g1,g2,g3⟩:=qG (P:=P) r2 (by rw [Hp.get_put,aJe rfl]) hs2 hvs arW;have hlen:x.cells.size=ti.size:=by have:=aGA.length; simp only [aJM] at this; omega
        have hrun:(Instr.storeAt ty (.pointer (some ⟨(E1.θ id).1,(E1.θ id).2+(k*es+off),none⟩)) x).run P w= .ok () w':=by simp [Instr.storeAt,Instr.sureAddr,storeVar,eF (htt ty ti hti),hlen,g1]
        have fin: ∀(o':dW),OR E1 w'.heap id o'->∃w' E',(Instr.storeAt ty (.pointer (some ⟨(E1.θ id).1,(E1.θ id).2+(k*es+off),none⟩)) x).run P w= .ok () w'/\Stp E1 s.h w E' (s.h.put id o') w'/\bJ E' (s.h.put id o') w':=by
         intro o' ho';have al1:Xv (s.h.put id (.cells (pre++(cs++post)) I4)) s.h:=(Xv.put hl).symm
         have al2:Xv ((s.h.put id (.cells (pre++(cs++post)) I4)).put id (.cells (pre++(cs'++post)) I4)) (s.h.put id o'):=by
          refine⟨fun j y hj=>?_,fun j y hj=>?_,rfl,rfl⟩
          ·rw [Hp.get_put];split
           ·exact⟨o',rfl⟩
           ·rename_i hne;rw [Hp.get_put,aJd hne,Hp.get_put,aJd hne] at hj;exact⟨y,hj⟩
          ·rw [Hp.get_put] at hj ⊢;split
           ·exact⟨_,rfl⟩
           ·rename_i hne;rw [aJd hne] at hj;rw [Hp.get_put,aJd hne];exact⟨y,hj⟩
         refine⟨w',E1,hrun,(g2.left al1).right al2,?_⟩;exact g3.swap (id:=id) (by rw [Hp.get_put,aJe rfl]) ho' (by rw [Hp.get_put,aJe rfl]) (fun j hj=>by rw [Hp.get_put,aJd hj,Hp.get_put,aJd hj,Hp.get_put,aJd hj]) rfl rfl
        have hcells:=(g3.live id _ (by rw [Hp.get_put,aJe rfl])).2.1
        have apart: ∀xA:List (SE×List AV),GY (rowOf t) xA->dR E1.ρ k xA=some cs'->(∀j:Nat,j≠k->dR E1.ρ j xA=dR E1.ρ j ov)->OR E1 w'.heap id (.vec e t I4 xA):=by
         intro xA q1 q2 q3;refine OR.zO.2 ⟨⟨q1,hwf⟩,?_⟩
         have:dN E1.ρ e t xA=pre++(cs'++post):=by
          unfold dN;obtain⟨d1,_⟩:=mD (ρ:=E1.ρ) q1 (j:=0) hd;rw [aJp,q2] at d1;rw [d1,<- hpre,<- hpost];congr 1
          ·refine oJ _ _ fun j _ hj=>q3 j ?_;rw [aJB] at hj;omega
          ·congr 1;exact oJ _ _ fun j hj _=>q3 j (by omega)
         rw [this];exact hcells
        split at h3
        ·rename_i xA hov;have:=aH h3;simp only [aJg] at this;obtain⟨rfl,rfl⟩:=this;refine⟨rfl,hp',rfl,?_⟩;obtain⟨q1,q2,q3⟩:=Og hp' hk2 hcl' hov ho;exact fin _ (apart xA q1 q2 q3)
        ·split at h3
         ·rename_i habs;have:=aH h3;simp only [aJg] at this;obtain⟨rfl,rfl⟩:=this;refine⟨rfl,hp',rfl,fin _ (apart _ ?_ ?_ ?_)⟩
          ·intro p hp';rcases aJq.1 hp' with rfl|hp'
           ·exact hcl'
           ·exact ho p hp'
          ·simp only [dR];rw [aJe hk2]
          ·intro j hj;simp only [dR];rw [aJd (by omega)]
         ·simp [T.leaf] at h3
       ·simp [T.leaf] at h3
      ·simp [T.leaf] at h3
     ·simp [T.leaf] at h3
    ·simp [T.leaf] at h
   ·simp [T.leaf] at h
  ·simp [T.leaf] at h
 ·simp [T.leaf] at h
theorem YW [Glob] {tt:TT} (htt:eY P tt) {s s':St} (r:bJ E s.h w) (hp:bM E.ρ s.pc) {ty id es:Nat} {i:SE} {off:Nat} {v v':AV} {u x:Value} (hx:VR E w.heap (.qZ id es i off) u) (hv:VR E w.heap v x) (h:(Pj tt s ty id es i off v).leaf E.ρ=some (v',s')) :
 s'.slots=s.slots/\bM E.ρ s'.pc/\v'=AV.undef/\∃w' E',(Instr.storeAt ty u x).run P w= .ok () w'/\Stp E s.h w E' s'.h w'/\bJ E' s'.h w':=by
 unfold Pj at h;split at h
 ·exact YU htt r hp hx (fun hone=> ⟨hv.cells hone,(hv.cells hone).ones hone⟩) h
 ·obtain⟨vs,h1,pc1,E1,hp1,f,q,g⟩:=zJ rfl r hp h;have hρ:=f.ρ;rw [<- hρ] at hp1 g;obtain⟨a1,a2,a3,w',E',a4,a5,a6⟩:=YV htt (s:={ s with h:=h1,pc:=pc1 }) f.rel hp1 (VR.keep (f.dX.keeps r) _ _ hx) (fun hone=> ⟨q _ (hv.cells hone),(hv.cells hone).ones hone⟩) g;exact⟨a1,by rw [<- hρ]; exact a2,a3,w',E',a4,f.dX.trans a5,a6⟩
end
section
variable {P:Program} {E:En} {w:World}
theorem EN.length {ro:Nat->Prop} {h:Array Obj} {r:Row} {d:D} {us:List Value} (hh:EN ro h r d us):us.length=r.es:=by
 cases r with
 |one c=>obtain⟨u,rfl,_⟩:=hh; rfl
 |many cs=>exact dO.length hh
theorem iL.append {h:Array Obj} {b o:Nat} {us vs:List Value} (h1:iL h b o us) (h2:iL h b (o+us.length) vs):iL h b o (us++vs):=by
 intro i u hi;rw [aLr] at hi;split at hi
 ·exact h1 i u hi
 ·rename_i hlt;have:=h2 _ u hi;rw [show o+us.length+(i-us.length)=o+i by omega] at this;exact this
theorem NY {ro:Nat->Prop} (hro:ro=E.ro) {h:Array Obj} {r:Row} {b o:Nat}: ∀(L:List D) (j:Nat),(∀i x,L[i]?=some x->∃us,EN ro h r x us/\iL h b (o+(j+i)*r.es) us)->
 ∃us,bP E h (aO E.ρ r [] L j) us/\iL h b (o+j*r.es) us/\us.length=L.length*r.es/\∀u∈us,u.oneCell'=true
 |[],j,_=> ⟨[],by simp [aO,bP],fun i u hi=>by simp at hi,by simp,by simp⟩
 |d::L,j,hh=>by
  subst hro;obtain⟨a,a1,a2⟩:=hh 0 d rfl
  obtain⟨b',b1,b2,b3,b4⟩:=NY rfl L (j+1) fun i x hi=>by have:=hh (i+1) x (by simpa using hi);rw [show j+(i+1)=j+1+i by omega] at this;exact this
  have hal:=a1.length;refine⟨a++b',?_,?_,?_,?_⟩
  ·simp only [aO,dR];refine bP.append ?_ b1;rw [iI];simpa only [SE.den,aF] using a1
  ·rw [aJG] at a2;refine a2.append ?_;rw [hal,show o+j*r.es+r.es=o+(j+1)*r.es by rw [aJ5]; omega];exact b2
  ·rw [aJy,hal,b3,aJr,aJ5]; omega
  ·intro u hu;rcases aJ0.1 hu with hu|hu
   ·exact a1.ones u hu
   ·exact b4 u hu
theorem aBl {t:Nat} {d:D} {u:Value} (hr:Rd E.ro w.heap (.sl t) d u) (hne:d.l≠[]): ∃us,Src P E w (rowOf t).es d.l.length (aO E.ρ (rowOf t) [] d.l 0) u us:=by
 obtain⟨x,hx⟩ : ∃x,d.l[0]?=some x:=by
  cases h:d.l with
  |nil=>exact absurd h hne
  |cons a l=>exact⟨a,rfl⟩
 obtain⟨b,o,cap,us0,rfl,hb,_,_⟩:=hr.row hx
 obtain⟨us,h1,h2,h3,h4⟩:=NY (E:=E) (ro:=E.ro) rfl (h:=w.heap) (r:=rowOf t) (b:=b) (o:=o) d.l 0 fun i x hi=>by obtain⟨b',o',cap',us',he,_,g1,g2⟩:=hr.row hi;simp only [Value.slice.injEq,aJf,Addr.mk.injEq] at he;obtain⟨⟨rfl,rfl,_⟩,_,_⟩:=he;exact⟨us',g1,by rw [aJp]; exact g2⟩
 rw [aJ3,aJG] at h2;exact⟨us.toArray,fun _=>rfl,fun w2 hw=>by simp only [Builtin.firstCells]; exact h2.loads h3 w2 hw,by simpa using h1,by simpa using h3,by simpa using h4⟩
structure Grown (ρ:Nat->Int) (r:Row) (e0 e1:SE) (ds:List D) (news:List AV):Prop where
 l:(dec (e1.den ρ)).l=(dec (e0.den ρ)).l++ds
 wf:dec (e1.den ρ)=dL (dec (e1.den ρ)).l
 rows: ∀d∈ds,xX r d
 vr: ∀(E':En) (h:Array Obj) (us:List Value) (j:Nat),E'.ρ=ρ->bP E' h news us->bP E' h (aO ρ r [] ds j) us
theorem oC (r:Row):GY r []:=fun p hp=>by simp at hp
theorem L6 [Glob] {E':En} {H0:Hp} {w':World} {cells:List AV} {e:TypeId} {e1:SE} {t:Nat} (r:bJ E' (H0.new (.cells cells e)) w') (hwf:KU (rowOf t) (dec (e1.den E'.ρ))) (hl:(dN E'.ρ e1 t []).length=cells.length)
 (hv: ∀us,bP E' w'.heap cells us->bP E' w'.heap (dN E'.ρ e1 t []) us):bJ E' (H0.new (.vec e1 t e [])) w':=by
 have hg:(H0.new (.cells cells e)).get H0.fresh=some (.cells cells e):=by rw [Hp.nM,aJe rfl]
 refine r.swap hg (OR.zO.2 ⟨⟨oC _,hwf⟩,OR.congr (r.live _ _ hg).2.1 hl hv⟩) (by rw [Hp.nM,aJe rfl]) (fun j hj=>by rw [Hp.nM,aJd hj,Hp.nM,aJd hj]) ?_ ?_
 ·unfold Hp.new; split<;>rfl
 ·unfold Hp.new; split<;>rfl
theorem L8 {H0 H1:Hp} {o o':dW} (hn:H1.next=H0.next) (hr:H1.res=H0.res) (hg: ∀j,(H0.get j).isSome=(H1.get j).isSome):Xv (H0.new o) (H1.new o'):=by
 have hf:H1.fresh=H0.fresh:=by unfold Hp.fresh; rw [hn,hr]
 have key: ∀{A B:Option dW} {x:dW},A.isSome=B.isSome->A=some x->∃y,B=some y:=by intro A B x h1 h2;rw [h2] at h1;exact aKq.1 h1.symm
 refine⟨fun j x hj=>?_,fun j x hj=>?_,?_,?_⟩
 ·rw [Hp.nM] at hj ⊢;rw [hf];split
  ·exact⟨o',rfl⟩
  ·rename_i hne;rw [aJd hne] at hj;exact key (hg j) hj
 ·rw [Hp.nM] at hj ⊢;rw [hf] at hj;split
  ·exact⟨o,rfl⟩
  ·rename_i hne;rw [aJd hne] at hj;exact key (hg j).symm hj
 ·unfold Hp.new;rw [hr];split<;>simp [hn]
 ·unfold Hp.new;rw [hr];split<;>simp
set_option maxHeartbeats 800000 in
theorem F9 [Glob] {t t2 ty:Nat} {H h0:Hp} (r:bJ E H w) {ie:TI} {e m:Nat} {own:Option Nat} {news:List AV} {x:AV} {d2:TypeDesc} {u u2:Value} {us:Array Value} (hte:vP P e ie)
 (ht:P.underlying t=some (.slice e)) (ht2:P.underlying t2=some d2) (hd2: ∀k,d2≠.int k) (hs0:ie.size≠0) (hb0:ie.bytes≠0) (hzl:ie.zero.length=ie.size) (hb4:ie.bytes<=400)
 (src:Src P E w ie.size m news u2 us) (hm:0<m) (hx:VR E w.heap x u) {e0 e1:SE} {t':Nat} (hb:Dy e own x H=some (e0,t',h0)) (hes:(rowOf t').es=ie.size) {ds:List D} (g:Grown E.ρ (rowOf t') e0 e1 ds news) (hds:ds.length=m)
 (hlim:((dec (e0.den E.ρ)).l.length+m)*ie.bytes<=140737488355328) :
 ∃y w' E',(Builtin.append_ #[t,t2] ty #[u,u2]).run P w= .ok y w'/\Stp E H w E' (h0.new (.vec e1 t' e [])) w'/\bJ E' (h0.new (.vec e1 t' e [])) w'/\VR E' w'.heap (.vZ h0.fresh (fB e1) t') y:=by
 have hbound: ∀k,k<=(dec (e0.den E.ρ)).l.length->(k+m)*ie.bytes<=140737488355328:=by intro k hk;exact aJO (aKE _ (by omega)) hlim
 have hnl:news.length=m*ie.size:=by have h1:=src.vrs.length;have h2:=src.size;simp only [aJM] at h1;omega
 have fresh0: ∀(a:Option Addr),u= .slice a 0 0->h0=H->(dec (e0.den E.ρ)).l= []->
  ∃y w' E',(Builtin.append_ #[t,t2] ty #[u,u2]).run P w= .ok y w'/\Stp E H w E' (h0.new (.vec e1 t' e [])) w'/\bJ E' (h0.new (.vec e1 t' e [])) w'/\VR E' w'.heap (.vZ h0.fresh (fB e1) t') y:=by
  intro a hu he hnil;subst hu he
  have hgl:yD ie e 0 m news h0=some (.slice h0.fresh 0 (0+m) (.rest ie.size),h0.new (.cells news e)):=by unfold yD;rw [aJe (hbound 0 (by omega))]
  obtain⟨y,w',E',p1,p2,p3,p4⟩:=zF (t:=t) (t2:=t2) (ty:=ty) (cap:=0) r hte ht ht2 hd2 hb0 hzl src (by omega) a (old:=[]) (olds:=#[]) (cs:=news) (by simp) (by simp [bP]) (by simp) (by simp)
   (fun w2 _=>by
    cases a with
    |none=>simp [Builtin.firstCells]
    |some a=>simp only [Builtin.firstCells,aJ3]; rfl) hgl
  have hρ:=p2.ρ;have hl1:(dec (e1.den E'.ρ)).l=ds:=by rw [hρ,g.l,hnil,aJo]
  have hwf:KU (rowOf t') (dec (e1.den E'.ρ)):=by refine⟨by rw [hρ]; exact g.wf,fun d hd=>?_,by rw [hl1]; intro q; rw [q] at hds; simp at hds; omega⟩;rw [hl1] at hd;exact g.rows d hd
  refine⟨y,w',E',p1,p2.right (L8 rfl rfl fun _=>rfl),L6 p3 hwf ?_ ?_,?_⟩
  ·unfold dN;rw [bY (oC _),hl1,hds,hes,hnl]
  ·intro us' hus;unfold dN;rw [hl1,hρ];exact g.vr E' w'.heap us' 0 hρ hus
  ·simp only [VR] at p4 ⊢;obtain⟨q1,a',cap',q2,q3,q4⟩:=p4;refine⟨q1,0+m,a',cap',?_,q2,q3,?_⟩
   ·rw [dF,hl1,hds,aJp]
   ·rw [hes]; exact q4
 unfold Dy at hb;split at hb
 ·rename_i id n t0;split at hb
  ·rename_i o hl;split at hb
   ·rename_i e00 t00 I5 ov;split at hb
    ·split at hb
     ·rename_i ht0;split at hb
      ·rename_i hty;split at hb
       ·rename_i hn;simp only [aJf,aJg] at hb;obtain⟨rfl,rfl,rfl⟩:=hb;have ht0:=aJj ht0;have hty:=aJj hty;have hn:=bZ _ _ hn;subst ht0 hty hn;obtain⟨r2,_,aIk⟩:=r.zO hl;simp only [VR] at hx;obtain⟨hid,k,a,cap,hk,rfl,hkc,hcap⟩:=hx;rw [dF] at hk;have hk:k=(dec (e00.den E.ρ)).l.length:=by omega
        have hx2:VR E w.heap (.slice id 0 k (.rest ie.size)) (.slice (some a) k cap):=by simp only [VR];exact⟨hid,a,cap,rfl,hkc,by rw [<- hes]; exact hcap⟩
        have hcl:(dN E.ρ e00 t0 []).length=k*ie.size:=by unfold dN;rw [bY (oC _),hes,hk]
        have aI1:0<m*ie.size:=aLf hm (by omega)
        have happ:Dz ie I5 m news (.slice id 0 k (.rest ie.size)) (H.put id (.cells (dN E.ρ e00 t0 []) I5)) =
         some (.slice H.fresh 0 (k+m) (.rest ie.size),((H.put id (.cells (dN E.ρ e00 t0 []) I5)).drop id).new (.cells (dN E.ρ e00 t0 []++news) I5)):=by
         unfold Dz;simp only [if_true];rw [Hp.get_put,aJe rfl];simp only;rw [aJd (by rw [hcl,aJ5]; omega),aJe ⟨by omega,trivial⟩];simp only [fV];unfold yD;rw [aJe (hbound k (by omega))];rfl
        obtain⟨y,w',E',p1,p2,p3,p4⟩:=KQ (t:=t) (t2:=t2) (ty:=ty) r2 hte ht ht2 hd2 hs0 hb0 hzl src hx2 happ;have hρ:=p2.ρ;have hl1:(dec (e1.den E'.ρ)).l=(dec (e00.den E.ρ)).l++ds:=by rw [hρ,g.l]
        have hwf:KU (rowOf t0) (dec (e1.den E'.ρ)):=by
         refine⟨by rw [hρ]; exact g.wf,fun d hd=>?_,by rw [hl1]; intro q; have:=congrArg List.length q; simp at this; rw [this.2] at hds; simp at hds; omega⟩;rw [hl1] at hd;rcases aJ0.1 hd with hd|hd
         ·exact aIk.2.1 d hd
         ·exact g.rows d hd
        have ahF:dN E'.ρ e1 t0 []=dN E.ρ e00 t0 []++aO E.ρ (rowOf t0) [] ds (0+(dec (e00.den E.ρ)).l.length):=by unfold dN;rw [hl1,hρ,BK]
        have hdrop: ∀j,(((H.put id (.cells (dN E.ρ e00 t0 []) I5)).drop id).get j)=(H.drop id).get j:=by
         intro j;rw [Hp.zH,Hp.zH];split
         ·rfl
         ·rename_i hne;rw [Hp.get_put,aJd hne]
        have al:Xv (((H.put id (.cells (dN E.ρ e00 t0 []) I5)).drop id).new (.cells (dN E.ρ e00 t0 []++news) I5)) ((H.drop id).new (.vec e1 t0 I5 [])):=
         L8 rfl rfl fun j=>by rw [hdrop]
        have p3':bJ E' ((H.drop id).new (.cells (dN E.ρ e00 t0 []++news) I5)) w':=by
         have hg:(((H.put id (.cells (dN E.ρ e00 t0 []) I5)).drop id).new (.cells (dN E.ρ e00 t0 []++news) I5)).get H.fresh=some (.cells (dN E.ρ e00 t0 []++news) I5):=by rw [Hp.nM];exact aJe rfl
         refine p3.swap hg (p3.live _ _ hg).2.1 (by rw [Hp.nM]; exact aJe rfl) (fun j hj=>?_) ?_ ?_
         ·rw [Hp.nM,Hp.nM];show (if j=H.fresh then _ else _)=(if j=H.fresh then _ else _);rw [aJd hj,aJd hj,hdrop]
         ·unfold Hp.new;simp only [Hp.drop,Hp.put];split<;>rfl
         ·unfold Hp.new;simp only [Hp.drop,Hp.put];split<;>rfl
        refine⟨y,w',E',p1,(p2.left (Xv.put hl).symm).right al,L6 p3' hwf ?_ ?_,?_⟩
        ·rw [ahF,aJy,aJy,bY (oC _),hds,hes,hnl]
        ·intro us' hus;obtain⟨a1,a2,rfl,b1,b2⟩:=hus.split;rw [ahF];exact b1.append (g.vr E' w'.heap a2 _ hρ b2)
        ·simp only [VR] at p4 ⊢;obtain⟨q1,a',cap',q2,q3,q4⟩:=p4;refine⟨q1,k+m,a',cap',?_,q2,q3,?_⟩
         ·rw [dF,hl1,aJy,hds,hk]
         ·rw [hes]; exact q4
       ·simp at hb
      ·simp at hb
     ·simp at hb
    ·simp at hb
   ·simp at hb
  ·simp at hb
 ·split at hb
  ·simp only [aJf,aJg] at hb;obtain⟨rfl,rfl,rfl⟩:=hb;simp only [VR] at hx;exact fresh0 none hx rfl (by simp only [SE.den,aF,D.l])
  ·simp at hb
 ·split at hb
  ·simp only [aJf,aJg] at hb;obtain⟨rfl,rfl,rfl⟩:=hb;simp only [VR] at hx;obtain⟨x,hx⟩:=hx;exact fresh0 x hx rfl (by simp only [SE.den,aF,D.l])
  ·simp at hb
 ·split at hb
  ·simp only [aJf,aJg] at hb;obtain⟨rfl,rfl,rfl⟩:=hb;simp only [VR] at hx;obtain⟨⟨x,hx⟩,_⟩:=hx;exact fresh0 x hx rfl (by simp only [SE.den,aF,D.l])
  ·simp at hb
 ·split at hb
  ·split at hb
   ·split at hb
    ·split at hb
     ·simp only [aJf,aJg] at hb;obtain⟨rfl,rfl,rfl⟩:=hb;simp only [VR] at hx;obtain⟨_,a,cap,rfl,_,hc⟩:=hx;simp only [gJ] at hc;obtain⟨rfl,_⟩:=hc;exact fresh0 (some a) rfl rfl (by simp only [SE.den,aF,D.l])
     ·simp at hb
    ·simp at hb
   ·simp at hb
  ·simp at hb
 ·simp at hb
end
section
variable {P:Program} {E:En} {w:World}
theorem Src.frz {E1:En} {s m:Nat} {news news':List AV} {u:Value} {us:Array Value} (src:Src P E w s m news u us) (h:bP E1 w.heap news' us.toList):Src P E1 w s m news' u us:=
 ⟨src.len,src.first,h,src.size,src.ones⟩
theorem room_le {bytes n m:Nat} (hb0:bytes≠0) (hb4:bytes<=400) (hm:(m:Int)<roomOf bytes 1000000) (hn:n<1000000):(n+m)*bytes<=140737488355328:=by
 have hm':(m:Int)<((140737488355328 / bytes-1000000:Nat):Int):=hm;have h1:m<140737488355328 / bytes-1000000:=by omega
 have h2:n+m<=140737488355328 / bytes:=by omega
 exact aJO (aKE _ h2) (aLE _ _)
theorem apQ {bytes m:Nat} (hm:(m:Int)<roomOf bytes 0):(([]:List D).length+m)*bytes<=140737488355328:=by
 have hm':(m:Int)<((140737488355328 / bytes-0:Nat):Int):=hm;have h2:([]:List D).length+m<=140737488355328 / bytes:=by simp only [aJt]; omega
 exact aJO (aKE _ h2) (aLE _ _)
theorem apP {bytes n m:Nat} (hn:(n:Int)<roomOf bytes (m+1)) {k:Nat} (hk:k=m+1):(n+k)*bytes<=140737488355328:=by
 have hn':(n:Int)<((140737488355328 / bytes-(m+1):Nat):Int):=hn;have h2:n+k<=140737488355328 / bytes:=by omega
 exact aJO (aKE _ h2) (aLE _ _)
theorem QA {ρ:Nat->Int} {r:Row} {m:Nat} {e e1:SE} {news:List AV} (h:uK r e m news=some e1) (hw:dec (e.den ρ)=dL (dec (e.den ρ)).l): ∃ds,ds.length=m/\Grown ρ r e e1 ds news:=by obtain⟨ds,h1,h2,h3,h4,h5⟩:=Dt (ρ:=ρ) m h;exact⟨ds,h1,h2,h3 hw,h4,h5⟩
theorem aiS [Glob] {H h0:Hp} (r:bJ E H w) {e:Nat} {own:Option Nat} {x:AV} {e0:SE} {t:Nat} (h:Dy e own x H=some (e0,t,h0)):dec (e0.den E.ρ)=dL (dec (e0.den E.ρ)).l:=by
 have hz:dec ((SE.dat (.i 0)).den E.ρ)=dL (dec ((SE.dat (.i 0)).den E.ρ)).l:=by simp only [SE.den,aF]; rfl
 unfold Dy at h;split at h
 ·split at h
  ·rename_i o hl;split at h
   ·split at h
    ·split at h
     ·split at h
      ·split at h
       ·simp only [aJf,aJg] at h;obtain⟨rfl,_⟩:=h;exact (r.zO hl).2.2.1
       ·simp at h
      ·simp at h
     ·simp at h
    ·simp at h
   ·simp at h
  ·simp at h
 ·split at h
  ·simp only [aJf,aJg] at h;obtain⟨rfl,_⟩:=h;exact hz
  ·simp at h
 ·split at h
  ·simp only [aJf,aJg] at h;obtain⟨rfl,_⟩:=h;exact hz
  ·simp at h
 ·split at h
  ·simp only [aJf,aJg] at h;obtain⟨rfl,_⟩:=h;exact hz
  ·simp at h
 ·split at h
  ·split at h
   ·split at h
    ·split at h
     ·simp only [aJf,aJg] at h;obtain⟨rfl,_⟩:=h;exact hz
     ·simp at h
    ·simp at h
   ·simp at h
  ·simp at h
 ·simp at h
theorem KP [Glob] {t t2 ty:Nat} {ie:TI} {e:Nat} {d2:TypeDesc} {u u2:Value} {us:Array Value} {news:List AV} (hte:vP P e ie) (ht:P.underlying t=some (.slice e)) (ht2:P.underlying t2=some d2) (hd2: ∀k,d2≠.int k)
 (src:Src P E w ie.size 0 news u2 us) (ho: ∃a n cap,u= .slice a n cap/\n<=cap):(Builtin.append_ #[t,t2] ty #[u,u2]).run P w= .ok u w:=by
 obtain⟨inf,d,z,h1,h2,h3,h4,h5,h6,h7,h8⟩:=hte.all;obtain⟨a,n,cap,rfl,hn⟩:=ho;have hus:us.toList= []:=aJV (by rw [aJM,src.size,aJ3])
 have:=oK (t:=t) (t2:=t2) (ty:=ty) (n:=n) (cap:=cap) (a:=a) (w':=w) ht ht2 hd2 h1 h5 src (by omega) (by
  cases a with
  |none=>rfl
  |some a=>rw [hus]; rfl)
 exact this
theorem akD {x:AV} {u:Value} {H h0:Hp} {e t:Nat} {own:Option Nat} {e0:SE} (hx:VR E w.heap x u) (hb:Dy e own x H=some (e0,t,h0)): ∃a n cap,u= .slice a n cap/\n<=cap:=by
 unfold Dy at hb;split at hb
 ·simp only [VR] at hx;obtain⟨_,k,a,cap,_,rfl,hk,_⟩:=hx;exact⟨_,_,_,rfl,hk⟩
 ·simp only [VR] at hx;exact⟨none,0,0,hx,aJi _⟩
 ·simp only [VR] at hx;obtain⟨x,hx⟩:=hx;exact⟨x,0,0,hx,aJi _⟩
 ·simp only [VR] at hx;obtain⟨⟨x,hx⟩,_⟩:=hx;exact⟨x,0,0,hx,aJi _⟩
 ·simp only [VR] at hx;obtain⟨_,a,cap,rfl,hk,_⟩:=hx;exact⟨_,_,_,rfl,hk⟩
 ·simp at hb
theorem Yz {x:AV} {u:Value} {own:Option Nat} (hx:VR E w.heap x u) (hb:arF own x=true): ∃a n cap,u= .slice a n cap/\n<=cap:=by
 unfold arF at hb;split at hb
 ·simp only [VR] at hx;obtain⟨_,k,a,cap,_,rfl,hk,_⟩:=hx;exact⟨_,_,_,rfl,hk⟩
 ·simp only [VR] at hx;obtain⟨_,l,k,a,cap,_,_,rfl,hk,_⟩:=hx;exact⟨_,_,_,rfl,hk⟩
 ·simp only [VR] at hx;exact⟨none,0,0,hx,aJi _⟩
 ·simp only [VR] at hx;obtain⟨x,hx⟩:=hx;exact⟨x,0,0,hx,aJi _⟩
 ·simp only [VR] at hx;obtain⟨⟨x,hx⟩,_⟩:=hx;exact⟨x,0,0,hx,aJi _⟩
 ·simp only [VR] at hx;obtain⟨_,a,cap,rfl,hk,_⟩:=hx;exact⟨_,_,_,rfl,hk⟩
 ·simp at hb
set_option maxHeartbeats 800000 in
theorem WT [Glob] {tt:TT} (htt:eY P tt) {s s':St} (r:bJ E s.h w) (hp:bM E.ρ s.pc) {t t2 ty:Nat} {x y v:AV} {u u2:Value} (hx:VR E w.heap x u) (hy:VR E w.heap y u2) (hsl:aCf y=false->∃a n cap,u= .slice a n cap/\n<=cap) (h:(JE tt t t2 x y s).leaf E.ρ=some (v,s')) :
 s'.slots=s.slots/\bM E.ρ s'.pc/\∃z w' E',(Builtin.append_ #[t,t2] ty #[u,u2]).run P w= .ok z w'/\Stp E s.h w E' s'.h w'/\bJ E' s'.h w'/\VR E' w'.heap v z:=by
 unfold JE at h;split at h
 ·rename_i ti hti;split at h
  ·rename_i e hk;split at h
   ·rename_i ie hie;split at h
    ·simp [T.leaf] at h
    ·rename_i ti2 arN;obtain⟨d2,hd2,hk2⟩:=zD (htt t2 ti2 arN);split at h
     ·simp [T.leaf] at h
     ·rename_i k2 hne
      have YJ: ∀k,d2≠.int k:=by intro k hd;subst hd;cases hkk:ti2.kind<;>rw [hkk] at hk2<;>simp only [U7] at hk2;exact hne _ hkk
      split at h
      ·simp [T.leaf] at h
      ·rename_i hcond;simp only [not_or,Classical.not_not] at hcond;obtain⟨hs0,hb0,hzl,hb4⟩:=hcond;have hte:=htt e ie hie;have hu:=gK (htt t ti hti) hk;split at h
       ·
        rename_i e2 ty2;split at h
        ·rename_i e0 t' h0 hb;split at h
         ·rename_i hc;obtain⟨hes,hrow⟩:=hc;obtain⟨pc1,hp1,h1⟩:=dB hp h;rw [qP,dF] at h1;simp only [VR] at hy;obtain⟨xa,cap2,hu2,_⟩:=hy.slice;split at h1
          ·rename_i hz;simp only [SE.den,beq_iff_eq] at hz;have:=aH h1;simp only [aJg] at this;obtain⟨rfl,rfl⟩:=this;have hz':(dec (e2.den E.ρ)).l.length=0:=by omega
           rw [hz'] at hu2;subst hu2
           have src:Src P E w ie.size 0 [] (.slice xa 0 cap2) #[]:=⟨fun _=>rfl,fun w2 _=>by
            cases xa with
            |none=>simp [Builtin.firstCells]
            |some a=>simp only [Builtin.firstCells,aJ3]; rfl,by simp [bP],by simp,by simp⟩
           exact⟨rfl,hp1,u,w,E,KP hte hu hd2 YJ src (akD hx hb),Stp.refl _ _ _,r,hx⟩
          ·rename_i hz;simp only [SE.den,beq_eq_false_iff_ne,ne_eq] at hz;obtain⟨pc2,hp2,h2⟩:=dB (s:={ s with pc:=pc1 }) hp1 h1;split at h2
           ·rename_i t2';obtain⟨pc3,hp3,h3⟩:=dB (s:={ s with pc:=pc2 }) hp2 h2;split at h3
            ·rename_i t3;rw [dV,decide_eq_true_eq,dF] at t2' t3;simp only [SE.den] at t2' t3;have hne':(dec (e2.den E.ρ)).l≠[]:=by intro q; rw [q] at hz; simp at hz
             obtain⟨us,src⟩:=aBl (P:=P) (w:=w) hy hne';rw [hrow] at src;rw [hes] at src
             have hpos:0<(dec (e2.den E.ρ)).l.length:=by
              rcases aKy (dec (e2.den E.ρ)).l.length with q|q
              ·omega
              ·exact q
             have aEa:dec (e2.den E.ρ)=dL (dec (e2.den E.ρ)).l/\∀d∈(dec (e2.den E.ρ)).l,xX (rowOf ty2) d:=by
              have key: ∀{d:D} {v:Value},Rd E.ro w.heap (.sl ty2) d v->d.l≠[]->d=dL d.l/\∀x∈d.l,xX (rowOf ty2) x:=by
               intro d v hr hne
               have awQ: ∀{c:CK} {d:D} {v:Value},Rd E.ro w.heap c d v->wU c d:=by
                intro c d v hr
                cases hr with
                |int k n=>rfl
                |bool b=>cases b<;>simp [wU]
                |str s=>trivial
                |nil t=>trivial
                |non t a cap=>trivial
                |one t c b o cap ds f hr hc hb h1 h2=>trivial
                |many t cs b o cap rows f hr hc hb hl h1 h2=>trivial
               generalize hc:CK.sl ty2=c at hr
               cases hr with
               |int k n=>simp at hc
               |bool b=>simp at hc
               |str s=>simp at hc
               |nil t=>exact absurd rfl hne
               |non t a cap=>exact absurd rfl hne
               |one t c b o cap ds f hr hcp hb h1 h2=> simp only [CK.sl.injEq] at hc;subst hc;refine⟨by rw [aW],fun x hx=>?_⟩;rw [aW] at hx;obtain⟨i,hi⟩:=aKN.1 hx;rw [hr];exact awQ (h2 i x hi)
               |many t cs b o cap rows f hr hcp hb hl h1 h2=> simp only [CK.sl.injEq] at hc;subst hc;refine⟨by rw [aW],fun x hx=>?_⟩;rw [aW,aJE] at hx;obtain⟨row,hrm,rfl⟩:=hx;obtain⟨i,hi⟩:=aKN.1 hrm;rw [hr];refine⟨by rw [aW],by rw [aW]; exact hl row hrm,fun j c y hj hy=>?_⟩;rw [aW] at hy;exact awQ (h2 i row j y c hi hy hj)
              exact key hy hne'
             rw [hrow] at aEa
             have grown: ∀e1:SE,(dec (e1.den E.ρ)).l=(dec (e0.den E.ρ)).l++(dec (e2.den E.ρ)).l->dec (e1.den E.ρ)=dL (dec (e1.den E.ρ)).l->Grown E.ρ (rowOf t') e0 e1 (dec (e2.den E.ρ)).l (aO E.ρ (rowOf t') [] (dec (e2.den E.ρ)).l 0):=by
              intro e1 q1 q2;refine⟨q1,q2,aEa.2,fun E' h us j hρ hv=>?_⟩
              have:aO E.ρ (rowOf t') [] (dec (e2.den E.ρ)).l j=aO E.ρ (rowOf t') [] (dec (e2.den E.ρ)).l 0:=by
               generalize (dec (e2.den E.ρ)).l=L;clear hv q1 q2
               have gen: ∀(L:List D) (a b:Nat),aO E.ρ (rowOf t') [] L a=aO E.ρ (rowOf t') [] L b:=by
                intro L
                induction L with
                |nil=>intro a b; rfl
                |cons d L ih=>intro a b; simp only [aO,dR]; rw [ih (a+1) (b+1)]
               exact gen L j 0
              rw [this];exact hv
             have hbw:=aiS r hb;split at h3
             ·rename_i hnil
              have aGL:(dec (e0.den E.ρ)).l= []:=by
               unfold abY at hnil;split at hnil
               ·split at hnil
                ·simp only [SE.den,aF,D.l]
                ·simp at hnil
               ·simp at hnil
              have:=aH h3;simp only [aJg] at this;obtain⟨rfl,rfl⟩:=this;obtain⟨z,w',E',p1,p2,p3,p4⟩:=F9 (t:=t) (t2:=t2) (ty:=ty) r hte hu hd2 YJ hs0 hb0 hzl hb4 src hpos hx hb hes (grown e2 (by rw [aGL,aJo]) aEa.1) rfl (by rw [aGL]; refine apQ (bytes:=ie.bytes) ?_; have q:=t2'; unfold apR at q; rw [hnil] at q; exact q);exact⟨rfl,hp3,z,w',E',p1,p2,p3,p4⟩
             ·rename_i hnil;have:=aH h3;simp only [aJg] at this;obtain⟨rfl,rfl⟩:=this;obtain⟨z,w',E',p1,p2,p3,p4⟩:=F9 (t:=t) (t2:=t2) (ty:=ty) r hte hu hd2 YJ hs0 hb0 hzl hb4 src hpos hx hb hes (grown (.op .cat e0 e2) (by simp only [SE.den,iY.den,aF,aW]) (by simp only [SE.den,iY.den,aF,aW])) rfl (room_le hb0 hb4 (by have q:=t2'; unfold apR at q; rw [hnil] at q; exact q) (by omega));exact⟨rfl,hp3,z,w',E',p1,p2,p3,p4⟩
            ·simp [T.leaf] at h3
           ·simp [T.leaf] at h2
         ·simp [T.leaf] at h
        ·simp [T.leaf] at h
       ·
        split at h
        ·rename_i m news hsrc;obtain⟨us,src⟩:=xH (P:=P) r hy hsrc;split at h
         ·have:=aH h;simp only [aJg] at this;obtain⟨rfl,rfl⟩:=this
          exact⟨rfl,hp,u,w,E,KP hte hu hd2 YJ src (hsl (by
           cases y<;>first |rfl|(rename_i hnd _ _ _; exact absurd rfl (hnd _ _))|(rename_i hnd; exact absurd rfl (hnd _ _)))),Stp.refl _ _ _,r,hx⟩
         ·rename_i m';obtain⟨news',h1,pcF,E1,hpF,f,hvs,h⟩:=zJ rfl r hp h;split at h
          ·rename_i e0 t' h0 hb;split at h
           ·rename_i hc;obtain⟨hes,hm⟩:=hc;have hρ:=f.ρ;obtain⟨pc1,hp1,h2⟩:=dB (s:={ s with h:=h1,pc:=pcF }) hpF h;split at h2
            ·rename_i t3;rw [dV,decide_eq_true_eq,dF] at t3;simp only [SE.den] at t3;split at h2
             ·rename_i e1 hcr;have:=aH h2;simp only [aJg] at this;obtain⟨rfl,rfl⟩:=this;obtain⟨ds,hds,g⟩:=QA (ρ:=E1.ρ) hcr (aiS f.rel hb);obtain⟨z,w',E',p1,p2,p3,p4⟩:=F9 (t:=t) (t2:=t2) (ty:=ty) f.rel hte hu hd2 YJ hs0 hb0 hzl hb4 (src.frz (hvs _ src.vrs)) (by omega) (VR.keep (f.dX.keeps r) _ _ hx) hb hes g hds (apP (by rw [hρ]; exact t3) (by omega));exact⟨rfl,hp1,z,w',E',p1,f.dX.trans p2,p3,p4⟩
             ·simp [T.leaf] at h2
            ·simp [T.leaf] at h2
           ·simp [T.leaf] at h
          ·simp [T.leaf] at h
        ·simp [T.leaf] at h
   ·simp [T.leaf] at h
  ·simp [T.leaf] at h
 ·simp [T.leaf] at h
end
section
variable {P:Program} {E:En} {w:World}
theorem aeF {h:Array Obj} {id t:Nat} {n:SE} {u:Value} (hv:VR E h (.vZ id n t) u):VR E h (.BL id (.lit 0) n t) u:=by simp only [VR] at hv ⊢;obtain⟨h1,k,a,cap,h2,h3,h4,h5⟩:=hv;exact⟨h1,0,k,a,cap,rfl,h2,h3,h4,by rw [aJ3]; exact h5⟩
theorem acG {tt:TT} (htt:eY P tt) {s s':St} (hp:bM E.ρ s.pc) {ty t id:Nat} {lo n:SE} {ix v:AV} {u ui:Value} (hx:VR E w.heap (.BL id lo n t) u) (hix:VR E w.heap ix ui) (h:(Wq tt s ty id t lo n ix).leaf E.ρ=some (v,s')) :
 s'.slots=s.slots/\s'.h=s.h/\bM E.ρ s'.pc/\∃r,(Instr.indexAt ty u ui).run P w= .ok r w/\VR E w.heap v r:=by
 unfold Wq at h;split at h
 ·rename_i kd i;split at h
  ·rename_i z hz;split at h
   ·rename_i hes;obtain⟨pc',hp',h1,h2,h3⟩:=sU hp h;have:=aH h3;simp only [aJg] at this;obtain⟨rfl,rfl⟩:=this;refine⟨rfl,rfl,hp',?_⟩;simp only [VR] at hx hix;subst hix;obtain⟨hid,l,m,a,cap,hl,hn,rfl,hcap,hc⟩:=hx;obtain⟨el,ie,hu,hie,rfl⟩:=sK htt hz;obtain⟨k,hk⟩ : ∃k:Nat,i.den E.ρ=(k:Int):=⟨(i.den E.ρ).toNat,by omega⟩;have hlt:k<m:=by omega
    have ha:a=⟨(E.θ id).1,(E.θ id).2+l*ie.size,none⟩:=by
     simp only [gJ] at hc;rcases hc with hc|hc
     ·rw [hes]; exact hc.1
     ·omega
    subst ha;refine⟨.pointer (some ⟨(E.θ id).1,(E.θ id).2+l*ie.size+k*ie.size,none⟩),?_,?_⟩
    ·rw [hk];simp [Instr.indexAt,asIntOf,run_underlying hu,eF (htt el ie hie),hlt,gI]
    ·simp only [VR];exact⟨hid,l+k,by rw [vX,hl,hk]; rfl,by rw [aJG,aJ5,aJP]⟩
   ·simp [T.leaf] at h
  ·simp [T.leaf] at h
 ·simp [T.leaf] at h
theorem aqZ {lo:Option AV} {lo':Option Value} {l:SE} {n:Nat} (h:loE lo=some l) (hlo:jK E w.heap lo lo') (hn:l.den E.ρ=(n:Int)) :
 ∃lo2,jK E w.heap lo2 lo'/\∀y,n<=y->bnd lo2 0 y=some n:=by
 unfold loE at h;split at h
 ·simp only [aJf] at h;subst h;simp only [SE.den] at hn;have:n=0:=by omega
  subst this;exact⟨none,hlo,fun y _=>by simp [bnd]⟩
 ·split at h
  ·rename_i v k q;simp only [aJf] at h;subst h;obtain⟨y,rfl,hy⟩:=hlo;refine⟨some (.int k (.lit (Int.ofNat n))),⟨y,rfl,?_⟩,fun y hy=>by simp [bnd,oH,hy]⟩;simp only [VR,SE.den] at hy ⊢;rw [hy,hn];rfl
  ·simp at h
theorem Md {k:IntKind} {q:SE} {n:Nat} {o:Option Value} (hq:q.den E.ρ=(n:Int)) (ho:jK E w.heap (some (.int k q)) o):jK E w.heap (some (.int k (.lit (Int.ofNat n)))) o:=by obtain⟨y,rfl,hy⟩:=ho;refine⟨y,rfl,?_⟩;simp only [VR,SE.den] at hy ⊢;rw [hy,hq];rfl
theorem MO {k:IntKind} {n d y:Nat} (hn:n<=y):bnd (some (.int k (.lit (Int.ofNat n)))) d y=some n:=by simp [bnd,oH,hn]
theorem O9 [Glob] {tt:TT} (htt:eY P tt) {s s':St} (r:bJ E s.h w) (hp:bM E.ρ s.pc) {ty id t:Nat} {lo0 n0:SE} {lo hi mx:Option AV} {lo' hi' mx':Option Value} {v:AV} {u:Value} (hx:VR E w.heap (.BL id lo0 n0 t) u)
 (hlo:jK E w.heap lo lo') (hhi:jK E w.heap hi hi') (hmx:jK E w.heap mx mx') (h:(MG tt s ty id t lo0 n0 lo hi mx).leaf E.ρ=some (v,s')) :
 s'.slots=s.slots/\s'.h=s.h/\bM E.ρ s'.pc/\∃r,(Instr.sliceAt ty u lo' hi' mx').run P w= .ok r w/\VR E w.heap v r:=by
 unfold MG at h;split at h
 ·simp [T.leaf] at h
 ·rename_i z hz;split at h
  ·rename_i hcond;obtain⟨hes,hz0⟩:=hcond;obtain⟨el,ie,hu,hie,rfl⟩:=sK htt hz;have hsz:=eF (htt el ie hie);simp only [VR] at hx;obtain⟨hid,l0,m0,a,cap,g1,g2,rfl,hcap,hc⟩:=hx
   have fin: ∀(l k:Nat) (e1 e2:SE),(Instr.sliceBounds true m0 cap lo' hi' none).run P w= .ok (l,k,cap) w->l<=k->k<=cap->e1.den E.ρ=(l:Int)->e2.den E.ρ=(k:Int)->
    ∃r,(Instr.sliceAt ty (.slice (some a) m0 cap) lo' hi' none).run P w= .ok r w/\VR E w.heap (.BL id (zX lo0 e1) (ND e2 e1) t) r:=by
    intro l k e1 e2 hb hlk hk he1 he2;refine⟨.slice (some (if cap=l then a else a.add (l*ie.size))) (k-l) (cap-l),?_,?_⟩
    ·simp [Instr.sliceAt,run_underlying hu,Instr.slice,hb,hsz]<;>split<;>rfl
    ·simp only [VR];refine⟨hid,l0+l,k-l,_,_,by rw [vX,g1,he1]; rfl,by rw [ajG,he1,he2]; omega,rfl,by omega,?_⟩;rw [aJ5];have q:=wR (l:=l) (h:=k) (m:=cap) (es:=(rowOf t).es) hc hcap hlk hk (aJi _) (.inr (.inr ⟨rfl,rfl,rfl⟩)) (rowOf t).es (fun _=>rfl);rw [hes];exact q
   split at h
   ·simp [T.leaf] at h
   ·rename_i ql hql;obtain⟨pc1,hp1,h1⟩:=dB hp h;split at h1
    ·simp [T.leaf] at h1
    ·rename_i t1;rw [dV,decide_eq_false_iff_not] at t1;simp only [SE.den,aKx] at t1;obtain⟨l,hl⟩ : ∃l:Nat,ql.den E.ρ=(l:Int):=⟨(ql.den E.ρ).toNat,by omega⟩;obtain⟨lo2,hlo2,hbl⟩:=aqZ hql hlo hl;split at h1
     ·
      simp only [jK] at hhi;subst hhi;split at h1
      ·simp [T.leaf] at h1
      ·simp only [jK] at hmx;subst hmx;obtain⟨pc2,hp2,h2⟩:=dB (s:={ s with pc:=pc1 }) hp1 h1;split at h2
       ·simp [T.leaf] at h2
       ·rename_i t2;have:=aH h2;simp only [aJg] at this;obtain⟨rfl,rfl⟩:=this;rw [dV,decide_eq_false_iff_not] at t2;have hlm:l<=m0:=by omega
        obtain⟨e1,e2⟩:=iO (P:=P) (w:=w) (isSlice:=true) (len:=m0) (cap:=cap) (m0:=cap) (d:=0) (m:=cap) (h0:=cap) (h:=m0) (l:=l) hlo2 (hi:=none) (hi':=none) (by simp [jK]) (mx:=none) (mx':=none) (by simp [jK]) (by simp) (.inl ⟨rfl,rfl,aJi _⟩) (by simp [bnd,hcap]) ⟨fun _=>aJi _,by simp⟩ (hbl _ hlm);exact⟨rfl,rfl,hp2,fin l m0 _ _ e1 hlm hcap hl g2⟩
     ·rename_i hv;split at h1
      ·rename_i kh qh;obtain⟨pc2,hp2,h2⟩:=dB (s:={ s with pc:=pc1 }) hp1 h1;split at h2
       ·simp [T.leaf] at h2
       ·rename_i t2;rw [dV,decide_eq_false_iff_not] at t2;obtain⟨k,hk⟩ : ∃k:Nat,qh.den E.ρ=(k:Int):=⟨(qh.den E.ρ).toNat,by omega⟩;have hlk:l<=k:=by omega
        split at h2
        ·rename_i mv;split at h2
         ·rename_i km qm;obtain⟨pc3,hp3,h3⟩:=dB (s:={ s with pc:=pc2 }) hp2 h2;split at h3
          ·simp [T.leaf] at h3
          ·rename_i t3;obtain⟨pc4,hp4,h4⟩:=dB (s:={ s with pc:=pc3 }) hp3 h3;split at h4
           ·simp [T.leaf] at h4
           ·rename_i t4;have:=aH h4;simp only [aJg] at this;obtain⟨rfl,rfl⟩:=this;rw [dV,decide_eq_false_iff_not] at t3 t4;obtain⟨m,hm⟩ : ∃m:Nat,qm.den E.ρ=(m:Int):=⟨(qm.den E.ρ).toNat,by omega⟩;obtain⟨e1,e2⟩:=iO (P:=P) (w:=w) (isSlice:=true) (len:=m0) (cap:=cap) (m0:=cap) (d:=0) (m:=m) (h0:=m) (h:=k) (l:=l) hlo2 (Md hk hhi) (Md hm hmx) (by simp) (.inr ⟨_,rfl,MO (by omega),aJi _⟩) (MO (by omega)) ⟨by simp,fun _=>rfl⟩ (hbl _ hlk);refine⟨rfl,rfl,hp4,.slice (some (if m=l then a else a.add (l*ie.size))) (k-l) (m-l),?_,by simp only [VR]⟩;simp [Instr.sliceAt,run_underlying hu,Instr.slice,e1,hsz]<;>split<;>rfl
         ·simp [T.leaf] at h2
        ·simp only [jK] at hmx;subst hmx
         have go:k<=cap->∃r,(Instr.sliceAt ty (.slice (some a) m0 cap) lo' hi' none).run P w= .ok r w/\VR E w.heap (.BL id (zX lo0 ql) (ND qh ql) t) r:=by intro hkc;obtain⟨e1,e2⟩:=iO (P:=P) (w:=w) (isSlice:=true) (len:=m0) (cap:=cap) (m0:=cap) (d:=0) (m:=cap) (h0:=cap) (h:=k) (l:=l) hlo2 (Md hk hhi) (mx:=none) (mx':=none) (by simp [jK]) (by simp) (.inl ⟨rfl,rfl,aJi _⟩) (MO hkc) ⟨fun _=>aJi _,by simp⟩ (hbl _ hlk);exact fin l k _ _ e1 hlk hkc hl hk
         obtain⟨pc3,hp3,h3⟩:=dB (s:={ s with pc:=pc2 }) hp2 h2;split at h3
         ·rename_i t3;have:=aH h3;simp only [aJg] at this;obtain⟨rfl,rfl⟩:=this;rw [dV,decide_eq_false_iff_not] at t3;exact⟨rfl,rfl,hp3,go (by omega)⟩
         ·split at h3
          ·simp [T.leaf] at h3
          ·rename_i hz1;split at h3
           ·simp [T.leaf] at h3
           ·rename_i e I4 hva;obtain⟨pc4,hp4,h4⟩:=dB (s:={ s with pc:=pc3 }) hp3 h3;split at h4
            ·simp [T.leaf] at h4
            ·rename_i t4;have:=aH h4;simp only [aJg] at this;obtain⟨rfl,rfl⟩:=this;rw [dV,decide_eq_false_iff_not,dF] at t4;refine⟨rfl,rfl,hp4,go ?_⟩;have hlv:=Ac hva;obtain⟨ho,q0⟩:=OR.zO.1 (r.live id _ hlv).2.1;have hlo0:=OM hz1;subst hlo0;simp only [SE.den] at g1;have hl0:l0=0:=by omega
             subst hl0;simp only [OR] at q0;obtain⟨arr,lo1,hi1,us,q1,q2,q3,q4,q5,q6,q7⟩:=q0;unfold dN at q4;rw [bY ho.1] at q4;have hne:0<(dec (e.den E.ρ)).l.length:=aKe.2 ho.2.2.2;have hpos:0<(rowOf t).es:=by omega
             simp only [gJ] at hc
             have hκ:(dec (e.den E.ρ)).l.length<=cap:=by
              rcases hc with hc|hc
              ·have:(dec (e.den E.ρ)).l.length*(rowOf t).es<=cap*(rowOf t).es:=by omega
               exact aLA this hpos
              ·have:=aLf hne hpos;omega
             omega
      ·simp [T.leaf] at h1
  ·simp [T.leaf] at h
theorem acV [Glob] {tt:TT} (htt:eY P tt) {s s':St} (hp:bM E.ρ s.pc) {ty t:Nat} {z:SE} {lo hi mx:Option AV} {lo' hi' mx':Option Value} {v:AV} {u:Value} (hx:VR E w.heap (.IW z t) u)
 (hlo:jK E w.heap lo lo') (hhi:jK E w.heap hi hi') (hmx:jK E w.heap mx mx') (h:(WJ tt s ty z t lo hi mx).leaf E.ρ=some (v,s')) :
 s'.slots=s.slots/\s'.h=s.h/\bM E.ρ s'.pc/\∃r,(Instr.sliceAt ty u lo' hi' mx').run P w= .ok r w/\VR E w.heap v r:=by
 unfold WJ at h;split at h
 ·simp [T.leaf] at h
 ·simp only [jK] at hmx;subst hmx;split at h
  ·simp [T.leaf] at h
  ·rename_i zz hz;obtain⟨el,ie,hu,hie,rfl⟩:=sK htt hz;have hsz:=eF (htt el ie hie);split at h
   ·rename_i IV;split at h
    ·rename_i hbl;have:=aH h;simp only [aJg] at this;obtain⟨rfl,rfl⟩:=this;have hx0:=hx;simp only [VR] at hx;obtain⟨⟨x,rfl⟩,hr⟩:=hx;obtain⟨e1,e2⟩:=iO (P:=P) (w:=w) (isSlice:=true) (len:=0) (cap:=0) (m0:=0) (d:=0) (m:=0) hlo hhi (mx:=none) (mx':=none) (by simp [jK]) (by simp) (.inl ⟨rfl,rfl,aJi _⟩) IV ⟨fun _=>aJi _,by simp⟩ hbl;refine⟨rfl,rfl,hp,.slice x 0 0,?_,hx0⟩;simp [Instr.sliceAt,run_underlying hu,Instr.slice,e1,hsz]
    ·simp [T.leaf] at h
   ·simp [T.leaf] at h
end
theorem NR: ∀{B V:List AV},V.length=B.length->splice B 0 V=some V
 |[],[],_=>rfl
 |[],_::_,h=>by simp at h
 |_::_,[],h=>by simp at h
 |b::B,v::V,h=>by simp only [splice];rw [NR (by simpa using h)]
theorem aaT {A B C V:List AV} (h:V.length=B.length):splice (A++(B++C)) A.length V=some (A++(V++C)):=by have:=Ah A (tV C (NR h));rwa [aJG] at this
theorem RU {α:Type}: ∀{a b:List α},kX a.length (a++b)=some a
 |[],b=>rfl
 |x::a,b=>by simp only [aJr,aJv,kX,RU]
theorem oI {ρ:Nat->Int} {r:Row}: ∀(L:List D) (a b:Nat),aO ρ r [] L a=aO ρ r [] L b
 |[],_,_=>rfl
 |d::L,a,b=>by simp only [aO,dR]; rw [oI L (a+1) (b+1)]
theorem mQ {ρ:Nat->Int} {r:Row}: ∀(A B:List D),aO ρ r [] (A++B) 0=aO ρ r [] A 0++aO ρ r [] B 0
 |[],B=>rfl
 |d::A,B=>by simp only [aJv,aO,dR,aKa];rw [oI (A++B) 1 0,oI A 1 0,mQ A B]
section
variable {P:Program} {E:En} {w:World}
theorem amR [Glob] {H:Hp} (r:bJ E H w) {id t:Nat} {e0:SE} {I5:TypeId} (hl:H.get id=some (.vec e0 t I5 [])) (hs0:(rowOf t).es≠0) {k cap:Nat} {a:Addr} (hc:gJ E id 0 k a cap (.rest (rowOf t).es)) :
 a=⟨(E.θ id).1,(E.θ id).2,none⟩/\(dec (e0.den E.ρ)).l.length<=cap:=by
 obtain⟨ho,q0⟩:=OR.zO.1 (r.live id _ hl).2.1;simp only [OR] at q0;obtain⟨arr,lo1,hi1,us,q1,q2,q3,q4,q5,q6,q7⟩:=q0;unfold dN at q4;rw [bY ho.1] at q4;have hne:0<(dec (e0.den E.ρ)).l.length:=aKe.2 ho.2.2.2;have hpos:0<(rowOf t).es:=by omega
 simp only [gJ] at hc;rcases hc with hc|hc
 ·refine⟨by simpa using hc.1,?_⟩;have:(dec (e0.den E.ρ)).l.length*(rowOf t).es<=cap*(rowOf t).es:=by omega
  exact aLA this hpos
 ·have:=aLf hne hpos;omega
theorem MW [Glob] {H:Hp} (r:bJ E H w) {id t:Nat} {e0:SE} {I5:TypeId} (hl:H.get id=some (.vec e0 t I5 [])) {n mm:Nat} (hle:n+mm<=(dec (e0.den E.ρ)).l.length) {ds:List D} (hds:ds.length=mm) (hwf: ∀d∈ds,xX (rowOf t) d)
 {us:List Value} (hv:bP E w.heap (aO E.ρ (rowOf t) [] ds 0) us) (h1: ∀u∈us,u.oneCell'=true) {e1:SE} (he1:dec (e1.den E.ρ)=dL ((dec (e0.den E.ρ)).l.take n++ds++(dec (e0.den E.ρ)).l.drop (n+mm))) :
 ∃w',(storeCells ⟨(E.θ id).1,(E.θ id).2+n*(rowOf t).es,none⟩ us).run P w= .ok () w'/\Stp E H w E (H.put id (.vec e1 t I5 [])) w'/\bJ E (H.put id (.vec e1 t I5 [])) w':=by
 obtain⟨rc,ho,hw⟩:=r.zO hl;generalize hL:(dec (e0.den E.ρ)).l=L at *
 have hsp:L=L.take n++((L.drop n).take mm++L.drop (n+mm)):=by
  conv=>lhs; rw [<- aKp n L]
  congr 1
  conv=>lhs; rw [<- aKp mm (L.drop n)]
  rw [aLF]
 have hc:dN E.ρ e0 t []=aO E.ρ (rowOf t) [] (L.take n) 0++(aO E.ρ (rowOf t) [] ((L.drop n).take mm) 0++aO E.ρ (rowOf t) [] (L.drop (n+mm)) 0):=by
  unfold dN;rw [hL]
  conv=>lhs; rw [hsp]
  rw [mQ,mQ]
 have hlA:(aO E.ρ (rowOf t) [] (L.take n) 0).length=n*(rowOf t).es:=by rw [bY (oC _),aJB];congr 1;omega
 have hsl:splice (dN E.ρ e0 t []) (n*(rowOf t).es) (aO E.ρ (rowOf t) [] ds 0)=some (dN E.ρ e1 t []):=by
  have:dN E.ρ e1 t []=aO E.ρ (rowOf t) [] (L.take n) 0++(aO E.ρ (rowOf t) [] ds 0++aO E.ρ (rowOf t) [] (L.drop (n+mm)) 0):=by unfold dN;rw [he1,aW,mQ,mQ,aKa]
  rw [this,hc,<- hlA];refine aaT ?_;rw [bY (oC _),bY (oC _),aJB,aJQ,hds];congr 1;omega
 obtain⟨w',g1,g2,g3⟩:=qG (P:=P) rc (by rw [Hp.get_put,aJe rfl]) hsl hv h1;have al1:Xv (H.put id (.cells (dN E.ρ e0 t []) I5)) H:=(Xv.put hl).symm
 have al2:Xv ((H.put id (.cells (dN E.ρ e0 t []) I5)).put id (.cells (dN E.ρ e1 t []) I5)) (H.put id (.vec e1 t I5 [])):=by
  refine⟨fun j y hj=>?_,fun j y hj=>?_,rfl,rfl⟩
  ·rw [Hp.get_put];split
   ·exact⟨_,rfl⟩
   ·rename_i hne;rw [Hp.get_put,aJd hne,Hp.get_put,aJd hne] at hj;exact⟨y,hj⟩
  ·rw [Hp.get_put] at hj ⊢;split
   ·exact⟨_,rfl⟩
   ·rename_i hne;rw [aJd hne] at hj;rw [Hp.get_put,aJd hne];exact⟨y,hj⟩
 have hcells:=(g3.live id _ (by rw [Hp.get_put,aJe rfl])).2.1
 have hor:OR E w'.heap id (.vec e1 t I5 []):=by
  refine OR.zO.2 ⟨⟨oC _,?_⟩,hcells⟩;rw [he1];refine⟨by rw [aW],?_,?_⟩
  ·rw [aW];intro d hd;rcases aJ0.1 hd with hd|hd
   ·rcases aJ0.1 hd with hd|hd
    ·exact hw.2.1 d (by rw [hL]; exact aJX hd)
    ·exact hwf d hd
   ·exact hw.2.1 d (by rw [hL]; exact aJT hd)
  ·rw [aW];intro q;have:=congrArg List.length q;simp only [aJy,aJB,aJQ,aJt,hds] at this;have hne:=aKe.2 hw.2.2;rw [hL] at hne;omega
 refine⟨w',g1,(g2.left al1).right al2,?_⟩;exact g3.swap (id:=id) (by rw [Hp.get_put,aJe rfl]) hor (by rw [Hp.get_put,aJe rfl]) (fun j hj=>by rw [Hp.get_put,aJd hj,Hp.get_put,aJd hj,Hp.get_put,aJd hj]) rfl rfl
theorem Zt [Glob] {s s':St} (r:bJ E s.h w) (hp:bM E.ρ s.pc) {id t t1 t2 ty e:Nat} {e0 n1 m sd lo:SE} {I5:TypeId} {ie:TI} {d2:TypeDesc} (hte:vP P e ie) (ht:P.underlying t1=some (.slice e)) (ht2:P.underlying t2=some d2) (hd2: ∀k,d2≠.int k)
 (hes:(rowOf t).es=ie.size) (hs0:ie.size≠0) (hl:s.h.get id=some (.vec e0 t I5 [])) (hlo:isZ lo=true) {u u2:Value} {us:Array Value} {ds:List D} (hx:VR E w.heap (.BL id lo n1 t) u) {mm:Nat} (hm:m.den E.ρ=(mm:Int))
 (hds:ds.length=mm) (hsd:(dec (sd.den E.ρ)).l=ds) (hwf: ∀d∈ds,xX (rowOf t) d) {news:List AV} (src:Src P E w ie.size mm news u2 us) (hv:bP E w.heap (aO E.ρ (rowOf t) [] ds 0) us.toList) {v:AV} (h:(aiW id t I5 e0 n1 m sd s).leaf E.ρ=some (v,s')) :
 s'.slots=s.slots/\bM E.ρ s'.pc/\∃z w' E',(Builtin.append_ #[t1,t2] ty #[u,u2]).run P w= .ok z w'/\Stp E s.h w E' s'.h w'/\bJ E' s'.h w'/\VR E' w'.heap v z:=by
 unfold aiW at h;obtain⟨pc',hp',g1,g2,g3,g4⟩:=Jj hp h;have:=aH g4;simp only [aJg] at this;obtain⟨rfl,rfl⟩:=this;have hlo:=OM hlo;subst hlo;have hx0:=hx;simp only [VR] at hx;obtain⟨hid,l0,k,a,cap,q1,q2,rfl,q4,q5⟩:=hx;simp only [SE.den] at q1;have hl0:l0=0:=by omega
 subst hl0;rw [aJ3] at q5;obtain⟨rfl,hroom⟩:=amR r hl (by rw [hes]; exact hs0) q5;have hle:k+mm<=(dec (e0.den E.ρ)).l.length:=by omega
 obtain⟨inf,d,z,h1,h2,h3,h4,h5,h6,h7,h8⟩:=hte.all
 obtain⟨w',f1,f2,f3⟩:=MW (P:=P) r hl (n:=k) hle hds hwf hv src.ones (e1:=.op .cat (.op .cat (.op .take e0 n1) sd) (.op .drop e0 (zX n1 m))) (by
  have hn:((k:Int)+(mm:Int)).toNat=k+mm:=by omega
  simp only [SE.den,iY.den,aF,aW,vX,jC,q2,hm,hn,hsd,aJJ])
 refine⟨rfl,hp',.slice (some ⟨(E.θ id).1,(E.θ id).2,none⟩) (k+mm) cap,w',E,?_,f2,f3,?_⟩
 ·exact oK (s:=ie.size) ht ht2 hd2 h1 h5 src (by omega) (by simp only [gI]; rw [<- hes]; exact f1)
 ·simp only [VR];refine⟨hid,0,k+mm,_,_,rfl,by rw [vX,q2,hm]; rfl,rfl,by omega,?_⟩;rw [aJ3];simp only [gJ] at q5 ⊢;rcases q5 with q5|q5
  ·exact .inl q5
  ·have hne:=aKe.2 (OR.zO.1 (r.live id _ hl).2.1).1.2.2.2;omega
theorem Y4 [Glob] {tt:TT} (htt:eY P tt) {s s':St} (r:bJ E s.h w) (hp:bM E.ρ s.pc) {t t2 ty id t':Nat} {lo n1:SE} {y v:AV} {u u2:Value} (hlo:isZ lo=true) (hx:VR E w.heap (.BL id lo n1 t') u) (hy:VR E w.heap y u2) (h:(PD tt t t2 id n1 t' y s).leaf E.ρ=some (v,s')) :
 s'.slots=s.slots/\bM E.ρ s'.pc/\∃z w' E',(Builtin.append_ #[t,t2] ty #[u,u2]).run P w= .ok z w'/\Stp E s.h w E' s'.h w'/\bJ E' s'.h w'/\VR E' w'.heap v z:=by
 unfold PD at h;split at h
 ·rename_i ti hti;split at h
  ·rename_i e hk;split at h
   ·rename_i ie hie;split at h
    ·simp [T.leaf] at h
    ·rename_i ti2 arN;obtain⟨d2,hd2,hk2⟩:=zD (htt t2 ti2 arN);split at h
     ·simp [T.leaf] at h
     ·rename_i k2 hne
      have YJ: ∀k,d2≠.int k:=by intro k hd;subst hd;cases hkk:ti2.kind<;>rw [hkk] at hk2<;>simp only [U7] at hk2;exact hne _ hkk
      split at h
      ·simp [T.leaf] at h
      ·rename_i hcond;simp only [not_or,Classical.not_not] at hcond;obtain⟨hs0,hb0,hzl,hes⟩:=hcond;have hte:=htt e ie hie;have hu:=gK (htt t ti hti) hk;split at h
       ·simp [T.leaf] at h
       ·rename_i e0 I5 hva;have hl:=Ac hva;split at h
        ·rename_i id2 lo2 n2 t2';split at h
         ·rename_i hi2;split at h
          ·rename_i ht2;have hi2:=aJj hi2;have ht2:=aJj ht2;subst hi2 ht2;obtain⟨pc1,hp1,g1,g2,g3,g4⟩:=Jj hp h;have hy0:=hy;simp only [VR] at hy;obtain⟨hid,l,k,a,cap,q1,q2,rfl,q4,q5⟩:=hy;obtain⟨rc,ho,hw⟩:=r.zO hl;generalize hL:(dec (e0.den E.ρ)).l=L at *;have hlk:l+k<=L.length:=by omega
           have hsp:L=L.take l++((L.take (l+k)).drop l++L.drop (l+k)):=by
            conv=>lhs; rw [<- aKp (l+k) L]
            conv=>lhs; rw [<- aKp l (L.take (l+k))]
            rw [aKW,aKa];congr 2;omega
           have hcc:dN E.ρ e0 t2' []=aO E.ρ (rowOf t2') [] (L.take l) 0++(aO E.ρ (rowOf t2') [] ((L.take (l+k)).drop l) 0++aO E.ρ (rowOf t2') [] (L.drop (l+k)) 0):=by
            unfold dN;rw [hL]
            conv=>lhs; rw [hsp]
            rw [mQ,mQ]
           have hlA:(aO E.ρ (rowOf t2') [] (L.take l) 0).length=l*(rowOf t2').es:=by rw [bY (oC _),aJB];congr 1;omega
           have hlen:((L.take (l+k)).drop l).length=k:=by rw [aJQ,aJB]; omega
           have hlB:(aO E.ρ (rowOf t2') [] ((L.take (l+k)).drop l) 0).length=k*(rowOf t2').es:=by rw [bY (oC _),hlen]
           have hy1:VR E w.heap (.slice id2 (l*(rowOf t2').es) k (.rest (rowOf t2').es)) (.slice (some a) k cap):=by simp only [VR];exact⟨hid,a,cap,rfl,q4,q5⟩
           obtain⟨us,src⟩:=xH (P:=P) rc hy1 (s:=ie.size) (m:=k) (news:=aO E.ρ (rowOf t2') [] ((L.take (l+k)).drop l) 0) (by
            simp only [yN,rM,Hp.get_put,if_true];rw [hcc,<- hlA,Bf];simp only;rw [<- hes,<- hlB,RU]
            rfl)
           refine Zt (s:={ s with pc:=pc1 }) r hp1 hte hu hd2 YJ hes hs0 hl hlo hx q2 hlen (by rw [Ol q1 q2,jC,hL]) (fun d hd=>hw.2.1 d ?_) src src.vrs g4;rw [hL];exact aJX (aJT hd)
          ·simp [T.leaf] at h
         ·simp [T.leaf] at h
        ·split at h
         ·simp [T.leaf] at h
         ·rename_i m news hsrc;obtain⟨us,src⟩:=xH (P:=P) r hy hsrc;split at h
          ·simp [T.leaf] at h
          ·rename_i m';split at h
           ·split at h
            ·rename_i sd hcr;obtain⟨ds,c1,c2,c3,c4,c5⟩:=Dt (ρ:=E.ρ) _ hcr;simp only [SE.den,aF,D.l,aJo] at c2;exact Zt r hp hte hu hd2 YJ hes hs0 hl hlo hx (mm:=m'+1) (by simp only [SE.den]; rfl) c1 c2 c4 src (c5 E w.heap _ 0 rfl src.vrs) h
            ·simp [T.leaf] at h
           ·simp [T.leaf] at h
   ·simp [T.leaf] at h
  ·simp [T.leaf] at h
 ·simp [T.leaf] at h
theorem KF [Glob] {tt:TT} (htt:eY P tt) {s s':St} (r:bJ E s.h w) (hp:bM E.ρ s.pc) {t ty id t':Nat} {lo n:SE} {v:AV} {u:Value} (hx:VR E w.heap (.BL id lo n t') u) (h:(Ij tt t id lo n t' s).leaf E.ρ=some (v,s')) :
 s'.slots=s.slots/\bM E.ρ s'.pc/\v=AV.undef/\∃w' E',(Builtin.clear_ #[t] ty #[u]).run P w= .ok (.tuple #[]) w'/\Stp E s.h w E' s'.h w'/\bJ E' s'.h w':=by
 unfold Ij at h;split at h
 ·rename_i ti hti;split at h
  ·rename_i e hk;have hu:=gK (htt t ti hti) hk;split at h
   ·rename_i ie hie;obtain⟨inf,d,z,h1,h2,h3,h4,h5,h6,h7,h8⟩:=(htt e ie hie).all;have hz:=fU (E:=E) (h:=w.heap) h4;split at h
    ·rename_i hcond;obtain⟨hes,hs0⟩:=hcond;split at h
     ·simp [T.leaf] at h
     ·rename_i e0 I4 hva;have hl:=Ac hva;split at h
      ·simp [T.leaf] at h
      ·rename_i zz hzz;obtain⟨pc1,hp1,g1⟩:=dB hp h;split at g1
       ·simp [T.leaf] at g1
       ·rename_i t1;obtain⟨pc2,hp2,g2⟩:=dB (s:={ s with pc:=pc1 }) hp1 g1;split at g2
        ·simp [T.leaf] at g2
        ·rename_i t2;obtain⟨pc3,hp3,g3⟩:=dB (s:={ s with pc:=pc2 }) hp2 g2;split at g3
         ·simp [T.leaf] at g3
         ·rename_i t3;have:=aH g3;simp only [aJg] at this;obtain⟨rfl,rfl⟩:=this;rw [dV,decide_eq_false_iff_not] at t1 t2;rw [mZ,beq_iff_eq,vX,dF] at t3;simp only [VR] at hx;obtain⟨hid,l,k,a,cap,q1,q2,rfl,q4,q5⟩:=hx;have hlk:l+k=(dec (e0.den E.ρ)).l.length:=by omega
          have hn0:(dec (e0.den E.ρ)).l.length-l=k:=by omega
          have hwz:=Bq (ρ:=E.ρ) hzz;have hrz:EN E.ro w.heap (rowOf t') (dec (zz.den E.ρ)) z.cells.toList:=Bv hz.1 hzz
          have aIj:bP E w.heap (jS (rowOf t') (.dat (dec (zz.den E.ρ)))) z.cells.toList:=by rw [iI];simp only [SE.den,aF];exact hrz
          have hrep: ∀m:Nat,aO E.ρ (rowOf t') [] (List.replicate m (dec (zz.den E.ρ))) 0=repeatL (jS (rowOf t') (.dat (dec (zz.den E.ρ)))) m:=by
           intro m
           induction m with
           |zero=>rfl
           |succ m ih=> simp only [aLG,aO,dR,repeatL];rw [oI _ 1 0,ih]
          have hv:bP E w.heap (aO E.ρ (rowOf t') [] (List.replicate k (dec (zz.den E.ρ))) 0) (repeatL z.cells.toList k):=by rw [hrep];exact qR aIj k
          obtain⟨w',f1,f2,f3⟩:=MW (P:=P) r hl (n:=l) (mm:=k) (by omega) (aKr) (fun d hd=>by rw [aLU hd]; exact hwz) hv (fun u hu=>hz.2 u (qQ hu)) (e1:=.op .fill e0 (iG (Jc lo) zz)) (by
           simp only [iG,SE.den,iY.den,aF,qA,D.n,q1,aJJ,hn0,hlk]
           rw [List.drop_length,aJ1])
          refine⟨rfl,hp3,rfl,w',E,?_,f2,f3⟩;rcases aKy k with hk0|hk0
          ·subst hk0;simp only [repeatL] at f1
           have:w'=w:=by simp [storeCells] at f1;exact f1.symm
           subst this;simp [Builtin.clear_,run_underlying hu]
          ·have ha:a=⟨(E.θ id).1,(E.θ id).2+l*(rowOf t').es,none⟩:=by
            simp only [gJ] at q5;rcases q5 with q5|q5
            ·exact q5.1
            ·omega
           have aD9:z.cells.toList≠[]:=by intro hx;have:=EN.length hrz;rw [hx] at this;simp at this;omega
           have hzc:(Builtin.zeroCells z.cells k).toList=repeatL z.cells.toList k:=BP z.cells aD9 k;subst ha;obtain⟨j,rfl⟩ : ∃j,k=j+1:=⟨k-1,by omega⟩;simp [Builtin.clear_,run_underlying hu,zeroValue,typeInfo,h1,h3,hzc,f1]
    ·simp [T.leaf] at h
   ·simp [T.leaf] at h
  ·simp [T.leaf] at h
 ·simp [T.leaf] at h
end
theorem qU (l:List Nat):(pJ l).l.length=l.length:=by simp [pJ]
theorem alQ {a b:List Nat} (h:pJ a=pJ b):a=b:=by
 have:=P6 h
 induction a generalizing b with
 |nil=>cases b with
  |nil=>rfl
  |cons y b=>simp at this
 |cons x a ih=>cases b with
  |nil=>simp at this
  |cons y b=> simp only [aJz,List.cons.injEq,D.i.injEq,Int.ofNat_eq_natCast,aK5] at this;rw [this.1,ih (b:=b) (by unfold pJ; exact congrArg dL (by simpa using this.2)) (by simpa using this.2)]
theorem P5: ∀(x y:List Nat),Zh (x.map fun b=>D.i (Int.ofNat b)) (y.map fun b=>D.i (Int.ofNat b))=bytesLess x y
 |[],[]=>rfl
 |[],_::_=>rfl
 |_::_,[]=>rfl
 |a::x,b::y=>by
  simp only [aJz,Zh,bytesLess,D.n,P5 x y];have i1:(Int.ofNat a<Int.ofNat b)=(a<b):=propext aKX;have i2:(Int.ofNat b<Int.ofNat a)=(b<a):=propext aKX;simp only [i1,i2];rcases aLH a b with h|h|h
  ·have h1:a.blt b=true:=by simp [Nat.blt]; omega
   simp [h,h1]
  ·subst h;have h1:a.blt a=false:=by rw [aKs]; simp [Nat.blt]
   simp [h1]
  ·have h2:a.blt b=false:=by rw [aKs]; simp [Nat.blt]; omega
   have h3:a.beq b=false:=by rw [aKs]; simp; omega
   have h4: ¬a<b:=by omega
   simp [h,h2,h3,h4]
section
variable {P:Program} {E:En} {w:World}
theorem VR.azZ {h:Array Obj} {e:SE} {v:Value} (hv:VR E h (.nJ e) v): ∃l:List Nat,v= .string (cO l)/\(∀b∈l,b<256)/\dec (e.den E.ρ)=pJ l:=by
 simp only [VR] at hv;obtain⟨s,rfl,hs⟩:=hv.string;refine⟨bytesOf s,by rw [oM],F6 s,?_⟩;rw [hs,Il _ (F6 s)]
 conv=>lhs; rw [<- oM s]
 simp [Bo,cO]
theorem VR.aqH {h:Array Obj} {e:SE} {l:List Nat} (hl: ∀b∈l,b<256) (he:dec (e.den E.ρ)=pJ l):VR E h (.nJ e) (.string (cO l)):=by simp only [VR];rw [he,Il _ hl];have:=Rd.str (ro:=E.ro) (h:=h) (cO l);simpa [Bo,cO] using this
theorem NJ {h:Array Obj} {x:AV} {u:Value} {e:SE} (hx:VR E h x u) (hs:BG x=some e): ∃l:List Nat,u= .string (cO l)/\(∀b∈l,b<256)/\dec (e.den E.ρ)=pJ l:=by
 unfold BG at hs;split at hs
 ·simp only [aJf] at hs;subst hs;simp only [VR] at hx;exact⟨_,hx.1,hx.2,by simp only [SE.den,aF]⟩
 ·simp only [aJf] at hs;subst hs;exact hx.azZ
 ·simp at hs
theorem acJ {tt:TT} (htt:eY P tt) {s s':St} (hp:bM E.ρ s.pc) {ty:Nat} {e:SE} {ix v:AV} {u ui:Value} (hx:VR E w.heap (.nJ e) u) (hix:VR E w.heap ix ui) (h:(Wv tt s ty e ix).leaf E.ρ=some (v,s')) :
 s'.slots=s.slots/\s'.h=s.h/\bM E.ρ s'.pc/\∃r,(Instr.index ty u ui).run P w= .ok r w/\VR E w.heap v r:=by
 unfold Wv at h;split at h
 ·rename_i kd i;split at h
  ·rename_i ti hti;split at h
   ·rename_i hk;obtain⟨pc',hp',h1,h2,h3⟩:=sU hp h;have:=aH h3;simp only [aJg] at this;obtain⟨rfl,rfl⟩:=this;refine⟨rfl,rfl,hp',?_⟩;obtain⟨l,rfl,hb,hd⟩:=hx.azZ;simp only [VR] at hix;subst hix;rw [dF,hd,qU] at h2;obtain⟨k,hk2⟩ : ∃k:Nat,i.den E.ρ=(k:Int):=⟨(i.den E.ρ).toNat,by omega⟩;have hlt:k<l.length:=by omega
    have hg:(cO l)[k]?=some (UInt8.ofNat l[k]):=by rw [NP,aJu hlt]; rfl
    have h256:=hb l[k] (aJm hlt);rw [hk2];refine⟨_,by simp [Instr.index,asIntOf,run_underlying (iF (htt ty ti hti) hk),hg]; rfl,?_⟩
    have hdk:(dec (e.den E.ρ)).l[k]?=some (.i (Int.ofNat l[k])):=by rw [hd];simp only [pJ,aW,aJF,aJu hlt,aJU]
    simp only [VR,Jb,JJ E.ρ e i hk2 hdk,D.n];congr 1;simp;omega
   ·simp [T.leaf] at h
  ·simp [T.leaf] at h
 ·simp [T.leaf] at h
theorem acI {tt:TT} (htt:eY P tt) {s s':St} (hp:bM E.ρ s.pc) {ty:Nat} {e:SE} {lo hi mx:Option AV} {lo' hi' mx':Option Value} {v:AV} {u:Value} (hx:VR E w.heap (.nJ e) u)
 (hlo:jK E w.heap lo lo') (hhi:jK E w.heap hi hi') (hmx:jK E w.heap mx mx') (h:(Wu tt s ty e lo hi mx).leaf E.ρ=some (v,s')) :
 s'.slots=s.slots/\s'.h=s.h/\bM E.ρ s'.pc/\∃r,(Instr.sliceAt ty u lo' hi' mx').run P w= .ok r w/\VR E w.heap v r:=by
 unfold Wu at h;split at h
 ·simp [T.leaf] at h
 ·simp only [jK] at hmx;subst hmx;split at h
  ·simp [T.leaf] at h
  ·rename_i ti hti;split at h
   ·rename_i hk;have hu:=iF (htt ty ti hti) hk;split at h
    ·simp [T.leaf] at h
    ·rename_i ql hql;split at h
     ·simp [T.leaf] at h
     ·rename_i qh hqh;obtain⟨pc1,hp1,h1⟩:=dB hp h;split at h1
      ·simp [T.leaf] at h1
      ·rename_i t1;obtain⟨pc2,hp2,h2⟩:=dB (s:={ s with pc:=pc1 }) hp1 h1;split at h2
       ·simp [T.leaf] at h2
       ·rename_i t2;obtain⟨pc3,hp3,h3⟩:=dB (s:={ s with pc:=pc2 }) hp2 h2;split at h3
        ·simp [T.leaf] at h3
        ·rename_i t3;have:=aH h3;simp only [aJg] at this;obtain⟨rfl,rfl⟩:=this;refine⟨rfl,rfl,hp3,?_⟩;obtain⟨l,rfl,hb,hd⟩:=hx.azZ;rw [dV,decide_eq_false_iff_not] at t1 t2 t3;rw [dF,hd,qU] at t3;simp only [SE.den,aKx] at t1;obtain⟨a,ha⟩ : ∃a:Nat,ql.den E.ρ=(a:Int):=⟨(ql.den E.ρ).toNat,by omega⟩;obtain⟨b,hbb⟩ : ∃b:Nat,qh.den E.ρ=(b:Int):=⟨(qh.den E.ρ).toNat,by omega⟩;have hle:b<=l.length:=by omega
         have hab:a<=b:=by omega
         obtain⟨lo2,hlo2,hbl⟩:=aqZ hql hlo ha
         have hhi2: ∃hi2,jK E w.heap hi2 hi'/\bnd hi2 l.length l.length=some b:=by
          unfold hiE at hqh;split at hqh
          ·simp only [aJf] at hqh;subst hqh;rw [dF,hd,qU] at hbb;have:b=l.length:=by omega
           subst this;exact⟨none,hhi,by simp [bnd]⟩
          ·split at hqh
           ·simp only [aJf] at hqh;subst hqh;exact⟨_,Md hbb hhi,MO hle⟩
           ·simp at hqh
         obtain⟨hi2,hhi2,IV⟩:=hhi2;obtain⟨e1,e2⟩:=iO (P:=P) (w:=w) (isSlice:=false) (len:=l.length) (cap:=l.length) (m0:=l.length) (d:=0) hlo2 hhi2 (mx:=none) (mx':=none) rfl (by simp) (.inl ⟨rfl,rfl,aJi _⟩) IV ⟨fun _=>aJi _,by simp⟩ (hbl b hab);refine⟨.string ((cO l).extract a b),?_,?_⟩
         ·rw [<- oL] at e1;simp [Instr.sliceAt,run_underlying hu,Instr.slice,e1]
         ·rw [Af];refine VR.aqH (fun c hc=>hb c (aJX (aJT hc))) ?_;simp only [iG,SE.den,iY.den,aF,qA,D.hd,D.l,aJn,aJk,aJl,D.n,ha,hbb,aJJ,hd];simp only [pJ,aW,aLv,aLw]
   ·simp [T.leaf] at h
theorem Vt {x y:AV} {a b:SE} (h:LK x y=some (a,b)):BG x=some a/\BG y=some b:=by
 unfold LK at h;split at h
 ·simp at h
 ·split at h
  ·simp at h
  ·rename_i c hc;split at h
   ·simp at h
   ·rename_i d hd;simp only [aJf,aJg] at h;exact⟨by rw [hc,h.1],by rw [hd,h.2]⟩
theorem Sm (ρ:Nat->Int) {a b:SE} {x y:List Nat} (ha:dec (a.den ρ)=pJ x) (hb:dec (b.den ρ)=pJ y):(Sr a b).den ρ=bytesLess x y:=by simp only [Sr,SB.den,SE.den,iY.den,ha,hb,pJ,aW];have:=P5 x y;rw [this];cases bytesLess x y<;>rfl
theorem Iy: ∀(x y:List Nat),(bytesLess x y||jW x y)=!(bytesLess y x)
 |[],[]=>rfl
 |[],_::_=>rfl
 |_::_,[]=>rfl
 |a::x,b::y=>by
  have ih:=Iy x y;simp only [bytesLess,jW];rcases aLH a b with h|h|h
  ·have h1:a.blt b=true:=by simp [Nat.blt]; omega
   have h2:b.blt a=false:=by rw [aKs]; simp [Nat.blt]; omega
   have h3:b.beq a=false:=by rw [aKs]; simp; omega
   simp [h1,h2,h3]
  ·subst h;have h1:a.blt a=false:=by rw [aKs]; simp [Nat.blt]
   simp [h1,ih]
  ·have h1:b.blt a=true:=by simp [Nat.blt]; omega
   have h2:a.blt b=false:=by rw [aKs]; simp [Nat.blt]; omega
   have h3:a.beq b=false:=by rw [aKs]; simp; omega
   simp [h1,h2,h3]
theorem alF {s s':St} (hp:bM E.ρ s.pc) {t:Nat} {op:BinOp} {x y v:AV} {a b:SE} {u u':Value} (hx:VR E w.heap x u) (hy:VR E w.heap y u') (hs:LK x y=some (a,b)) (h:(acK op a b s).leaf E.ρ=some (v,s')) :
 s'.slots=s.slots/\s'.h=s.h/\bM E.ρ s'.pc/\(∃r,(binOp op t u u').run P w= .ok r w/\VR E w.heap v r)/\(∀cs ds,¬(u= .agg cs/\u'= .agg ds))/\¬(u= .nilIface/\u'= .nilIface):=by
 obtain⟨hsx,hsy⟩:=Vt hs;obtain⟨l,rfl,hbl,hdl⟩:=NJ hx hsx;obtain⟨m,rfl,hbm,hdm⟩:=NJ hy hsy
 have heq:((CB (sD a) (sD b)).den E.ρ)=jW l m:=by rw [qP,qH,qH,hdl,hdm,aJW,beq_iff_eq,qL];exact⟨fun q=>alQ (jB q),fun q=>by rw [q]⟩
 have hne:(∀cs ds,¬(Value.string (cO l)= .agg cs/\Value.string (cO m)= .agg ds))/\¬(Value.string (cO l)= .nilIface/\Value.string (cO m)= .nilIface):=⟨by simp,by simp⟩
 have fin: ∀(c:AV) (o:BinOp),XY o l m=some c->(∀q,VR E w.heap c q->VR E w.heap v q)->(∀q,(Op.stringOp o (cO l) (cO m)).run P w= .ok q w->(binOp o t (.string (cO l)) (.string (cO m))).run P w= .ok q w)->
  ∃r,(binOp o t (.string (cO l)) (.string (cO m))).run P w= .ok r w/\VR E w.heap v r:=by
  intro c o ho hc hq;obtain⟨r,h1,h2⟩:=XW (P:=P) (E:=E) (w:=w) hbl hbm ho;exact⟨r,hq _ h1,hc r h2⟩
 unfold acK at h;split at h
 ·obtain⟨pc1,hp1,h1⟩:=dB hp h;split at h1
  ·simp [T.leaf] at h1
  ·rename_i t1;obtain⟨pc2,hp2,h2⟩:=dB (s:={ s with pc:=pc1 }) hp1 h1;split at h2
   ·simp [T.leaf] at h2
   ·rename_i t2;have:=aH h2;simp only [aJg] at this;obtain⟨rfl,rfl⟩:=this;rw [dV,decide_eq_true_eq,dF,hdl,qU] at t1;rw [dV,decide_eq_true_eq,dF,hdm,qU] at t2;simp only [SE.den] at t1 t2;refine⟨rfl,rfl,hp2,⟨.string (cO (l++m)),?_,?_⟩,hne⟩
    ·have hm:IntKind.i64.max=9223372036854775807:=by decide
     have:(Op.stringOp .add (cO l) (cO m)).run P w= .ok (.string (cO l++cO m)) w:=by simp only [Op.stringOp,oL,hm];rw [aJd (by omega)];rfl
     have e:cO l++cO m=cO (l++m):=by apply ByteArray.ext;simp [cO]
     rw [e] at this;simpa [binOp] using this
    ·refine VR.aqH (fun c hc=>?_) ?_
     ·rcases aJ0.1 hc with hc|hc
      ·exact hbl c hc
      ·exact hbm c hc
     ·simp only [SE.den,iY.den,aF,hdl,hdm];simp only [pJ,aW,aKz]
 all_goals first
  |(simp [T.leaf] at h; done)
  |(have:=aH h
    simp only [aJg] at this;obtain⟨rfl,rfl⟩:=this;refine⟨rfl,rfl,hp,?_,hne⟩;refine fin _ _ rfl (fun q hq=>?_) (fun q hq=>by simpa [binOp] using hq);simp only [VR,SB.den,sF] at hq ⊢
    first
     |(rw [heq]; exact hq)
     |(rw [Sm E.ρ hdl hdm]; exact hq)
     |(rw [Sm E.ρ hdm hdl]; rw [Iy] at hq; simpa using hq))
theorem adA [Glob] {tt:TT} (htt:eY P tt) {s s':St} (r:bJ E s.h w) (hp:bM E.ρ s.pc) {sT dT:Nat} {e:SE} {v:AV} {u:Value} (hx:VR E w.heap (.nJ e) u) (h:(MI tt sT dT e s).leaf E.ρ=some (v,s')) :
 s'.slots=s.slots/\bM E.ρ s'.pc/\∃y w' E',(convert sT dT u).run P w= .ok y w'/\Stp E s.h w E' s'.h w'/\bJ E' s'.h w'/\VR E' w'.heap v y:=by
 unfold MI at h;split at h
 ·simp [T.leaf] at h
 ·rename_i j hj;split at h
  ·rename_i hjk;split at h
   ·simp [T.leaf] at h
   ·rename_i i hi;split at h
    ·rename_i el hik;split at h
     ·rename_i ie hie;split at h
      ·rename_i k aIt;split at h
       ·obtain⟨l,rfl,hb,hd⟩:=hx.azZ
        have hcv:vT tt sT dT (.str l) s.h=some (.slice s.h.fresh 0 l.length (.rest 1),s.h.new (.cells (l.map fun c=> .int .u8 (.lit (Int.ofNat c))) el)):=by unfold vT;simp only [hj,hi,hik,hie,aIt,hjk];simp
        obtain⟨y,w',E',g1,g2,g3,g4⟩:=Ii (P:=P) htt r (x:=.str l) (u:=.string (cO l)) (by simp only [VR]; exact⟨trivial,hb⟩) hcv;obtain⟨pc1,hp1,h1⟩:=dB hp h;rw [qP,dF,hd,qU] at h1;split at h1
        ·rename_i hz;have:=aH h1;simp only [aJg] at this;obtain⟨rfl,rfl⟩:=this;simp only [SE.den,beq_iff_eq] at hz;have hl0:l= []:=aJV (by omega);subst hl0;exact⟨rfl,hp1,y,w',E',g1,g2,g3,g4⟩
        ·rename_i hz;have:=aH h1;simp only [aJg] at this;obtain⟨rfl,rfl⟩:=this;simp only [SE.den,beq_eq_false_iff_ne,ne_eq] at hz;have hd':dec (e.den E'.ρ)=pJ l:=by rw [g2.ρ]; exact hd
         have hcc:dN E'.ρ e 14 []=l.map fun c=>AV.int .u8 (.lit (Int.ofNat c)):=by
          unfold dN;rw [hd'];simp only [pJ,aW]
          have: ∀(l:List Nat) (i:Nat),aO E'.ρ (rowOf 14) [] (l.map fun b=>D.i (Int.ofNat b)) i=l.map fun c=>AV.int .u8 (.lit (Int.ofNat c)):=by
           intro l
           induction l with
           |nil=>intro i; rfl
           |cons a l ih=> intro i;simp only [aJz,aO,dR,ih];rfl
          exact this l 0
         have r2:=L6 (e1:=e) (t:=14) g3 (by
          rw [hd'];refine⟨by simp only [pJ,aW],fun x hx=>?_,fun q=>?_⟩
          ·simp only [pJ,aW,aJE] at hx;obtain⟨b,_,rfl⟩:=hx;rfl
          ·have:=congrArg List.length q;rw [qU] at this
           exact hz (by simp at this; simp [this])) (by rw [hcc]) (fun us hu=>by rw [hcc]; exact hu)
         refine⟨rfl,hp1,y,w',E',g1,g2.right (L8 rfl rfl fun _=>rfl),r2,?_⟩;simp only [VR] at g4 ⊢;obtain⟨q1,a,cap,q2,q3,q4⟩:=g4;exact⟨q1,l.length,a,cap,by rw [dF,hd',qU],q2,q3,q4⟩
       ·simp [T.leaf] at h
      ·simp [T.leaf] at h
     ·simp [T.leaf] at h
    ·simp [T.leaf] at h
  ·simp [T.leaf] at h
end
section
variable {P:Program} {E:En} {w:World}
def agZ (c:CK):Prop:=(∃k,c= .int k)\/c= .str
theorem TN (t:Nat):agZ (mapOf t).1:=by
 unfold mapOf;split<;>first |exact .inl ⟨_,rfl⟩|exact .inr rfl
theorem bytes_beq (p q:ByteArray):(p == q)=decide (p=q):=by
 rw [aJW,decide_eq_true_eq];have e:(p == q)=(p.data == q.data):=rfl;rw [e,beq_iff_eq];constructor
 ·intro h; cases p; cases q; simp only at h; rw [h]
 ·intro h; rw [h]
theorem arC {ro:Nat->Prop} {h:Array Obj} {c:CK} (hc:agZ c) {dt:TypeDesc} (hd:JM dt (Ky c)) {d d':D} {u u':Value} (r:Rd ro h c d u) (r':Rd ro h c d' u') :
 Instr.sameNow dt u u'=some (decide (d=d'))/\(d=d'->∀n,Instr.sameBits (n+1) u' u=true):=by
 rcases hc with ⟨k,rfl⟩|rfl
 ·simp only [Ky] at hd;obtain⟨k',rfl⟩:=hd
  cases r with
  |int _ n=>
   cases r' with
   |int _ m=>
    refine⟨?_,fun hh n=>?_⟩
    ·simp only [Instr.sameNow,D.i.injEq]
     first
      |rfl
      |(congr 1; rw [aJW]; simp)
    ·simp only [D.i.injEq] at hh;subst hh;simp [Instr.sameBits]
 ·simp only [Ky] at hd;simp only [JM] at hd;subst hd;obtain⟨a,rfl,rfl⟩:=r.string;obtain⟨b,rfl,rfl⟩:=r'.string;refine⟨?_,fun hh n=>?_⟩
  ·simp only [Instr.sameNow,bytes_beq];congr 1;rw [decide_eq_decide];exact⟨fun q=>by rw [q],fun q=>PY q⟩
  ·have:=PY hh;subst this;simp [Instr.sameBits,bytes_beq]
theorem H9 {ro:Nat->Prop} {h:Array Obj} {t:Nat} {dt:TypeDesc} (hd:JM dt (Ky (mapOf t).1)) {kd:D} {u:Value} (hk:Rd ro h (mapOf t).1 kd u): ∀{ds:List D} {ents:List MapEntry} {i:Nat},
 pW ro h t ds ents->
 (pG ds kd=none/\Instr.findNow dt u ents i=some none/\(∀v,CX ds kd v=ds++ [.p kd v])/\VY ds kd=ds)\/
 (∃j x e,pG ds kd=some x/\ents[j]?=some e/\Rd ro h (mapOf t).2 x e.val/\Instr.findNow dt u ents i=some (some (i+j,e.val))/\(∀n,Instr.sameBits (n+1) e.key u=true)/\(∀v,CX ds kd v=ds.set j (.p kd v))/\VY ds kd=ds.eraseIdx j)
 |[],ents,i,he=>by simp only [pW] at he;subst he;exact .inl ⟨rfl,by simp [Instr.findNow],fun _=>rfl,rfl⟩
 |d::ds,ents,i,he=>by
  obtain⟨e,r,rfl,h1,h2,h3,h4⟩:=he;obtain⟨g1,g2⟩:=arC (TN t) hd hk h2;by_cases hkd:Zi d=kd
  ·have g1':Instr.sameNow dt u e.key=some true:=by rw [g1,decide_eq_true hkd.symm]
   refine .inr ⟨0,awD d,e,by simp only [pG,aJe hkd],rfl,h3,by simp [Instr.findNow,g1'],g2 hkd.symm,fun v=>by simp only [CX,aJe hkd,aLb],by simp only [VY,aJe hkd,List.eraseIdx_cons_zero]⟩
  ·have g1':Instr.sameNow dt u e.key=some false:=by rw [g1,decide_eq_false (fun q=>hkd q.symm)]
   rcases H9 (i:=i+1) hd hk h4 with ⟨q1,q2,q3,q4⟩|⟨j,x,e',q1,q2,q3,q4,q5,q6,q7⟩
   ·exact .inl ⟨by simp only [pG,aJd hkd,q1],by simp [Instr.findNow,g1',q2],fun v=>by simp only [CX,aJd hkd,q3,aJv],by simp only [VY,aJd hkd,q4]⟩
   ·refine .inr ⟨j+1,x,e',by simp only [pG,aJd hkd,q1],by simpa using q2,q3,?_,q5,fun v=>by simp only [CX,aJd hkd,q6,aLc],by simp only [VY,aJd hkd,q7,aLy]⟩;simp only [Instr.findNow,g1',q4]; congr 3; omega
theorem pW.set {ro:Nat->Prop} {h:Array Obj} {t:Nat} {kd vd:D} {uk uv:Value} (hk:Rd ro h (mapOf t).1 kd uk) (hv:Rd ro h (mapOf t).2 vd uv): ∀{ds:List D} {ents:List MapEntry} {i:Nat} {e:MapEntry},pW ro h t ds ents->ents[i]?=some e->
 pW ro h t (ds.set i (.p kd vd)) (ents.set i { e with key:=uk,val:=uv })
 |[],ents,i,e,he,hi=>by simp only [pW] at he; subst he; simp at hi
 |d::ds,ents,0,e,he,hi=>by obtain⟨e0,r,rfl,h1,h2,h3,h4⟩:=he;simp at hi;subst hi;simp only [aLb];exact⟨_,r,rfl,rfl,hk,hv,h4⟩
 |d::ds,ents,i+1,e,he,hi=>by obtain⟨e0,r,rfl,h1,h2,h3,h4⟩:=he;simp only [aLc];exact⟨e0,_,rfl,h1,h2,h3,pW.set hk hv h4 (by simpa using hi)⟩
theorem pW.push {ro:Nat->Prop} {h:Array Obj} {t:Nat} {kd vd:D} {uk uv:Value} {c:Nat} (hk:Rd ro h (mapOf t).1 kd uk) (hv:Rd ro h (mapOf t).2 vd uv): ∀{ds:List D} {ents:List MapEntry},pW ro h t ds ents->
 pW ro h t (ds++ [.p kd vd]) (ents++ [{ key:=uk,val:=uv,born:=c }])
 |[],ents,he=>by simp only [pW] at he;subst he;exact⟨_,[],rfl,rfl,hk,hv,rfl⟩
 |d::ds,ents,he=>by obtain⟨e0,r,rfl,h1,h2,h3,h4⟩:=he;simp only [aJv];exact⟨e0,_,rfl,h1,h2,h3,pW.push hk hv h4⟩
theorem pW.erase {ro:Nat->Prop} {h:Array Obj} {t:Nat}: ∀{ds:List D} {ents:List MapEntry} {i:Nat},pW ro h t ds ents->pW ro h t (ds.eraseIdx i) (ents.eraseIdx i)
 |[],ents,i,he=>by simp only [pW] at he; subst he; simp [pW]
 |d::ds,ents,0,he=>by obtain⟨e0,r,rfl,h1,h2,h3,h4⟩:=he;simpa using h4
 |d::ds,ents,i+1,he=>by obtain⟨e0,r,rfl,h1,h2,h3,h4⟩:=he;simp only [aLy];exact⟨e0,_,rfl,h1,h2,h3,pW.erase h4⟩
theorem FN {m:AV} {h:Hp} {id t:Nat} {e:SE} (hm:ES m h=some (id,e,t)):m= .map id/\h.get id=some (.jJ e t):=by
 unfold ES at hm;split at hm
 ·split at hm
  ·rename_i o ho;split at hm
   ·simp only [aJf,aJg] at hm;obtain⟨rfl,rfl,rfl⟩:=hm;exact⟨rfl,ho⟩
   ·simp at hm
  ·simp at hm
 ·simp at hm
theorem Js {tt:TT} (htt:eY P tt) {h:Array Obj} {ty t:Nat} {k:AV} {uk:Value} {a:SE} {ie:TI} (hk:VR E h k uk) (hm:mapKey tt ty t k=some (a,ie)) :
 ∃kt et dt,P.underlying ty=some (.map kt et)/\P.underlying kt=some dt/\JM dt (Ky (mapOf t).1)/\vP P et ie/\Rd E.ro h (mapOf t).1 (dec (a.den E.ρ)) uk:=by
 unfold mapKey at hm;split at hm
 ·simp at hm
 ·rename_i ti hti;split at hm
  ·rename_i kt et hkind;split at hm
   ·simp at hm
   ·rename_i ki hki;split at hm
    ·rename_i hkk;split at hm
     ·simp at hm
     ·rename_i ie' hie;split at hm
      ·simp at hm
      ·rename_i a0 ha0;simp only [aJf,aJg] at hm;obtain⟨rfl,rfl⟩:=hm;have hu:=Gm (htt ty ti hti) hkind
       have hkd: ∃dt,P.underlying kt=some dt/\JM dt (Ky (mapOf t).1):=by
        rcases TN t with ⟨q,hq⟩|hq
        ·rw [hq] at hkk ⊢;exact⟨_,DR (htt kt ki hki) hkk,q,rfl⟩
        ·rw [hq] at hkk ⊢;exact⟨_,iF (htt kt ki hki) hkk,rfl⟩
       obtain⟨dt,h1,h2⟩:=hkd;refine⟨kt,et,dt,hu,h1,h2,htt et ie' hie,?_⟩;rw [qH,aF];exact (qV hk ha0).rd (vV ha0)
    ·simp at hm
  ·simp at hm
theorem Jr [Glob] {H:Hp} (r:bJ E H w) {id t:Nat} {e:SE} (hl:H.get id=some (.jJ e t)): ∃ents c',w.heap[(E.θ id).1]?=some (.map ents c')/\pW E.ro w.heap t (dec (e.den E.ρ)).l ents.toList:=
 (r.live id _ hl).2.1
theorem qW {t:Nat} {c:CK} {d:TypeDesc} (hu:P.underlying t=some d) (hd:JM d (Ky c)) (b:Bool) (v:Value):(Instr.checkKey b 10000 t v).run P w= .ok () w:=jH hu hd b v
theorem akT {ρ:Nat->Int} (e a:SE):(arY e a).den ρ=((SE.op .Le e a).den ρ == (SE.lit 0).den ρ):=by
 unfold arY;split
 ·split
  ·simp only [SB.den,SE.den,iY.den,aF];split<;>rename_i hq<;>simp [hq]
  ·rfl
 ·rfl
theorem acR [Glob] {tt:TT} (htt:eY P tt) {s s':St} (r:bJ E s.h w) (hp:bM E.ρ s.pc) {ty id t:Nat} {m k v:AV} {e:SE} {um uk:Value} {ok:Bool} (hm:VR E w.heap m um) (hk:VR E w.heap k uk) (hat:ES m s.h=some (id,e,t)) (h:(Ic tt ty k ok e t s).leaf E.ρ=some (v,s')) :
 s'.slots=s.slots/\s'.h=s.h/\bM E.ρ s'.pc/\∃x,(Instr.lookup ty um uk ok).run P w= .ok x w/\VR E w.heap v x:=by
 obtain⟨rfl,hl⟩:=FN hat
 unfold Ic at h;split at h
 ·simp [T.leaf] at h
 ·rename_i a ie hmk;obtain⟨kt,et,dt,hu,hd1,hd2,hie,hrk⟩:=Js htt hk hmk;split at h
  ·simp [T.leaf] at h
  ·rename_i z hz;obtain⟨u0,z1,z2⟩:=RG (P:=P) (w:=w) (E:=E) hie hz;obtain⟨ents,c',g1,g2⟩:=Jr r hl;have hg:=mP (P:=P) g1 (by simp);simp only [VR] at hm;obtain⟨rfl,hid⟩:=hm;have hf:=H9 (i:=0) hd2 hrk g2;obtain⟨pc1,hp1,h1⟩:=dB hp h;rw [akT] at h1;simp only [SE.den,iY.den] at h1;rcases hf with ⟨q1,q2,_,_⟩|⟨j,x,en,q1,q2,q3,q4,q5,_,_⟩
   ·rw [q1] at h1;have:=aH h1;simp only [aJg] at this;obtain⟨rfl,rfl⟩:=this;refine⟨rfl,rfl,hp1,(if ok then .tuple #[u0,.bool false] else u0),?_,?_⟩
    ·cases ok<;>simp [Instr.lookup,run_underlying hu,hg,qW hd1 hd2,iR hd1 q2,z1]
    ·cases ok
     ·exact z2
     ·simp only [if_true,VR,bP];exact⟨[u0,.bool false],rfl,_,_,rfl,z2,_,_,rfl,by simp [SB.den],rfl⟩
   ·rw [q1] at h1;have:=aH h1;simp only [aJg] at this;obtain⟨rfl,rfl⟩:=this
    have hval:VR E w.heap (BA (mapOf t).2 (.op .Lh e a)) en.val:=by rw [vW];simp only [SE.den,iY.den,aF,q1,aJl];exact q3.cell
    refine⟨rfl,rfl,hp1,(if ok then .tuple #[en.val,.bool true] else en.val),?_,?_⟩
    ·cases ok<;>simp [Instr.lookup,run_underlying hu,hg,qW hd1 hd2,iR hd1 q4]
    ·cases ok
     ·exact hval
     ·simp only [if_true,VR,bP];exact⟨[en.val,.bool true],rfl,_,_,rfl,hval,_,_,rfl,by simp [SB.den],rfl⟩
theorem alG [Glob] {tt:TT} (htt:eY P tt) {s s':St} (r:bJ E s.h w) {ty id t:Nat} {m k x v:AV} {e:SE} {um uk ux:Value} (hm:VR E w.heap m um) (hk:VR E w.heap k uk) (hx:VR E w.heap x ux) (hat:ES m s.h=some (id,e,t)) (h:(acO tt ty id k x e t s).leaf E.ρ=some (v,s')) :
 s'.slots=s.slots/\s'.pc=s.pc/\v=AV.undef/\∃w',(Instr.mapUpdate ty um uk ux).run P w= .ok () w'/\Stp E s.h w E s'.h w'/\bJ E s'.h w':=by
 obtain⟨rfl,hl⟩:=FN hat
 unfold acO at h;split at h
 ·simp [T.leaf] at h
 ·rename_i a ie hmk;obtain⟨kt,et,dt,hu,hd1,hd2,hie,hrk⟩:=Js htt hk hmk;split at h
  ·simp [T.leaf] at h
  ·rename_i b hb;have:=aH h;simp only [aJg] at this;obtain⟨rfl,rfl⟩:=this;have hrx:=(qV hx hb).rd (vV hb);obtain⟨ents,c',g1,g2⟩:=Jr r hl;have hg:=mP (P:=P) g1 (by simp);simp only [VR] at hm;obtain⟨rfl,hid⟩:=hm;refine⟨rfl,rfl,rfl,?_⟩
   have hden:dec ((SE.op .EH e (iG a b)).den E.ρ)=dL (CX (dec (e.den E.ρ)).l (dec (a.den E.ρ)) (dec (b.den E.ρ))):=by simp only [iG,SE.den,iY.den,aF]
   rcases H9 (i:=0) hd2 hrk g2 with ⟨q1,q2,q3,_⟩|⟨j,y,en,q1,q2,q3,q4,q5,q6,_⟩
   ·refine⟨_,?_,kZ r hl (.jJ (.op .EH e (iG a b)) t) (.map (ents.push { key:=uk,val:=ux,born:=c' }) (c'+1)) ?_⟩
    ·simp [Instr.mapUpdate,run_underlying hu,hg,qW hd1 hd2,iR hd1 q2,mG (P:=P) g1]
    ·intro h' hh kp;simp only [OR];refine⟨_,_,hh,?_⟩;rw [hden,aW,q3,Array.toList_push];exact pW.push (hrk.keep kp.ro kp.NZ) (hrx.keep kp.ro kp.NZ) (g2.keep kp.ro kp.NZ)
   ·simp only [aJp] at q4
    have hkt:(Instr.keyThatStays (((ents[j]?).map (·.key)).getD uk) uk).run P w= .ok uk w:=by have q2':=q2;rw [aJS] at q2';simp only [q2',aJU,aJl,Instr.keyThatStays];rw [aJe (q5 9999)];rfl
    refine⟨_,?_,kZ r hl (.jJ (.op .EH e (iG a b)) t) (.map (ents.modify j fun e=>{ e with key:=uk,val:=ux }) c') ?_⟩
    ·simp [Instr.mapUpdate,run_underlying hu,hg,qW hd1 hd2,iR hd1 q4,hkt,mG (P:=P) g1]
    ·intro h' hh kp;simp only [OR];refine⟨_,_,hh,?_⟩;rw [hden,aW,q6,Oy ents j en _ q2];exact pW.set (hrk.keep kp.ro kp.NZ) (hrx.keep kp.ro kp.NZ) (g2.keep kp.ro kp.NZ) q2
theorem Ur [Glob] {tt:TT} (htt:eY P tt) {s s':St} (r:bJ E s.h w) (hp:bM E.ρ s.pc) {ty:Nat} {m k x v:AV} {um uk ux:Value} (hm:VR E w.heap m um) (hk:VR E w.heap k uk) (hx:VR E w.heap x ux) (h:(WB tt ty m k x s).leaf E.ρ=some (v,s')) :
 s'.slots=s.slots/\bM E.ρ s'.pc/\v=AV.undef/\∃w' E',(Instr.mapUpdate ty um uk ux).run P w= .ok () w'/\Stp E s.h w E' s'.h w'/\bJ E' s'.h w':=by
 unfold WB at h;obtain⟨vs,h1,pc1,E1,hp1,f,q,g⟩:=zJ rfl r hp h;have hρ:=f.ρ;rw [<- hρ] at hp1 g;have hv:=q [ux] (by simp only [bP]; exact⟨ux,[],rfl,hx,rfl⟩);split at g
 ·rename_i x1;simp only [bP] at hv;obtain⟨u1,us1,e1,hx1,e2⟩:=hv;subst e2;simp only [List.cons.injEq,and_true] at e1;subst e1;split at g
  ·rename_i id e t hat
   obtain⟨a1,a2,a3,w',a4,a5,a6⟩:=alG htt (s:={ s with h:=h1,pc:=pc1 }) f.rel (VR.keep (f.dX.keeps r) _ _ hm) (VR.keep (f.dX.keeps r) _ _ hk) hx1 hat g;exact⟨a1,by rw [a2,<- hρ]; exact hp1,a3,w',E1,a4,f.dX.trans a5,a6⟩
  ·simp [T.leaf] at g
 ·simp [T.leaf] at g
theorem alK [Glob] {tt:TT} (htt:eY P tt) {s s':St} (r:bJ E s.h w) {ty id t ts:Nat} {m k v:AV} {e:SE} {um uk:Value} (hm:VR E w.heap m um) (hk:VR E w.heap k uk) (hat:ES m s.h=some (id,e,t)) (h:(acW tt ty id k e t s).leaf E.ρ=some (v,s')) (tr:Nat) :
 s'.slots=s.slots/\s'.pc=s.pc/\v=AV.undef/\∃w',(Builtin.delete_ #[ty,ts] tr #[um,uk]).run P w= .ok (.tuple #[]) w'/\Stp E s.h w E s'.h w'/\bJ E s'.h w':=by
 obtain⟨rfl,hl⟩:=FN hat
 unfold acW at h;split at h
 ·simp [T.leaf] at h
 ·rename_i a ie hmk;obtain⟨kt,et,dt,hu,hd1,hd2,hie,hrk⟩:=Js htt hk hmk;have:=aH h;simp only [aJg] at this;obtain⟨rfl,rfl⟩:=this;obtain⟨ents,c',g1,g2⟩:=Jr r hl;have hg:=mP (P:=P) g1 (by simp);simp only [VR] at hm;obtain⟨rfl,hid⟩:=hm;refine⟨rfl,rfl,rfl,?_⟩
  have hden:dec ((SE.op .abM e a).den E.ρ)=dL (VY (dec (e.den E.ρ)).l (dec (a.den E.ρ))):=by simp only [SE.den,iY.den,aF]
  rcases H9 (i:=0) hd2 hrk g2 with ⟨q1,q2,_,q3⟩|⟨j,y,en,q1,q2,q3,q4,q5,_,q6⟩
  ·refine⟨_,?_,kZ r hl (.jJ (.op .abM e a) t) (.map ents c') ?_⟩
   ·simp [Builtin.delete_,run_underlying hu,hg,qW hd1 hd2,iR hd1 q2,mG (P:=P) g1]
   ·intro h' hh kp;simp only [OR];refine⟨_,_,hh,?_⟩;rw [hden,aW,q3];exact g2.keep kp.ro kp.NZ
  ·simp only [aJp] at q4;refine⟨_,?_,kZ r hl (.jJ (.op .abM e a) t) (.map (ents.eraseIdxIfInBounds j) c') ?_⟩
   ·simp [Builtin.delete_,run_underlying hu,hg,qW hd1 hd2,iR hd1 q4,mG (P:=P) g1]
   ·intro h' hh kp;simp only [OR];refine⟨_,_,hh,?_⟩;have hil:j<ents.size:=by have:=(aJC.1 q2).1; simpa using this
    have:(ents.eraseIdxIfInBounds j).toList=ents.toList.eraseIdx j:=by simp [Array.eraseIdxIfInBounds,hil]
    rw [this,hden,aW,q6];exact pW.erase (g2.keep kp.ro kp.NZ)
end
section
variable {P:Program} {E:En} {w:World}
theorem aqT [Glob] {tt:TT} (htt:eY P tt) {H:Hp} (r:bJ E H w) {t e k:Nat} {i ie:TI} {k1 k2:IntKind} (hi:tt t=some i) (hk:i.kind= .slice e) (hie:tt e=some ie) (hz0:ie.zero.length=ie.size) (hs0:0<ie.size) (hb0:ie.bytes≠0) (hbm:ie.bytes*k<=140737488355328) (hpos:0<k) :
 ∃x w' E',(Instr.makeSlice t (.int k1 k) (.int k2 k)).run P w= .ok x w'/\Stp E H w E' (H.new (.cells (repeatL ie.zero k) e)) w'/\bJ E' (H.new (.cells (repeatL ie.zero k) e)) w'/\VR E' w'.heap (.slice H.fresh 0 k (.rest ie.size)) x:=by
 have hti:=htt t i hi;have htie:=htt e ie hie;obtain⟨inf,z,g1,g2,g3,g4,g5⟩:=Ee htie;have hz:=fU (E:=E) (h:=w.heap) g5;have hzl:z.cells.size=ie.size:=by have:=hz.1.length; simp only [aJM] at this; omega
 have hkb:k<=140737488355328:=by refine aJO ?_ hbm;exact Nat.le_mul_of_pos_left _ (by omega)
 have wn:IntKind.i64.wrap (k:Int)=(k:Int):=by rw [<- qB]; simp only [BH]; rw [aJe (by constructor<;>omega)]
 have ai: ∀(q:IntKind) (x:Int) (w:World),(asInt (Value.int q x)).run P w= .ok x w:=fun _ _ _=>rfl
 have hne:z.cells.toList≠[]:=by
  intro hx;have hx':z.cells.size=0:=by have:=congrArg List.length hx; simpa using this
  omega
 have hzz:=BP z.cells hne k;rw [hzl] at hzz;obtain⟨us',e1⟩ : ∃us':Array Value,((Array.range (k*inf.size)).map (z.cells[·% z.cells.size]!))=us':=⟨_,rfl⟩
 have e1':us'.toList=repeatL z.cells.toList k:=by rw [<- e1,g2,hzl,hzz]
 have e2:bP E w.heap (repeatL ie.zero k) us'.toList:=by rw [e1']; exact qR hz.1 k
 have e3: ∀u∈us'.toList,u.oneCell'=true:=by rw [e1']; intro u hu; exact hz.2 u (qQ hu)
 have hsz:us'.size=k*ie.size:=by rw [<- aJM,e1',repeatL_length,aJM,hzl]
 refine⟨.slice (some ⟨w.heap.size,0,none⟩) k k,{ w with heap:=w.heap.push (.cells us' e) },E.ext H.fresh (w.heap.size,0) us'.size,?_,?_⟩
 ·have t1: ¬((k:Int)<0):=by omega
  have t2: ¬((inf.bytes:Int)*(k:Int) > 2 ^ 48):=by have h1:((inf.bytes*k:Nat):Int)<=((140737488355328:Nat):Int):=Int.ofNat_le.2 (by rw [g3]; exact hbm);rw [Int.natCast_mul] at h1;omega
  have t4: ¬((k:Int) > (k:Int)):=by omega
  have t5:(askRoom (k*inf.bytes)).run P w= .ok () w:=by
   have: ¬(k*inf.bytes > roomBytes):=by unfold roomBytes;rw [aKu,g3];omega
   unfold askRoom;rw [aJd this];rfl
  have t6:(k:Int).toNat=k:=rfl
  have h0: ¬(k*inf.size=0):=by rw [g2];have:=aLf hpos hs0;omega
  simp only [Instr.makeSlice,Sem.run_bind,run_underlying (gK hti hk),Result.andThen_ok,ai,sizeOf,typeInfo,zeroValue,run_program,g1,g4,Sem.run_pure,newRow,Sem.run_ite,wn,t1,t2,t4,t6,h0,decide_false,aK9,aJw,if_false];rw [t5,Result.andThen_ok,e1];rfl
 ·obtain⟨s1,s2⟩:=lM r us' 0 0 e e2 e3 (fun i u hu=>by rw [<- aJS]; exact hu) (by omega) (w':={ w with heap:=w.heap.push (.cells us' e) }) rfl ⟨rfl,rfl,rfl⟩;refine⟨s1,s2,?_⟩;simp only [VR];refine⟨En.kJ _ _ _ _,⟨w.heap.size,0,none⟩,k,rfl,aJi _,?_⟩;simp only [gJ,En.ext_θ_new,En.ext_κ_new];left;exact⟨trivial,by rw [hsz,aJp]⟩
theorem acQ [Glob] {tt:TT} (htt:eY P tt) {s s':St} (r:bJ E s.h w) (hp:bM E.ρ s.pc) {t:Nat} {l c v:AV} {lu cu:Value} (hl:VR E w.heap l lu) (hc:VR E w.heap c cu) (h:(WE tt t l c s).leaf E.ρ=some (v,s')) :
 s'.slots=s.slots/\bM E.ρ s'.pc/\∃x w' E',(Instr.makeSlice t lu cu).run P w= .ok x w'/\Stp E s.h w E' s'.h w'/\bJ E' s'.h w'/\VR E' w'.heap v x:=by
 unfold WE at h;split at h
 ·rename_i k n;split at h
  ·rename_i k2 n2;split at h
   ·simp [T.leaf] at h
   ·rename_i hnn;have hnn:=bZ _ _ hnn;subst hnn;simp only [VR] at hl hc;subst hl hc;split at h
    ·simp [T.leaf] at h
    ·rename_i i hi;split at h
     ·simp [T.leaf] at h
     ·rename_i o ho;split at h
      ·rename_i e hk;split at h
       ·simp [T.leaf] at h
       ·rename_i ie hie;split at h
        ·simp [T.leaf] at h
        ·rename_i z hz;split at h
         ·rename_i hcond;obtain⟨hes,hs0,hb0,hzl⟩:=hcond;obtain⟨pc1,hp1,h1⟩:=dB hp h;split at h1
          ·simp [T.leaf] at h1
          ·rename_i t1;obtain⟨pc2,hp2,h2⟩:=dB (s:={ s with pc:=pc1 }) hp1 h1;split at h2
           ·rename_i t2;split at h2
            ·rename_i v0 h0 hm;have:=aH h2;simp only [aJg] at this;obtain⟨rfl,rfl⟩:=this;rw [qP,beq_iff_eq] at t2;simp only [SE.den] at t2;rw [t2];obtain⟨x,w',E',q1,q2,q3,q4⟩:=Dj (P:=P) htt r (lu:=.int k 0) (cu:=.int k2 0) (by simp only [VR,SE.den]) (by simp only [VR,SE.den]) hm;exact⟨rfl,hp2,x,w',E',q1,q2,q3,q4⟩
            ·simp [T.leaf] at h2
           ·rename_i t2;obtain⟨pc3,hp3,h3⟩:=dB (s:={ s with pc:=pc2 }) hp2 h2;split at h3
            ·rename_i t3;have:=aH h3;simp only [aJg] at this;obtain⟨rfl,rfl⟩:=this;rw [dV,decide_eq_false_iff_not] at t1;rw [qP,beq_eq_false_iff_ne] at t2;rw [dV,decide_eq_true_eq] at t3;simp only [SE.den] at t1 t2 t3;obtain⟨m,hm⟩ : ∃m:Nat,n.den E.ρ=(m:Int):=⟨(n.den E.ρ).toNat,by omega⟩;rw [hm] at t2 t3 ⊢;have hpos:0<m:=by omega
             have hbm:ie.bytes*m<=140737488355328:=by
              unfold roomOf at t3
              have h1:m<=140737488355328 / ie.bytes:=by rw [aKc] at t3;exact Nat.le_of_lt (aKX.1 t3)
              exact aJO (Nat.mul_le_mul_left _ h1) (Nat.mul_div_le _ _)
             obtain⟨x,w',E',q1,q2,q3,q4⟩:=aqT (P:=P) (k1:=k) (k2:=k2) htt r hi hk hie hzl hs0 hb0 hbm hpos;have hρ:=q2.ρ
             have hd:dec ((SE.op .rep n z).den E'.ρ)=dL (List.replicate m (dec (z.den E'.ρ))):=by
              have:n.den E'.ρ=(m:Int):=by rw [hρ]; exact hm
              simp only [SE.den,iY.den,aF,this,aJJ]
             have hlen:(dec ((SE.op .rep n z).den E'.ρ)).l.length=m:=by rw [hd,aW,aKr]
             have hwz:xX (rowOf o) (dec (z.den E'.ρ)):=Bq hz
             have hcl:(dN E'.ρ (.op .rep n z) o []).length=(repeatL ie.zero m).length:=by unfold dN;rw [bY (oC _),hlen,repeatL_length,hzl,hes]
             have hrep: ∀(q:Nat) (us:List Value),bP E' w'.heap (repeatL ie.zero q) us->bP E' w'.heap (aO E'.ρ (rowOf o) [] (List.replicate q (dec (z.den E'.ρ))) 0) us:=by
              intro q
              induction q with
              |zero=>intro us h; exact h
              |succ q ih=> intro us h;simp only [repeatL] at h;obtain⟨us1,us2,rfl,a,b⟩:=bP.split h;simp only [aLG,aO,dR];rw [oI _ 1 0];refine bP.append ?_ (ih _ b);rw [iI];simp only [SE.den,aF];exact Bv a hz
             have r2:=L6 (e1:=.op .rep n z) (t:=o) q3 ⟨by rw [hd,aW],fun d hd'=>by
              rw [hd,aW] at hd';rw [aLU hd']
              exact hwz,fun hq=>by rw [hq] at hlen; simp at hlen; omega⟩ hcl (fun us hu=>by
              unfold dN;rw [hd,aW]
              exact hrep m us hu)
             refine⟨rfl,hp3,x,w',E',q1,q2.right (L8 rfl rfl fun _=>rfl),r2,?_⟩;simp only [VR] at q4 ⊢;obtain⟨p1,a,cap,p2,p3,p4⟩:=q4;refine⟨p1,m,a,cap,by rw [dF,hlen],p2,p3,?_⟩;rw [<- hes];exact p4
            ·simp [T.leaf] at h3
         ·simp [T.leaf] at h
      ·simp [T.leaf] at h
  ·simp [T.leaf] at h
 ·simp [T.leaf] at h
end
theorem Xp {α β:Type} (f:α->β) (xs:Array α):xs.map f=(xs.toList.map f).toArray:=by apply Array.ext';simp
def vG (P:Program) (R:Value->World->Prop):Result Next->Prop
 | .ok (.value u) w'=>R u w'
 | .ok (.enter f args) w'=>Calls P f args w' fun e w''=> ∃u,e= .returned u/\R u w''
 |_=>False
def vH (P:Program) (g:FuncId) (vals:Array Value) (w:World) (R:Value->World->Prop):Prop:=vG P R ((callFunc g vals).run P w)
def nU [Glob] (P:Program) (g:FuncId) (f:List AV->St->T (AV×St)):Prop:=
 ∀(args:List AV) (s:St) (E:En) (w:World) (vals:List Value) (v:AV) (s':St),bJ E s.h w->bP E w.heap args vals->bM E.ρ s.pc->(f args s).leaf E.ρ=some (v,s')->
  s'.slots=s.slots/\bM E.ρ s'.pc/\vH P g vals.toArray w (After E s w v s')
theorem Ho {E:En} {h:Array Obj} {k:Nat} {e:SE} {i:Nat} (he:e.den E.ρ=(i:Int)): ∀(ks:List IntKind) (j:Nat),
 bP E h (C9 k e ks j) ((ks.zipIdx j).map fun p=> .int p.1 (E.ρ (1000+i*64+(k*8+p.2))))
 |[],j=>by simp [C9,bP]
 |kd::ks,j=>by simp only [C9,List.zipIdx_cons,aJz];rw [bG];refine⟨_,_,rfl,?_,Ho he ks (j+1)⟩;simp only [VR,SE.den,he,aJJ]
theorem acT {P:Program} {E:En} {w:World} {tt:TT} (htt:eY P tt) {pc:List (SB×Bool)} (hp:bM E.ρ pc) {t k:Nat} {ks:List IntKind} {ix v:AV} {u ui:Value} (hx:VR E w.heap (.inp k ks) u) (hix:VR E w.heap ix ui)
 (h:WG tt pc t k ks ix=some v): ∃r,(Instr.indexAt t u ui).run P w= .ok r w/\VR E w.heap v r:=by
 unfold WG at h;split at h
 ·rename_i kd e;split at h
  ·rename_i ti hti;split at h
   ·rename_i el hk;have hu:=gK (htt t ti hti) hk;split at h
    ·rename_i s hs;simp only [kY,aJA] at hs;obtain⟨ie,hie,rfl⟩:=hs;split at h
     ·rename_i hc;split at h
      ·rename_i h1 h2;simp at h;subst h;have h1:=jP hp h1;have h2:=jP hp h2;rw [dV,decide_eq_false_iff_not] at h1;rw [dV,decide_eq_true_eq] at h2;simp only [SE.den,aKx] at h1 h2;simp only [VR] at hx hix;subst hix;rcases hx with ⟨⟨x,cap,rfl⟩,h0⟩|⟨b,o,n,cap,rfl,g1,g2,g3,g4⟩
       ·omega
       ·obtain⟨i,hi⟩ : ∃i:Nat,e.den E.ρ=(i:Int):=⟨(e.den E.ρ).toNat,by omega⟩;have hin:i<n:=by omega
        refine⟨.pointer (some ⟨b,o+i*ie.size,none⟩),?_,?_⟩
        ·rw [hi];simp [Instr.indexAt,asIntOf,run_underlying hu,eF (htt el ie hie),hin,gI]
        ·simp only [VR];refine⟨b,_,_,rfl,g3,Ho hi ks 0,?_,?_⟩
         ·intro j u hj;rw [aJF,List.getElem?_zipIdx,Option.map_map,aJA] at hj;obtain⟨kd',h3,rfl⟩:=hj;rw [hc.1,g4 i j kd' hin h3];simp
         ·intro u hu';rw [aJE] at hu';obtain⟨p,_,rfl⟩:=hu';rfl
      ·simp at h
     ·simp at h
    ·simp at h
   ·simp at h
  ·simp at h
 ·simp at h
theorem azJ {E:En} {s s':St} {k:IntKind} {e d:SE} {v:AV} (hp:bM E.ρ s.pc) (h:(aDJ s k e d).leaf E.ρ=some (v,s')) :
 s'.slots=s.slots/\s'.h=s.h/\bM E.ρ s'.pc/\d.den E.ρ≠0/\∀h,VR E h v (.int k ((e.den E.ρ).tmod (d.den E.ρ))):=by
 unfold aDJ at h;obtain⟨pc',hp',h3⟩:=dB hp h;rw [mZ] at h3;split at h3
 ·simp [T.leaf] at h3
 ·rename_i he;simp only [T.leaf,aJf,aJg] at h3;obtain⟨rfl,rfl⟩:=h3;simp only [SE.den,beq_eq_false_iff_ne,ne_eq] at he;exact⟨rfl,rfl,hp',he,fun h=>by simp only [VR,SE.den]⟩
theorem ajV {E:En} {h:Array Obj} {op:BinOp} {a b:AV} {k:IntKind} {e d:SE} (hr:abE op a b=some (k,e,d)) {u u':Value} (ha:VR E h a u) (hb:VR E h b u') :
 op= .rem/\u= .int k (e.den E.ρ)/\u'= .int k (d.den E.ρ):=by
 unfold abE at hr;split at hr
 ·split at hr
  ·split at hr
   ·split at hr
    ·simp at hr
    ·split at hr
     ·rename_i hc;simp only [aJf,aJg] at hr;obtain⟨rfl,rfl,rfl⟩:=hr;simp only [VR] at ha hb;exact⟨rfl,ha,by rw [hb,hc]⟩
     ·simp at hr
   ·simp at hr
  ·simp at hr
 ·simp at hr
def kU [Glob] (P:Program) (call:dS):Prop:= ∀g,nU P g (call g)
theorem yJ.next {P:Program} {o:Oper} {a:Act} {w:World} {R:Value->World->Prop} (h:vG P R ((execOp a.eval o).run P w)):yJ P o a w R:=by
 intro K Q hk;unfold Oper.wp;generalize (execOp a.eval o).run P w=r at h
 cases r with
 |halt x w'=>exact h.elim
 |ok n w'=>
  cases n<;>first
   |exact h.elim
   |exact hk _ _ h
   |(exact Calls.mono h fun e w'' ⟨u,he,hr⟩=>by subst he; exact hk _ _ hr)
theorem QI {tt:TT} {t n:Nat} {ix:AV} {e:SE} (h:aiR tt t ix=some (n,e)): ∃k ti el ie,ix= .int k e/\tt t=some ti/\ti.kind= .array n el/\tt el=some ie/\ie.size=1/\ie.agg=false:=by
 unfold aiR at h;split at h
 ·simp at h
 ·split at h
  ·split at h
   ·rename_i ti hti;split at h
    ·rename_i n' el hk;split at h
     ·split at h
      ·rename_i ie hie;split at h
       ·rename_i hc;simp only [aJf,aJg] at h;obtain⟨rfl,rfl⟩:=h;exact⟨_,ti,el,ie,rfl,hti,hk,hie,hc.1,hc.2⟩
       ·simp at h
      ·simp at h
     ·simp at h
    ·simp at h
   ·simp at h
  ·simp at h
section
variable {P:Program} {E:En} {w:World} {s s':St} {o:Oper} {a:Act} {v:AV}
theorem WR [Glob] {tt:TT} (htt:eY P tt) (r:bJ E s.h w) (hp:bM E.ρ s.pc) {b:Builtin} {ts:List Nat} {args:List AV} {vals:List Value} (hv:bP E w.heap args vals) (ty:Nat) (cs:Array Bool)
 (h:(Ep tt s b ts args).leaf E.ρ=some (v,s')):s'.slots=s.slots/\bM E.ρ s'.pc/\∃u w',(builtin b ts.toArray ty cs vals.toArray).run P w= .ok (.value u) w'/\After E s w v s' u w':=by
 unfold Ep at h;split at h
 ·rename_i t x;obtain⟨e1,rfl⟩:=lS h;rw [bG] at hv;obtain⟨u,vs,rfl,hx,hxs⟩:=hv;rw [lJ] at hxs;subst hxs;obtain⟨y,h1,h2⟩:=asL (ty:=ty) htt r hx e1;exact⟨rfl,hp,y,w,by simp [builtin,h1],E,Stp.refl _ _ _,r,h2⟩
 ·rename_i t t2 id lo n t' y;rw [bG] at hv;obtain⟨u,vs,rfl,hx,hxs⟩:=hv;rw [bG] at hxs;obtain⟨u2,vs,rfl,hy,hys⟩:=hxs;rw [lJ] at hys;subst hys;split at h
  ·rename_i hz;obtain⟨q1,q2,z,w',E',h1,h2,h3,h4⟩:=Y4 (ty:=ty) htt r hp hz hx hy h;exact⟨q1,q2,z,w',by simp [builtin,h1],E',h2,h3,h4⟩
  ·simp [T.leaf] at h
 ·rename_i t t2 x y _;rw [bG] at hv;obtain⟨u,vs,rfl,hx,hxs⟩:=hv;rw [bG] at hxs;obtain⟨u2,vs,rfl,hy,hys⟩:=hxs;rw [lJ] at hys;subst hys;split at h
  ·rename_i hown;obtain⟨q1,q2,z,w',E',h1,h2,h3,h4⟩:=WT (ty:=ty) htt r hp hx hy (fun hd=>by rw [hd,aK9] at hown; exact Yz hx hown) h;exact⟨q1,q2,z,w',by simp [builtin,h1],E',h2,h3,h4⟩
  obtain⟨H,e1,rfl⟩:=wH h;obtain⟨z,w',E',h1,h2,h3,h4⟩:=Y3 (ty:=ty) htt r hx hy e1;exact⟨rfl,hp,z,w',by simp [builtin,h1],E',h2,h3,h4⟩
 ·rename_i t ts' m k;rw [bG] at hv;obtain⟨u,vs,rfl,hx,hxs⟩:=hv;rw [bG] at hxs;obtain⟨u2,vs,rfl,hy,hys⟩:=hxs;rw [lJ] at hys;subst hys;split at h
  ·rename_i id e t' hat
   obtain⟨q1,q2,rfl,w',h1,h2,h3⟩:=alK (ts:=ts') htt r hx hy hat h ty;exact⟨q1,by rw [q2]; exact hp,.tuple #[],w',by simp [builtin,h1],E,h2,h3,by simp only [AV.undef,VR,bP]; exact⟨[],rfl,rfl⟩⟩
  obtain⟨pc',hp',h⟩:=xE hp h;obtain⟨H,e1,rfl,rfl⟩:=GV h;obtain⟨w',h1,h2,h3⟩:=Y2 (ts:=ts') htt hp' r hx hy e1 ty;exact⟨rfl,hp',.tuple #[],w',by simp [builtin,h1],E,h2,h3,by simp only [AV.undef,VR,bP]; exact⟨[],rfl,rfl⟩⟩
 ·rename_i t id n t';rw [bG] at hv;obtain⟨u,vs,rfl,hx,hxs⟩:=hv;rw [lJ] at hxs;subst hxs;obtain⟨q1,q2,rfl,w',E',h1,h2,h3⟩:=KF (ty:=ty) htt r hp (aeF hx) h;exact⟨q1,q2,.tuple #[],w',by simp [builtin,h1],E',h2,h3,by simp only [AV.undef,VR,bP]; exact⟨[],rfl,rfl⟩⟩
 ·rename_i t id lo n t';rw [bG] at hv;obtain⟨u,vs,rfl,hx,hxs⟩:=hv;rw [lJ] at hxs;subst hxs;obtain⟨q1,q2,rfl,w',E',h1,h2,h3⟩:=KF (ty:=ty) htt r hp hx h;exact⟨q1,q2,.tuple #[],w',by simp [builtin,h1],E',h2,h3,by simp only [AV.undef,VR,bP]; exact⟨[],rfl,rfl⟩⟩
 ·rename_i t x _ _;obtain⟨H,e1,rfl,rfl⟩:=GV h;rw [bG] at hv;obtain⟨u,vs,rfl,hx,hxs⟩:=hv;rw [lJ] at hxs;subst hxs;obtain⟨w',h1,h2,h3⟩:=acZ (ty:=ty) htt r hx e1;exact⟨rfl,hp,.tuple #[],w',by simp [builtin,h1],E,h2,h3,by simp only [AV.undef,VR,bP]; exact⟨[],rfl,rfl⟩⟩
 ·rename_i k e xs;rw [bG] at hv;obtain⟨u,vs,rfl,hx,hxs⟩:=hv;simp only [VR] at hx;subst hx;obtain⟨q1,q2,q3,u,q4,q5⟩:=sJ (P:=P) (w:=w) hp hxs h;refine⟨q2,q3,u,w,?_,E,by rw [q1]; exact Stp.refl _ _ _,by rw [q1]; exact r,q5⟩;simp only [aJw,if_false] at q4;simp [builtin,Builtin.min_,q4]
 ·rename_i k e xs;rw [bG] at hv;obtain⟨u,vs,rfl,hx,hxs⟩:=hv;simp only [VR] at hx;subst hx;obtain⟨q1,q2,q3,u,q4,q5⟩:=sJ (P:=P) (w:=w) hp hxs h;refine⟨q2,q3,u,w,?_,E,by rw [q1]; exact Stp.refl _ _ _,by rw [q1]; exact r,q5⟩;simp only [if_true] at q4;simp [builtin,Builtin.max_,q4]
 ·simp [T.leaf] at h
theorem alL [Glob] {tt:TT} (htt:eY P tt) {call:dS} (hc:kU P call) (r:bJ E s.h w) (sr:SR E w.heap s.slots a) (hp:bM E.ρ s.pc) {c:Call} (ho:o.op= .call c)
 (h:(WQ tt call s c).leaf E.ρ=some (v,s')):pV P E s o a w v s':=by
 unfold WQ at h;split at h
 ·simp [T.leaf] at h
 ·rename_i args hargs;have hv:=Wp sr hargs;have hmap:c.args.map a.eval=(c.args.toList.map a.eval).toArray:=Xp _ _;split at h
  ·rename_i b aEf;obtain⟨q1,q2,u,w',q3,q4⟩:=WR htt r hp hv o.type (c.args.map fun| .const _=>true|_=>false) h;refine⟨q1,q2,yJ.value ?_ q4⟩;simp only [execOp,ho,resolve,aEf,Sem.run_bind,Sem.run_pure,Result.andThen_ok,invoke,hmap];exact q3
  ·rename_i f aEf;split at h
   ·rename_i g fs cs hf;have hfv:=kE sr hf;simp only [VR] at hfv;obtain⟨us,ws,he,h1,h2⟩:=hfv;obtain⟨q1,q2,q3⟩:=hc g _ s E w _ v s' r ((h1.append hv).append h2) hp h;refine⟨q1,q2,yJ.next ?_⟩;unfold vH at q3;simp only [execOp,ho,resolve,aEf,Sem.run_bind,he,Deferred.ofValue,Sem.run_pure,Result.andThen_ok,invoke,hmap];simpa using q3
   ·simp [T.leaf] at h
  ·simp [T.leaf] at h
theorem awT [Glob] {α:Type} {E:En} {h:Array Obj} {v:AV} {u:Value} {s:St} {k:AV->St->T α} {r:α} (hp:bM E.ρ s.pc) (hv:VR E h v u) (hl:(awU v s k).leaf E.ρ=some r) :
 ∃v' pc',bM E.ρ pc'/\VR E h v' u/\(k v' { s with pc:=pc' }).leaf E.ρ=some r:=by
 unfold awU at hl;split at hl
 ·split at hl
  ·exact⟨_,s.pc,hp,hv,hl⟩
  ·obtain⟨pc1,hp1,h1⟩:=dB hp hl;refine⟨_,pc1,hp1,?_,h1⟩;simp only [VR,SB.den] at *;exact hv
 ·exact⟨_,s.pc,hp,hv,hl⟩
theorem ahO [Glob] {tt:TT} (htt:eY P tt) {call:dS} (hc:kU P call) (r:bJ E s.h w) (sr:SR E w.heap s.slots a) (hp:bM E.ρ s.pc) (h:(WC tt call s o.op).leaf E.ρ=some (v,s')):pV P E s o a w v s':=by
 obtain⟨dst,op,type,pos,after,guard⟩:=o;simp only at h;cases op<;>simp only [WC] at h<;>first |(simp [T.leaf] at h; done)|skip
 case move x=>
  obtain⟨u,h1,h2⟩:=jU sr h;have:=aH h2;simp only [aJg] at this;obtain⟨rfl,rfl⟩:=this;exact pV.pure hp r (u:=a.eval x) rfl h1
 case assign x=>
  obtain⟨u,h1,h2⟩:=jU sr h;have:=aH h2;simp only [aJg] at this;obtain⟨rfl,rfl⟩:=this;exact pV.pure hp r (u:=a.eval x) rfl h1
 case pick c x y=>
  obtain⟨cv,h1,h2⟩:=jU sr h;split at h2
  ·rename_i cb;obtain⟨pc',hp',h3⟩:=dB hp h2;simp only [VR] at h1;cases hcd:cb.den E.ρ<;>rw [hcd] at h1 h3
   ·simp only [aJw,if_false] at h3;obtain⟨u,h4,h5⟩:=jU (s:={ s with pc:=pc' }) sr h3;have:=aH h5;simp only [aJg] at this;obtain⟨rfl,rfl⟩:=this;exact⟨rfl,hp',yJ.value (u:=a.eval y) (by simp [execOp,h1,asBool]) ⟨E,Stp.refl _ _ _,r,h4⟩⟩
   ·simp only [if_true] at h3;obtain⟨u,h4,h5⟩:=jU (s:={ s with pc:=pc' }) sr h3;have:=aH h5;simp only [aJg] at this;obtain⟨rfl,rfl⟩:=this;exact⟨rfl,hp',yJ.value (u:=a.eval x) (by simp [execOp,h1,asBool]) ⟨E,Stp.refl _ _ _,r,h4⟩⟩
  ·simp [T.leaf] at h2
 case alloc t=>
  split at h
  ·rename_i i hi;have:=aH h;simp only [aJg] at this;obtain⟨rfl,rfl⟩:=this;obtain⟨inf,z,g1,g2,g3,g4,g5⟩:=Ee (htt t i hi);have hz:=fU (E:=E) (h:=w.heap) g5;obtain⟨s1,s2⟩:=lM r z.cells 0 0 t hz.1 hz.2 (fun i u hu=>by rw [<- aJS]; exact hu) (by omega) (w':={ w with heap:=w.heap.push (.cells z.cells t) }) rfl ⟨rfl,rfl,rfl⟩;exact pV.heap hp (u:=.pointer (some ⟨w.heap.size,0,none⟩)) (by simp [execOp,Instr.alloc,zeroValue,typeInfo,g1,g4,newVar,newRow]) s1 s2 (VH r _ _ 0)
  ·simp [T.leaf] at h
 case box t x=>
  obtain⟨u,h1,h2⟩:=jU sr h;split at h2
  ·rename_i hone;have:=aH h2;simp only [aJg] at this;obtain⟨rfl,rfl⟩:=this;have hcv:=h1.cells hone;obtain⟨s1,s2⟩:=lM r (a.eval x).cells 0 0 t hcv (hcv.ones hone) (fun i u hu=>by rw [<- aJS]; exact hu) (by omega) (w':={ w with heap:=w.heap.push (.cells (a.eval x).cells t) }) rfl ⟨rfl,rfl,rfl⟩;exact pV.heap hp (u:=.pointer (some ⟨w.heap.size,0,none⟩)) (by simp [execOp,Instr.box,newVar,newRow]) s1 s2 (VH r _ _ 0)
  ·simp [T.leaf] at h2
 case build t parts=>
  split at h
  ·rename_i ps hps;obtain⟨e1,rfl⟩:=lS h;have hpr:=FX sr hps;obtain⟨x,h1,h2⟩:=adB (w:=w) (ps:=parts.map fun p=>(p.1,a.eval p.2)) htt (by simpa using hpr) e1;exact pV.pure hp r (u:=x) (by simp [execOp,h1]) h2
  ·simp [T.leaf] at h
 case buildSlice t len parts=>
  split at h
  ·rename_i ps hps;obtain⟨H,e1,rfl⟩:=wH h;have hpr:=FX sr hps;obtain⟨x,w',E',h1,h2,h3,h4⟩:=Lm (ps:=parts.map fun p=>(p.1,a.eval p.2)) htt r (by simpa using hpr) e1;exact pV.heap hp (u:=x) (by simp [execOp,h1]) h2 h3 h4
  ·simp [T.leaf] at h
 case makeSlice t l c=>
  obtain⟨u,h1,h2⟩:=jU sr h;split at h2
  ·rename_i cv hc;split at h2
   ·rename_i q hq;obtain⟨H,e1,rfl⟩:=wH h2;simp only [aJf] at e1;subst e1;obtain⟨x,w',E',g1,g2,g3,g4⟩:=Dj htt r h1 (kE sr hc) hq;exact pV.heap hp (u:=x) (by simp [execOp,g1]) g2 g3 g4
   ·obtain⟨q1,q2,x,w',E',g1,g2,g3,g4⟩:=acQ htt r hp h1 (kE sr hc) h2;exact⟨q1,q2,yJ.value (by simp [execOp,g1]) ⟨E',g2,g3,g4⟩⟩
  ·simp [T.leaf] at h2
 case insert t m k x=>
  obtain⟨u,h1,h2⟩:=jU sr h;split at h2
  ·rename_i kv xv hk hx;split at h2
   ·obtain⟨q1,q2,rfl,w',E',g1,g2,g3⟩:=Ur (P:=P) htt r hp h1 (kE sr hk) (kE sr hx) h2;exact⟨q1,q2,yJ.skip (by simp [execOp,g1]) ⟨E',g2,g3,tK⟩⟩
   obtain⟨pc',hp',h2⟩:=xE hp h2;obtain⟨H,e1,rfl,rfl⟩:=GV h2;obtain⟨w',g1,g2,g3⟩:=Di htt hp' r h1 (kE sr hk) (kE sr hx) e1;exact⟨rfl,hp',yJ.skip (by simp [execOp,g1]) ⟨E,g2,g3,tK⟩⟩
  ·simp [T.leaf] at h2
 case load t x=>
  obtain⟨u,h1,h2⟩:=jU sr h;split at h2
  ·obtain⟨q1,q2,q3,y,b,off,g1,g2,g3⟩:=acS htt r hp h1 h2;exact⟨q1,q3,yJ.value (u:=y) (by simp [execOp,Instr.loadAt,g1,Instr.sureAddr,g2]) ⟨E,by rw [q2]; exact Stp.refl _ _ _,by rw [q2]; exact r,g3⟩⟩
  obtain⟨e1,rfl⟩:=lS h2;obtain⟨y,b,off,g1,g2,g3⟩:=JC htt r h1 e1;exact pV.pure hp r (u:=y) (by simp [execOp,Instr.loadAt,g1,Instr.sureAddr,g2]) g3
 case store t x y=>
  obtain⟨u,h1,h2⟩:=jU sr h;split at h2
  ·rename_i yv hy;obtain⟨yv',pc',hp',hyv,h2⟩:=awT hp (kE sr hy) h2;split at h2
   ·obtain⟨q1,q2,rfl,w',E',g1,g2,g3⟩:=YW htt (s:={ s with pc:=pc' }) r hp' h1 hyv h2;exact⟨q1,q2,yJ.skip (by simp [execOp,g1]) ⟨E',g2,g3,tK⟩⟩
   obtain⟨H,e1,rfl,rfl⟩:=GV h2;obtain⟨w',g1,g2,g3⟩:=acL htt r h1 hyv e1;exact⟨rfl,hp',yJ.skip (by simp [execOp,g1]) ⟨E,g2,g3,tK⟩⟩
  ·simp [T.leaf] at h2
 case nilCheck x=>
  obtain⟨u,h1,h2⟩:=jU sr h;split at h2
  ·have:=aH h2;simp only [aJg] at this;obtain⟨rfl,rfl⟩:=this;have h1':=h1;simp only [VR] at h1;exact pV.pure hp r (u:=a.eval x) (by simp [execOp,h1.1]) h1'
  ·have:=aH h2;simp only [aJg] at this;obtain⟨rfl,rfl⟩:=this;have h1':=h1;simp only [VR] at h1;obtain⟨b,off,us,hu,_⟩:=h1;exact pV.pure hp r (u:=a.eval x) (by simp [execOp,hu]) h1'
  ·have:=aH h2;simp only [aJg] at this;obtain⟨rfl,rfl⟩:=this;have h1':=h1;simp only [VR] at h1;obtain⟨_,k,_,hu⟩:=h1;exact pV.pure hp r (u:=a.eval x) (by simp [execOp,hu]) h1'
  ·simp [T.leaf] at h2
 case binOp bop t x y yt=>
  obtain⟨u,h1,h2⟩:=jU sr h;split at h2
  ·rename_i yv hy;have hyv:=kE sr hy;split at h2
   ·rename_i xs;simp only [VR] at h1;obtain⟨us,hus,h1⟩:=h1;split at h2
    ·rename_i ys;simp only [VR] at hyv;obtain⟨vs,hvs,hyv⟩:=hyv;split at h2
     ·rename_i c hcc;have:=aH h2;simp only [aJg] at this;obtain⟨rfl,rfl⟩:=this;obtain⟨g1,g2,g3⟩:=Px (w:=w) htt h1 hyv hcc .eql x y;exact pV.pure hp r (u:=.bool (c.den E.ρ)) (by simp [execOp,hus,hvs,g1,g2]) (by simp only [VR])
     ·simp [T.leaf] at h2
    ·rename_i ys;simp only [VR] at hyv;obtain⟨vs,hvs,hyv⟩:=hyv;split at h2
     ·rename_i c hcc;have:=aH h2;simp only [aJg] at this;obtain⟨rfl,rfl⟩:=this;obtain⟨g1,g2,g3⟩:=Px (w:=w) htt h1 hyv hcc .neq x y;exact pV.pure hp r (u:=.bool (!(c.den E.ρ))) (by simp [execOp,hus,hvs,g1,g3]) (by simp only [VR,sF])
     ·simp [T.leaf] at h2
    ·simp [T.leaf] at h2
   ·split at h2
    ·rename_i e hna;obtain⟨q1,q2,q3,y',g1,g2,g3,g4⟩:=azX (P:=P) (w:=w) htt hna h1 hyv hp h2;exact⟨q1,q3,yJ.value (u:=y') (by simp [execOp,Dn (P:=P) (w:=w) g3 g4,g1]) ⟨E,by rw [q2]; exact Stp.refl _ _ _,by rw [q2]; exact r,g2⟩⟩
    split at h2
    ·rename_i k e d hrl;obtain⟨rfl,hu1,hu2⟩:=ajV hrl h1 hyv;obtain⟨q1,q2,q3,hne,q4⟩:=azJ hp h2;refine⟨q1,q3,yJ.value (u:=.int k ((e.den E.ρ).tmod (d.den E.ρ))) (w':=w) ?_ ⟨E,by rw [q2]; exact Stp.refl _ _ _,by rw [q2]; exact r,q4 _⟩⟩;simp [execOp,hu1,hu2,binOp,Op.intDiv,hne,eqGuard]
    split at h2
    ·rename_i x' y' hsp;obtain⟨q1,q2,q3,⟨y'',g1,g2⟩,g3,g4⟩:=alF (P:=P) (w:=w) (t:=t) hp h1 hyv hsp h2;exact⟨q1,q3,yJ.value (u:=y'') (by simp [execOp,Dn (P:=P) (w:=w) g3 g4,g1]) ⟨E,by rw [q2]; exact Stp.refl _ _ _,by rw [q2]; exact r,g2⟩⟩
    ·obtain⟨e1,rfl⟩:=lS h2;obtain⟨⟨y',g1,g2⟩,g3,g4⟩:=asN (w:=w) htt h1 hyv e1;exact pV.pure hp r (u:=y') (by simp [execOp,Dn (P:=P) (w:=w) g3 g4,g1]) g2
  ·simp [T.leaf] at h2
 case unOp uop t x=>
  obtain⟨u,h1,h2⟩:=jU sr h;obtain⟨e1,rfl⟩:=lS h2;obtain⟨y,g1,g2⟩:=aA0 (P:=P) (w:=w) h1 e1;exact pV.pure hp r (u:=y) (by simp [execOp,g1]) g2
 case convert sT dT x=>
  obtain⟨u,h1,h2⟩:=jU sr h;split at h2
  ·obtain⟨q1,q2,y,w',E',g1,g2,g3,g4⟩:=adA (P:=P) htt r hp h1 h2;exact⟨q1,q2,yJ.value (u:=y) (by simp [execOp,g1]) ⟨E',g2,g3,g4⟩⟩
  obtain⟨H,e1,rfl⟩:=wH h2;obtain⟨y,w',E',g1,g2,g3,g4⟩:=Ii htt r h1 e1;exact pV.heap hp (u:=y) (by simp [execOp,g1]) g2 g3 g4
 case makeFunc fn fs cs=>
  split at h
  ·rename_i f c hf hcs;have:=aH h;simp only [aJg] at this;obtain⟨rfl,rfl⟩:=this;have h1:=Wp sr hf;have h2:=Wp sr hcs;refine pV.pure hp r (u:=.func fn (fs.map a.eval) (cs.map a.eval)) (by simp [execOp,Instr.makeFunc]) ?_;simp only [VR];have m1:fs.map a.eval=(fs.toList.map a.eval).toArray:=Xp _ _;have m2:cs.map a.eval=(cs.toList.map a.eval).toArray:=Xp _ _;exact⟨_,_,by rw [m1,m2],h1,h2⟩
  ·simp [T.leaf] at h
 case makeMap t res=>
  split at h
  ·split at h
   ·rename_i m hm;have:=aH h;simp only [aJg] at this;obtain⟨rfl,rfl⟩:=this
    obtain⟨s1,s2⟩:=G9 r (.map #[] 0) (.jJ (.dat (.i 0)) m) 0 (w':={ w with heap:=w.heap.push (.map #[] 0) }) rfl ⟨rfl,rfl,rfl⟩ (by
     simp only [OR,En.ext_θ_new]
     exact⟨#[],0,by simp,by simp [pW,SE.den,aF,D.l]⟩)
    exact pV.heap hp (u:=.map (some w.heap.size)) (by simp [execOp,Instr.makeMap]) s1 s2 (by simp only [VR,En.ext_θ_new]; exact⟨trivial,En.kJ _ _ _ _⟩)
   have:=aH h;simp only [aJg] at this;obtain⟨rfl,rfl⟩:=this
   obtain⟨s1,s2⟩:=G9 r (.map #[] 0) (.map [] 0) 0 (w':={ w with heap:=w.heap.push (.map #[] 0) }) rfl ⟨rfl,rfl,rfl⟩ (by
    simp only [OR,En.ext_θ_new]
    exact⟨#[],0,by simp,by simp [fF]⟩)
   exact pV.heap hp (u:=.map (some w.heap.size)) (by simp [execOp,Instr.makeMap]) s1 s2 (by simp only [VR,En.ext_θ_new]; exact⟨trivial,En.kJ _ _ _ _⟩)
  ·simp [T.leaf] at h
 case slice t x lo hi mx=>
  obtain⟨u,h1,h2⟩:=jU sr h;split at h2
  ·rename_i l hh m hl hhh hm;split at h2
   ·obtain⟨q1,q2,q3,y,g1,g2⟩:=acX (w:=w) htt hp h1 (gU sr hl) (gU sr hhh) (gU sr hm) h2;exact⟨q1,q3,yJ.value (u:=y) (by simp [execOp,g1]) ⟨E,by rw [q2]; exact Stp.refl _ _ _,by rw [q2]; exact r,g2⟩⟩
   ·obtain⟨q1,q2,q3,y,g1,g2⟩:=O9 htt r hp (aeF h1) (gU sr hl) (gU sr hhh) (gU sr hm) h2;exact⟨q1,q3,yJ.value (u:=y) (by simp [execOp,g1]) ⟨E,by rw [q2]; exact Stp.refl _ _ _,by rw [q2]; exact r,g2⟩⟩
   ·obtain⟨q1,q2,q3,y,g1,g2⟩:=O9 htt r hp h1 (gU sr hl) (gU sr hhh) (gU sr hm) h2;exact⟨q1,q3,yJ.value (u:=y) (by simp [execOp,g1]) ⟨E,by rw [q2]; exact Stp.refl _ _ _,by rw [q2]; exact r,g2⟩⟩
   ·obtain⟨q1,q2,q3,y,g1,g2⟩:=acI (w:=w) htt hp h1 (gU sr hl) (gU sr hhh) (gU sr hm) h2;exact⟨q1,q3,yJ.value (u:=y) (by simp [execOp,g1]) ⟨E,by rw [q2]; exact Stp.refl _ _ _,by rw [q2]; exact r,g2⟩⟩
   ·obtain⟨q1,q2,q3,y,g1,g2⟩:=acV (w:=w) htt hp h1 (gU sr hl) (gU sr hhh) (gU sr hm) h2;exact⟨q1,q3,yJ.value (u:=y) (by simp [execOp,g1]) ⟨E,by rw [q2]; exact Stp.refl _ _ _,by rw [q2]; exact r,g2⟩⟩
   split at h2
   ·rename_i v' e1;have:=aH h2;simp only [aJg] at this;obtain⟨rfl,rfl⟩:=this;obtain⟨y,g1,g2⟩:=acM (w:=w) htt h1 (gU sr hl) (gU sr hhh) (gU sr hm) e1;exact pV.pure hp r (u:=y) (by simp [execOp,g1]) g2
   ·obtain⟨e1,rfl⟩:=lS h2;obtain⟨y,g1,g2⟩:=YX (w:=w) htt r h1 (gU sr hl) (gU sr hhh) (gU sr hm) e1;exact pV.pure hp r (u:=y) (by simp [execOp,g1]) g2
  ·simp [T.leaf] at h2
 case fieldAddr t x f=>
  obtain⟨u,h1,h2⟩:=jU sr h;obtain⟨e1,rfl⟩:=lS h2;obtain⟨y,g1,g2⟩:=Pv (w:=w) htt h1 e1;exact pV.pure hp r (u:=y) (by simp [execOp,g1]) g2
 case field t x f=>
  obtain⟨u,h1,h2⟩:=jU sr h;obtain⟨e1,rfl⟩:=lS h2;obtain⟨y,g1,g2⟩:=acU (w:=w) htt h1 e1;exact pV.pure hp r (u:=y) (by simp [execOp,g1]) g2
 case indexAddr t x i=>
  obtain⟨u,h1,h2⟩:=jU sr h;split at h2
  ·rename_i iv hi;split at h2
   ·obtain⟨e1,rfl⟩:=lS h2;obtain⟨y,g1,g2⟩:=acT (w:=w) htt hp h1 (kE sr hi) e1;exact pV.pure hp r (u:=y) (by simp [execOp,g1]) g2
   ·obtain⟨q1,q2,q3,y,g1,g2⟩:=acY (w:=w) htt hp h1 (kE sr hi) h2;exact⟨q1,q3,yJ.value (u:=y) (by simp [execOp,g1]) ⟨E,by rw [q2]; exact Stp.refl _ _ _,by rw [q2]; exact r,g2⟩⟩
   ·obtain⟨q1,q2,q3,y,g1,g2⟩:=acH (w:=w) htt hp h1 (kE sr hi) h2;exact⟨q1,q3,yJ.value (u:=y) (by simp [execOp,g1]) ⟨E,by rw [q2]; exact Stp.refl _ _ _,by rw [q2]; exact r,g2⟩⟩
   ·obtain⟨q1,q2,q3,y,g1,g2⟩:=acG (w:=w) htt hp h1 (kE sr hi) h2;exact⟨q1,q3,yJ.value (u:=y) (by simp [execOp,g1]) ⟨E,by rw [q2]; exact Stp.refl _ _ _,by rw [q2]; exact r,g2⟩⟩
   ·rename_i pid po;split at h2
    ·rename_i n e hb;split at h2
     ·rename_i ho;subst ho;obtain⟨kd,ti,el,ie,rfl,b1,b2,b3,b4,b5⟩:=QI hb;obtain⟨pc',hp',t1,t2,h3⟩:=sU hp h2;have:=aH h3;simp only [aJg] at this;obtain⟨rfl,rfl⟩:=this;have hiv:=kE sr hi;simp only [VR] at hiv;simp only [SE.den] at t2;obtain⟨k,hk⟩ : ∃k:Nat,e.den E.ρ=(k:Int):=⟨(e.den E.ρ).toNat,by omega⟩;have hlt:k<n:=by simp at t2; omega
      rw [hk] at hiv
      obtain⟨y,g1,g2⟩:=wM (P:=P) (w:=w) htt (t:=t) (ix:=.int kd (.lit (Int.ofNat k))) h1 (by simp only [VR,SE.den]; exact hiv) (v:=.ptr pid (0+k*ie.size)) (by
       unfold uI;simp only [oH,b1,b2,kY,b3,aJU];rw [aJe hlt]
       rfl)
      refine⟨rfl,hp',yJ.value (u:=y) (by simp [execOp,g1]) ⟨E,Stp.refl _ _ _,r,?_⟩⟩;simp only [VR] at g2 ⊢;exact⟨g2.2,k,hk,by rw [g2.1,b4]; congr 3; omega⟩
     ·simp [T.leaf] at h2
    ·obtain⟨ix',pc',hp',hix,h2⟩:=IG hp (kE sr hi) h2;obtain⟨e1,rfl⟩:=lS h2;obtain⟨y,g1,g2⟩:=wM (w:=w) htt h1 hix e1;exact⟨rfl,hp',yJ.value (u:=y) (by simp [execOp,g1]) ⟨E,Stp.refl _ _ _,r,g2⟩⟩
   ·obtain⟨ix',pc',hp',hix,h2⟩:=IG hp (kE sr hi) h2;obtain⟨e1,rfl⟩:=lS h2;obtain⟨y,g1,g2⟩:=wM (w:=w) htt h1 hix e1;exact⟨rfl,hp',yJ.value (u:=y) (by simp [execOp,g1]) ⟨E,Stp.refl _ _ _,r,g2⟩⟩
  ·simp [T.leaf] at h2
 case index t x i=>
  obtain⟨u,h1,h2⟩:=jU sr h;split at h2
  ·rename_i iv hi;split at h2
   ·obtain⟨q1,q2,q3,y,g1,g2⟩:=acJ (w:=w) htt hp h1 (kE sr hi) h2;exact⟨q1,q3,yJ.value (u:=y) (by simp [execOp,g1]) ⟨E,by rw [q2]; exact Stp.refl _ _ _,by rw [q2]; exact r,g2⟩⟩
   ·rename_i cs;split at h2
    ·rename_i n e hb;split at h2
     ·rename_i hn;have hn:=aJj hn;obtain⟨kd,ti,el,ie,rfl,b1,b2,b3,b4,b5⟩:=QI hb;obtain⟨q1,q2,q3,k,kk,z,x',c1,c2,c3,rfl,c5⟩:=YT hp h2;have hiv:=kE sr hi;simp only [VR] at hiv;rw [c1] at hiv;obtain⟨l,hd⟩:=JF c3
      obtain⟨y,g1,g2⟩:=FY (P:=P) (w:=w) htt (t:=t) (ix:=.int kd (.lit (Int.ofNat k))) h1 (by simp only [VR,SE.den]; exact hiv) (v:=.int kk (.lit z)) (by
       unfold Ig;simp only [oH,b1,b2,b3];rw [aJe (by omega),b4,aKT,hd]
       simp [partOf,b5])
      refine⟨q1,q3,yJ.value (u:=y) (w':=w) (by simp [execOp,g1]) ⟨E,by rw [q2]; exact Stp.refl _ _ _,by rw [q2]; exact r,?_⟩⟩;simp only [VR,SE.den] at g2 ⊢;rw [g2,c5]
     ·simp [T.leaf] at h2
    ·obtain⟨ix',pc',hp',hix,h2⟩:=IG hp (kE sr hi) h2;obtain⟨e1,rfl⟩:=lS h2;obtain⟨y,g1,g2⟩:=FY (w:=w) htt h1 hix e1;exact⟨rfl,hp',yJ.value (u:=y) (by simp [execOp,g1]) ⟨E,Stp.refl _ _ _,r,g2⟩⟩
   obtain⟨ix',pc',hp',hix,h2⟩:=IG hp (kE sr hi) h2;obtain⟨e1,rfl⟩:=lS h2;obtain⟨y,g1,g2⟩:=FY (w:=w) htt h1 hix e1;exact⟨rfl,hp',yJ.value (u:=y) (by simp [execOp,g1]) ⟨E,Stp.refl _ _ _,r,g2⟩⟩
  ·simp [T.leaf] at h2
 case lookup t m k ok=>
  obtain⟨u,h1,h2⟩:=jU sr h;split at h2
  ·rename_i kv hk;split at h2
   ·rename_i id e t' hat
    obtain⟨q1,q2,q3,y,g1,g2⟩:=acR (P:=P) htt r hp h1 (kE sr hk) hat h2;exact⟨q1,q3,yJ.value (u:=y) (by simp [execOp,g1]) ⟨E,by rw [q2]; exact Stp.refl _ _ _,by rw [q2]; exact r,g2⟩⟩
   obtain⟨pc',hp',h2⟩:=xE hp h2;obtain⟨e1,rfl⟩:=lS h2;obtain⟨y,g1,g2⟩:=Y1 htt hp' r h1 (kE sr hk) e1;exact⟨rfl,hp',yJ.value (u:=y) (by simp [execOp,g1]) ⟨E,Stp.refl _ _ _,r,g2⟩⟩
  ·simp [T.leaf] at h2
 case mapUpdate t m k x=>
  obtain⟨u,h1,h2⟩:=jU sr h;split at h2
  ·rename_i kv xv hk hx;split at h2
   ·obtain⟨q1,q2,rfl,w',E',g1,g2,g3⟩:=Ur (P:=P) htt r hp h1 (kE sr hk) (kE sr hx) h2;exact⟨q1,q2,yJ.skip (by simp [execOp,g1]) ⟨E',g2,g3,tK⟩⟩
   obtain⟨pc',hp',h2⟩:=xE hp h2;obtain⟨H,e1,rfl,rfl⟩:=GV h2;obtain⟨w',g1,g2,g3⟩:=Di htt hp' r h1 (kE sr hk) (kE sr hx) e1;exact⟨rfl,hp',yJ.skip (by simp [execOp,g1]) ⟨E,g2,g3,tK⟩⟩
  ·simp [T.leaf] at h2
 case range t x=>
  obtain⟨u,h1,h2⟩:=jU sr h;obtain⟨H,e1,rfl⟩:=wH h2;obtain⟨y,w',E',g1,g2,g3,g4⟩:=acN htt r h1 e1;exact pV.heap hp (u:=y) (by simp [execOp,g1]) g2 g3 g4
 case next x isS=>
  obtain⟨u,h1,h2⟩:=jU sr h;obtain⟨H,e1,rfl⟩:=wH h2;obtain⟨y,w',g1,g2,g3,g4⟩:=alH (P:=P) r h1 e1 type;exact pV.heap hp (u:=y) (by simp [execOp,g1]) g2 g3 g4
 case extract x i=>
  obtain⟨u,h1,h2⟩:=jU sr h;split at h2
  ·rename_i vs;obtain⟨e1,rfl⟩:=lS h2;simp only [VR] at h1;obtain⟨us,hus,h1⟩:=h1;obtain⟨y,g1,g2⟩:=h1.nth e1;exact pV.pure hp r (u:=y) (by simp [execOp,Instr.extract,hus,g1]) g2
  ·simp [T.leaf] at h2
 case call c=>exact alL htt hc r sr hp rfl h
end
section
variable {P:Program}
structure Fit [Glob] (E:En) (s:St) (a:Act) (w:World):Prop where
 rel:bJ E s.h w
 sr:SR E w.heap s.slots a
 pc:bM E.ρ s.pc
structure Then [Glob] (E:En) (s:St) (a:Act) (w:World) (s':St) (a':Act) (w':World):Prop where
 defers:a'.defers=a.defers
 size:a'.tmps.size=a.tmps.size
 step: ∃E',Stp E s.h w E' s'.h w'/\Fit E' s' a' w'
theorem Then.refl [Glob] {E:En} {s:St} {a:Act} {w:World} (f:Fit E s a w):Then E s a w s a w:=⟨rfl,rfl,E,Stp.refl _ _ _,f⟩
theorem SR.keep {E E':En} {h h':Array Obj} (k:Keeps E h E' h') {slots:Tr AV} {a:Act} (sr:SR E h slots a):SR E' h' slots a:=by intro t v ht;obtain⟨u,h1,h2⟩:=sr t v ht;exact⟨u,h1,VR.keep k v u h2⟩
theorem SR.put {E:En} {h:Array Obj} {slots:Tr AV} {a:Act} (sr:SR E h slots a) {d:Nat} {v:AV} {u:Value} (hd:d<a.tmps.size) (hv:VR E h v u):SR E h (slots.put d (some v)) (a.put (some d) u):=by
 intro t x ht;rw [Tr.get_put] at ht;simp only [Act.put];split at ht
 ·rename_i e;subst e;simp at ht;subst ht;exact⟨u,by simp [hd],hv⟩
 ·rename_i e;obtain⟨y,h1,h2⟩:=sr t x ht;exact⟨y,by rw [aKd (fun q=>e q.symm)]; exact h1,h2⟩
theorem SR.aIc {E:En} {h:Array Obj} {s:St} {a:Act} (sr:SR E h s.slots a) {d:Option Nat} {v:AV} {u:Value} (hd: ∀t,d=some t->t<a.tmps.size) (hv:VR E h v u):SR E h (s.X4 d v).slots (a.put d u):=by
 cases d with
 |none=>exact sr
 |some t=>exact sr.put (hd t rfl) hv
theorem Oc (a:Act) (d:Option Nat) (u:Value):(a.put d u).tmps.size=a.tmps.size:=by cases d<;>simp [Act.put]
theorem put_defers (a:Act) (d:Option Nat) (u:Value):(a.put d u).defers=a.defers:=by cases d<;>rfl
theorem apG (s:St) (d:Option Nat) (v:AV):(s.X4 d v).h=s.h:=by cases d<;>rfl
theorem ayZ (s:St) (d:Option Nat) (v:AV):(s.X4 d v).pc=s.pc:=by cases d<;>rfl
theorem Uk [Glob] {E:En} {s s':St} {a:Act} {w w':World} {v:AV} {u:Value} {d:Option Nat} (f:Fit E s a w) (hs:s'.slots=s.slots) (hp:bM E.ρ s'.pc) (h:After E s w v s' u w') (hd: ∀t,d=some t->t<a.tmps.size) :
 Then E s a w (s'.X4 d v) (a.put d u) w':=by
 obtain⟨E',h1,h2,h3⟩:=h;refine⟨put_defers _ _ _,Oc _ _ _,E',by rw [apG]; exact h1,⟨by rw [apG]; exact h2,?_,by rw [ayZ,h1.ρ]; exact hp⟩⟩;refine SR.aIc ?_ hd h3;rw [hs];exact f.sr.keep (h1.keeps f.rel)
theorem Then.trans [Glob] {E:En} {s s1 s2:St} {a a1 a2:Act} {w w1 w2:World} (h1:Then E s a w s1 a1 w1) (h2: ∀E1,Stp E s.h w E1 s1.h w1->Fit E1 s1 a1 w1->Then E1 s1 a1 w1 s2 a2 w2):Then E s a w s2 a2 w2:=by obtain⟨d1,z1,E1,st1,f1⟩:=h1;obtain⟨d2,z2,E2,st2,f2⟩:=h2 E1 st1 f1;exact⟨d2.trans d1,z2.trans z1,E2,st1.trans st2,f2⟩
theorem Ov [Glob] {α:Type} {E:En} {w:World} {s:St} {a:Act} {ops:Array Oper} {o:Oper} {f:St->Bool->T α} {r:α} (fit:Fit E s a w) (h:(D8 ops.toList s o f).leaf E.ρ=some r) :
 ∃pc',bM E.ρ pc'/\(f { s with pc:=pc' } (Region.wanted o (yielded ops a.tmps))).leaf E.ρ=some r:=by
 unfold D8 at h;unfold Region.wanted;split at h
 ·rename_i hg;rw [hg];exact⟨s.pc,fit.pc,h⟩
 ·rename_i j want hg;rw [hg];split at h
  ·rename_i oj hj;rw [dD,aJS] at hj;split at h
   ·rename_i d hd;split at h
    ·rename_i c hc;obtain⟨u,h1,h2⟩:=fit.sr d _ hc;simp only [VR] at h2;subst h2;obtain⟨pc',hp',h3⟩:=dB fit.pc h;refine⟨pc',hp',?_⟩;have:yielded ops a.tmps j=some (c.den E.ρ):=by simp [yielded,hj,hd,h1]
     simp only [this];simpa using h3
    ·rename_i vs hc;obtain⟨u,h1,h2⟩:=fit.sr d _ hc;simp only [VR] at h2;obtain⟨us,rfl,_⟩:=h2;refine⟨s.pc,fit.pc,?_⟩;have:yielded ops a.tmps j=none:=by simp [yielded,hj,hd,h1]
     simp only [this];simpa using h
    ·simp [T.leaf] at h
   ·simp [T.leaf] at h
  ·simp [T.leaf] at h
def aFu (n:Nat) (ops:List Oper):Bool:=ops.all fun o=>match o.dst with |some d=>d<n|none=>true
theorem Pn [Glob] {tt:TT} (htt:eY P tt) {call:dS} (hc:kU P call) {ops:Array Oper} {Q:Exit->Act->World->Prop}: ∀(rest:List Oper) (i:Nat) {E:En} {s s':St} {a:Act} {w:World},ops.toList.drop i=rest->
 (∀o∈rest,∀d,o.dst=some d->d<a.tmps.size)->Fit E s a w->(Y0 tt call ops.toList rest s).leaf E.ρ=some s'->
 (∀a' w',Then E s a w s' a' w'->Q .normal a' w')->wpOps P ops Q (List.range' i rest.length) a w
 |[],i,E,s,s',a,w,_,_,fit,h,hq=>by have:=aH h;subst this;exact hq a w (Then.refl fit)
 |o::rest,i,E,s,s',a,w,hi,hd,fit,h,hq=>by
  simp only [Y0] at h;obtain⟨pc',hp',h1⟩:=Ov fit h
  have hoi:ops[i]?=some o:=by have:=congrArg (·[0]?) hi;simpa using this
  have hrest:ops.toList.drop (i+1)=rest:=by have:=congrArg List.tail hi;simpa using this
  have fit':Fit E { s with pc:=pc' } a w:=⟨fit.rel,fit.sr,hp'⟩;simp only [aJr,List.range'_succ];show wpOps P ops Q (i::List.range' (i+1) rest.length) a w;simp only [wpOps,hoi];cases hw:Region.wanted o (yielded ops a.tmps)<;>rw [hw] at h1
  ·simp only [aJw,if_false] at h1 ⊢
   have hstep:Then E s a w (St.X4 { s with pc:=pc' } o.dst AV.undef) (a.put o.dst undef) w:=
    Uk (s':={ s with pc:=pc' }) fit rfl hp' ⟨E,Stp.refl _ _ _,fit.rel,tK⟩ (hd o (by simp))
   obtain⟨d1,z1,E1,st1,f1⟩:=hstep;refine Pn htt hc rest (i+1) hrest (fun o' ho' d hd'=>by rw [z1]; exact hd o' (by simp [ho']) d hd') f1 (by rw [st1.ρ]; exact h1) fun a' w' ht=>?_;exact hq a' w' ⟨ht.defers.trans d1,ht.size.trans z1,by obtain⟨E2,st2,f2⟩:=ht.step; exact⟨E2,st1.trans st2,f2⟩⟩
  ·simp only [if_true] at h1 ⊢;left;obtain⟨⟨v,s1⟩,h2,h3⟩:=T.gQ h1;obtain⟨q1,q2,q3⟩:=ahO htt hc (o:=o) fit'.rel fit'.sr fit'.pc h2;refine q3 _ _ fun u w1 hu=>?_;have hstep:Then E s a w (s1.X4 o.dst v) (a.put o.dst u) w1:=Uk (s:=s) (s':=s1) fit q1 q2 hu (hd o (by simp));obtain⟨d1,z1,E1,st1,f1⟩:=hstep;refine Pn htt hc rest (i+1) hrest (fun o' ho' d hd'=>by rw [z1]; exact hd o' (by simp [ho']) d hd') f1 (by rw [st1.ρ]; exact h3) fun a' w' ht=>?_;exact hq a' w' ⟨ht.defers.trans d1,ht.size.trans z1,by obtain⟨E2,st2,f2⟩:=ht.step; exact⟨E2,st1.trans st2,f2⟩⟩
def aBy [Glob] (P:Program) (draw:List Oper->St->T St):Prop:=
 ∀(id:Nat) (ops:Array Oper) (E:En) (s s':St) (a:Act) (w:World) (Q:Exit->Act->World->Prop),(∀o∈ops.toList,∀d,o.dst=some d->d<a.tmps.size)->Fit E s a w->(draw ops.toList s).leaf E.ρ=some s'->
  (∀a' w',Then E s a w s' a' w'->Q .normal a' w')->(Code.region id ops true).wp P Q a w
def DJ [Glob] (P:Program) (chk:Nat->List Oper->Bool) (draw:Nat->List Oper->St->T St):Prop:=
 ∀(id:Nat) (ops:Array Oper),chk id ops.toList=true->∀(E:En) (s s':St) (a:Act) (w:World) (Q:Exit->Act->World->Prop),(∀o∈ops.toList,∀d,o.dst=some d->d<a.tmps.size)->Fit E s a w->(draw id ops.toList s).leaf E.ρ=some s'->
  (∀a' w',Then E s a w s' a' w'->Q .normal a' w')->(Code.region id ops true).wp P Q a w
def nN (chk:Nat->List Oper->Bool) (n:Nat):Code->Bool
 | .region id ops d=>aFu n ops.toList&&(!d||chk id ops.toList)
 | .seq a b=>nN chk n a&&nN chk n b
 | .cond _ a b=>nN chk n a&&nN chk n b
 | .block _ b=>nN chk n b
 | .loop b=>nN chk n b
 | .scope b=>nN chk n b
 |_=>true
theorem aBb {n m:Nat} {ops:List Oper} (h:aFu n ops=true) (hm:n<=m): ∀o∈ops,∀d,o.dst=some d->d<m:=by intro o ho d hd;unfold aFu at h;rw [aJD] at h;have:=h o ho;rw [hd] at this;simp at this;exact aKb this hm
def Fj:Ex->Exit
 | .normal=> .normal
 | .exit id=> .exit id
 | .ret=> .ret
def Post [Glob] (E:En) (s:St) (a:Act) (w:World) (e:Ex) (s':St) (x:Exit) (a':Act) (w':World):Prop:=x=Fj e/\Then E s a w s' a' w'
theorem Then.comp [Glob] {E E1:En} {s s1 s2:St} {a a1 a2:Act} {w w1 w2:World} (d1:a1.defers=a.defers) (z1:a1.tmps.size=a.tmps.size) (st1:Stp E s.h w E1 s1.h w1) (h2:Then E1 s1 a1 w1 s2 a2 w2):Then E s a w s2 a2 w2:=by obtain⟨d2,z2,E2,st2,f2⟩:=h2;exact⟨d2.trans d1,z2.trans z1,E2,st1.trans st2,f2⟩
def axM [Glob] (P:Program) (c:Code) (n:Nat) (f:St->T (Ex×St)):Prop:=
 ∀(E:En) (s s':St) (e:Ex) (a:Act) (w:World),n<=a.tmps.size->Fit E s a w->(f s).leaf E.ρ=some (e,s')->c.wp P (Post E s a w e s') a w
theorem Po {ρ:Nat->Int} {f:St->T (Ex×St)}: ∀(k:Nat) {s s':St} {e:Ex},(Dk f k s).leaf ρ=some (e,s')->e≠.normal
 |0,s,s',e,h=>by simp [Dk,T.leaf] at h
 |k+1,s,s',e,h=>by
  simp only [Dk] at h;obtain⟨⟨e1,s1⟩,h1,h2⟩:=T.gQ h
  cases e1 with
  |normal=>exact Po k h2
  |exit id=>have:=aH h2; simp only [aJg] at this; rw [<- this.1]; simp
  |ret=>have:=aH h2; simp only [aJg] at this; rw [<- this.1]; simp
theorem Ut [Glob] {c:Code} {n:Nat} {f:St->T (Ex×St)} (hf:axM P c n f): ∀(k:Nat) {E:En} {s s':St} {e:Ex} {a:Act} {w:World},n<=a.tmps.size->Fit E s a w->(Dk f k s).leaf E.ρ=some (e,s')->
 ∀(Q:Exit->Act->World->Prop),(∀a' w',Then E s a w s' a' w'->Q (Fj e) a' w')->e≠.normal/\Code.rounds P c Q k a w
 |0,E,s,s',e,a,w,_,_,h,_,_=>by simp [Dk,T.leaf] at h
 |k+1,E,s,s',e,a,w,hn,fit,h,Q,hq=>by
  simp only [Dk] at h;obtain⟨⟨e1,s1⟩,h1,h2⟩:=T.gQ h;have hw:=hf E s s1 e1 a w hn fit h1;rw [rounds_succ]
  cases e1 with
  |normal=>
   simp only at h2;constructor
   ·exact Po k h2
   ·refine wp_mono hw fun x a1 w1 ⟨hx,ht⟩=>?_;subst hx;obtain⟨d1,z1,E1,st1,f1⟩:=ht;exact (Ut hf k (by rw [z1]; exact hn) f1 (by rw [st1.ρ]; exact h2) Q fun a' w' ht'=>hq a' w' (ht'.comp d1 z1 st1)).2
  |exit id=> have:=aH h2;simp only [aJg] at this;obtain⟨rfl,rfl⟩:=this;refine⟨by simp,wp_mono hw fun x a1 w1 ⟨hx,ht⟩=>?_⟩;subst hx;exact hq a1 w1 ht
  |ret=> have:=aH h2;simp only [aJg] at this;obtain⟨rfl,rfl⟩:=this;refine⟨by simp,wp_mono hw fun x a1 w1 ⟨hx,ht⟩=>?_⟩;subst hx;exact hq a1 w1 ht
theorem oU [Glob] {tt:TT} (htt:eY P tt) {call:dS} (hc:kU P call) {draw:Nat->List Oper->St->T St} {chk:Nat->List Oper->Bool} (hdr:DJ P chk draw) {lf n:Nat}: ∀(c:Code),nN chk n c=true->axM P c n (lV tt call draw lf c)
 | .skip,_,E,s,s',e,a,w,_,fit,h=>by have:=aH h;simp only [aJg] at this;obtain⟨rfl,rfl⟩:=this;exact wp_skip ⟨rfl,Then.refl fit⟩
 | .region id ops d,hdst,E,s,s',e,a,w,hn,fit,h=>by
   simp only [lV] at h;simp only [nN,aJh] at hdst;have hd:=aBb hdst.1 hn;cases d
   ·simp only [aJw,if_false] at h;obtain⟨s1,h1,h2⟩:=T.gQ h;have:=aH h2;simp only [aJg] at this;obtain⟨rfl,rfl⟩:=this;refine wp_region ?_;have:=Pn (Q:=Post E s a w .normal s1) htt hc ops.toList 0 (by simp) hd fit h1 (fun a' w' ht=> ⟨rfl,ht⟩);rw [List.range_eq_range'];simpa using this
   ·simp only [if_true] at h;obtain⟨s1,h1,h2⟩:=T.gQ h;have:=aH h2;simp only [aJg] at this;obtain⟨rfl,rfl⟩:=this;exact hdr id ops (by simpa using hdst.2) E s s1 a w _ hd fit h1 (fun a' w' ht=> ⟨rfl,ht⟩)
 | .seq x y,hdst,E,s,s',e,a,w,hn,fit,h=>by
   simp only [nN,aJh] at hdst;simp only [lV] at h;obtain⟨⟨e1,s1⟩,h1,h2⟩:=T.gQ h;refine wp_seq (wp_mono (oU htt hc hdr x hdst.1 E s s1 e1 a w hn fit h1) fun q a1 w1 ⟨hx,ht⟩=>?_);subst hx
   cases e1 with
   |normal=> simp only at h2;obtain⟨d1,z1,E1,st1,f1⟩:=ht;refine wp_mono (oU htt hc hdr y hdst.2 E1 s1 s' e a1 w1 (by rw [z1]; exact hn) f1 (by rw [st1.ρ]; exact h2)) fun q a2 w2 ⟨hx,ht'⟩=>?_;exact⟨hx,ht'.comp d1 z1 st1⟩
   |exit id=> have:=aH h2;simp only [aJg] at this;obtain⟨rfl,rfl⟩:=this;exact⟨rfl,ht⟩
   |ret=> have:=aH h2;simp only [aJg] at this;obtain⟨rfl,rfl⟩:=this;exact⟨rfl,ht⟩
 | .cond c x y,hdst,E,s,s',e,a,w,hn,fit,h=>by
   simp only [nN,aJh] at hdst;simp only [lV] at h;split at h
   ·rename_i cb hcb;have hv:=kE fit.sr hcb;simp only [VR] at hv;obtain⟨pc',hp',h1⟩:=dB fit.pc h;have fit':Fit E { s with pc:=pc' } a w:=⟨fit.rel,fit.sr,hp'⟩;refine wp_cond hv ?_;cases hcd:cb.den E.ρ<;>rw [hcd] at h1
    ·simp only [aJw,if_false] at h1 ⊢;exact wp_mono (oU htt hc hdr y hdst.2 E _ s' e a w hn fit' h1) fun q a2 w2 ⟨hx,ht⟩=> ⟨hx,ht.defers,ht.size,ht.step⟩
    ·simp only [if_true] at h1 ⊢;exact wp_mono (oU htt hc hdr x hdst.1 E _ s' e a w hn fit' h1) fun q a2 w2 ⟨hx,ht⟩=> ⟨hx,ht.defers,ht.size,ht.step⟩
   ·simp [T.leaf] at h
 | .block id b,hdst,E,s,s',e,a,w,hn,fit,h=>by
   simp only [nN] at hdst;simp only [lV] at h;obtain⟨⟨e1,s1⟩,h1,h2⟩:=T.gQ h;refine wp_block (wp_mono (oU htt hc hdr b hdst E s s1 e1 a w hn fit h1) fun q a1 w1 ⟨hx,ht⟩=>?_);subst hx
   cases e1 with
   |normal=> have:=aH h2;simp only [aJg] at this;obtain⟨rfl,rfl⟩:=this;exact⟨rfl,ht⟩
   |exit j=>
    have:=aH h2;simp only [aJg] at this;obtain⟨rfl,rfl⟩:=this;simp only [Fj,Exit.inBlock];by_cases hj:j=id
    ·rw [aJe hj,aJe hj]; exact⟨rfl,ht⟩
    ·rw [aJd hj,aJd hj]; exact⟨rfl,ht⟩
   |ret=> have:=aH h2;simp only [aJg] at this;obtain⟨rfl,rfl⟩:=this;exact⟨rfl,ht⟩
 | .loop b,hdst,E,s,s',e,a,w,hn,fit,h=>by simp only [nN] at hdst;simp only [lV] at h;exact wp_loop_rounds lf (Ut (oU htt hc hdr b hdst) lf hn fit h (Post E s a w e s') (fun a' w' ht=> ⟨rfl,ht⟩)).2
 | .exit id,_,E,s,s',e,a,w,_,fit,h=>by have:=aH h;simp only [aJg] at this;obtain⟨rfl,rfl⟩:=this;exact wp_exit ⟨rfl,Then.refl fit⟩
 | .scope b,hdst,E,s,s',e,a,w,hn,fit,h=>by simp only [nN] at hdst;simp only [lV] at h;refine wp_scope_straight (wp_mono (oU htt hc hdr b hdst E s s' e a w hn fit h) fun q a1 w1 ⟨hx,ht⟩=>?_);subst hx;cases e<;>exact⟨rfl,ht⟩
 | .label l,_,E,s,s',e,a,w,_,fit,h=>by have:=aH h;simp only [aJg] at this;obtain⟨rfl,rfl⟩:=this;exact wp_label ⟨rfl,Then.refl fit⟩
 | .ret,_,E,s,s',e,a,w,_,fit,h=>by have:=aH h;simp only [aJg] at this;obtain⟨rfl,rfl⟩:=this;exact wp_ret ⟨rfl,Then.refl fit⟩
 | .rangeFunc _ _ _ _,_,E,s,s',e,a,w,_,fit,h=>by simp [lV,T.leaf] at h
 | .goto _,_,E,s,s',e,a,w,_,fit,h=>by simp [lV,T.leaf] at h
 | .refuse _,_,E,s,s',e,a,w,_,fit,h=>by simp [lV,T.leaf] at h
end
section
variable {P:Program}
theorem YC: ∀(args:List AV) (i:Nat) (t:Tr AV) (k:Nat),(bI args i t).get k=if i<=k/\k<i+args.length then args[k-i]? else t.get k
 |[],i,t,k=>by
  have: ¬(i<=k/\k<i+([]:List AV).length):=by simp
  rw [aJd this];rfl
 |v::vs,i,t,k=>by
  simp only [bI,YC vs (i+1),Tr.get_put,aJr];by_cases h1:i+1<=k/\k<i+1+vs.length
  ·have h2:i<=k/\k<i+(vs.length+1):=by omega
   rw [aJe h1,aJe h2];have:k-i=(k-(i+1))+1:=by omega
   rw [this,aJk]
  ·rw [aJd h1];by_cases h3:k=i
   ·subst h3;have h2:k<=k/\k<k+(vs.length+1):=by omega
    rw [aJe h2];simp
   ·have h2: ¬(i<=k/\k<i+(vs.length+1)):=by omega
    rw [aJd h2]
    first
     |rw [aJd h3]
     |rw [aJd (fun q=>h3 q.symm)]
theorem bP.get {E:En} {h:Array Obj}: ∀{vs:List AV} {us:List Value},bP E h vs us->∀(i:Nat) (v:AV),vs[i]?=some v->∃u,us[i]?=some u/\VR E h v u
 |[],us,hv,i,v,hi=>by simp at hi
 |x::xs,us,hv,i,v,hi=>by
  cases us with
  |nil=>simp [bP] at hv
  |cons y ys=>
   simp only [bP] at hv;obtain⟨u',us',he,h1,h2⟩:=hv;simp only [List.cons.injEq] at he;obtain⟨rfl,rfl⟩:=he
   cases i with
   |zero=>simp at hi; subst hi; exact⟨y,by simp,h1⟩
   |succ i=>simpa using bP.get h2 i v (by simpa using hi)
theorem Hq {E:En} {h:Array Obj} {args:List AV} {vals:List Value} (hv:bP E h args vals) (n:Nat) :
 SR E h (bI args 0 .nil) { tmps:=vals.toArray++Array.replicate n undef,defers:=[] }:=by
 intro t v ht;rw [YC] at ht;split at ht
 ·rename_i hk;obtain⟨u,h1,h2⟩:=bP.get hv t v (by simpa using ht);refine⟨u,?_,h2⟩
  have:t<vals.length:=by
   rcases aJx t vals.length with h|h
   ·exact h
   ·rw [aJ6 h] at h1; simp at h1
  rw [aLa (by simpa using this)];simpa using h1
 ·simp [Tr.get] at ht
def CJ (a:Act):ResultVar->Sem Value
 | .tmp t=>pure (a.tmps.getD t undef)
 | .cell b t=>do loadVar t (<- asAddr (a.tmps.getD b undef))
def resV (vs:List AV):AV:=match vs with |[x]=>x|vs=> .tuple vs
theorem SX {vs:List AV} (h: ∀v,vs= [v]->False):resV vs= .tuple vs:=by
 unfold resV;split
 ·exact absurd rfl (h _)
 ·rfl
theorem LP {E:En} {h:Array Obj} {vs:List AV} {us:List Value} (g2:bP E h vs us):VR E h (resV vs) (if h:us.toArray.size=1 then us.toArray[0] else .tuple us.toArray):=by
 cases vs with
 |nil=> simp only [bP] at g2;subst g2;simp [resV,VR,bP]
 |cons x xs=>
  cases xs with
  |nil=> simp only [bP] at g2;obtain⟨u,us',rfl,h1,rfl⟩:=g2;simpa [resV] using h1
  |cons x2 xs=>
   have g3:=g2;simp only [bP] at g2;obtain⟨u,us',rfl,h1,u2,us2,rfl,h2,h3⟩:=g2;have: ¬((u::u2::us2).toArray.size=1):=by simp
   rw [dif_neg this];simp only [resV,VR];exact⟨_,rfl,g3⟩
theorem YZ [Glob] {tt:TT} (htt:eY P tt) {E:En} {s:St} {a:Act} {w:World} (fit:Fit E s a w) {r:ResultVar} {v:AV} (h:Ib tt s r=some v) :
 ∃u,(CJ a r).run P w= .ok u w/\VR E w.heap v u:=by
 cases r with
 |tmp t=> simp only [Ib] at h;obtain⟨u,h1,h2⟩:=fit.sr t v h;exact⟨u,by simp [CJ,h1,aJY],h2⟩
 |cell b t=>
  simp only [Ib] at h;split at h
  ·rename_i p hp;obtain⟨u,h1,h2⟩:=fit.sr b p hp;obtain⟨x,bb,o,rfl,h3,h4⟩:=JC htt fit.rel h2 h;exact⟨x,by simp [CJ,h1,aJY,asAddr,h3],h4⟩
  ·simp at h
theorem Ba [Glob] {tt:TT} (htt:eY P tt) {E:En} {s:St} {a:Act} {w:World} (fit:Fit E s a w): ∀{rs:List ResultVar} {vs:List AV},oQ tt s rs=some vs->
 ∃us,(rs.mapM (CJ a)).run P w= .ok us w/\bP E w.heap vs us
 |[],vs,h=>by simp [oQ] at h;subst h;exact⟨[],by simp,by simp [bP]⟩
 |r::rs,vs,h=>by
  simp only [oQ] at h;split at h
  ·simp at h
  ·rename_i v hv;split at h
   ·simp at h
   ·rename_i vs' hvs;simp at h;subst h;obtain⟨u,h1,h2⟩:=YZ htt fit hv;obtain⟨us,h3,h4⟩:=Ba htt fit hvs;refine⟨u::us,?_,by simp only [bP]; exact⟨u,us,rfl,h2,h4⟩⟩;rw [aKQ];simp [Sem.run_bind,h1,h3]
def amA (P:Program) (chk:Nat->Nat->List Oper->Bool) (ft:Nat->Option Func):Prop:= ∀g fn,ft g=some fn->P.funcs[g]?=some fn/\(fn.name == "runtime.NumGoroutine")=false/\∀c,fn.body=some c->nN (chk g) fn.ntmps c=true
theorem Ih [Glob] {tt:TT} (htt:eY P tt) {chk:Nat->Nat->List Oper->Bool} {ft:Nat->Option Func} (hft:amA P chk ft) {hook:Nat->Option (List AV->St->T (AV×St))} (hh: ∀g h,hook g=some h->nU P g h)
 {draw:dS->Nat->Nat->List Oper->St->T St} (hdr: ∀call,kU P call->∀g,DJ P (chk g) (draw call g)) (lf:Nat): ∀(n:Nat),kU P (WH tt ft hook draw lf n)
 |0=>by intro g args s E w vals v s' _ _ _ h;simp [WH,T.leaf] at h
 |n+1=>by
  have ih:=Ih htt hft hh hdr lf n;intro g args s E w vals v s' r hv hp h;simp only [WH] at h;split at h
  ·rename_i f hf;exact hh g f hf args s E w vals v s' r hv hp h
  ·split at h
   ·simp [T.leaf] at h
   ·rename_i fn hfn;obtain⟨hf,hname,hdst⟩:=hft g fn hfn;split at h
    ·simp [T.leaf] at h
    ·rename_i c hb;obtain⟨⟨e,s1⟩,h1,h2⟩:=T.gQ h
     have fit:Fit E { s with slots:=bI args 0 .nil } { tmps:=vals.toArray++Array.replicate (fn.ntmps-vals.toArray.size) undef,defers:=[] } w:=
      ⟨r,Hq hv _,hp⟩
     have hwp:=oU htt ih (hdr _ ih g) (lf:=lf) c (hdst c hb) E _ s1 e _ w (by simp; omega) fit h1
     have hout: ∃vs,oQ tt s1 fn.results.toList=some vs/\(e= .normal\/e= .ret)/\s'= { s1 with slots:=s.slots }/\v=resV vs:=by
      cases e with
      |exit id=>simp [T.leaf] at h2
      |normal=>
       simp only at h2;split at h2
       ·rename_i x hx;have:=aH h2;simp only [aJg] at this;exact⟨_,hx,.inl rfl,this.2.symm,this.1.symm⟩
       ·rename_i vs hn hx;have:=aH h2;simp only [aJg] at this;refine⟨_,hx,.inl rfl,this.2.symm,?_⟩;rw [<- this.1];exact (SX hn).symm
       ·simp [T.leaf] at h2
      |ret=>
       simp only at h2;split at h2
       ·rename_i x hx;have:=aH h2;simp only [aJg] at this;exact⟨_,hx,.inr rfl,this.2.symm,this.1.symm⟩
       ·rename_i vs hn hx;have:=aH h2;simp only [aJg] at this;refine⟨_,hx,.inr rfl,this.2.symm,?_⟩;rw [<- this.1];exact (SX hn).symm
       ·simp [T.leaf] at h2
     obtain⟨vs,hr,he,rfl,rfl⟩:=hout
     have hpc:bM E.ρ s1.pc:=by obtain⟨_,_,_,⟨_,ht⟩,_⟩:=hwp default [] [];obtain⟨E1,st1,f1⟩:=ht.step;have:=f1.pc;rw [st1.ρ] at this;exact this
     refine⟨rfl,hpc,?_⟩
     have aEe:Calls P g vals.toArray w fun e w''=> ∃u,e= .returned u/\After E s w (resV vs) { s1 with slots:=s.slots } u w'':=by
      refine calls_of_wp hf hb (wp_mono hwp fun x a1 w1 ⟨hx,ht⟩=>?_);subst hx;obtain⟨d1,z1,E1,st1,f1⟩:=ht;obtain⟨us,g1,g2⟩:=Ba htt f1 hr
      have: ∃u,(results fn a1.tmps).run P w1= .ok u w1/\VR E1 w1.heap (resV vs) u:=by
       refine⟨if h:us.toArray.size=1 then us.toArray[0] else .tuple us.toArray,?_,?_⟩
       ·have hm:(fn.results.mapM (CJ a1)).run P w1= .ok us.toArray w1:=by
         rw [aLV];rw [map_eq_pure_bind];simp only [Sem.run_bind,g1];rfl
        have hres:results fn a1.tmps=(do let vs <- fn.results.mapM (CJ a1); pure (if h:vs.size=1 then vs[0] else .tuple vs)):=rfl;rw [hres];simp only [Sem.run_bind,hm];rfl
       ·exact LP g2
      obtain⟨u,g3,g4⟩:=this;rcases he with rfl|rfl
      ·exact⟨d1,u,g3,u,rfl,E1,st1,f1.rel,g4⟩
      ·exact⟨d1,u,g3,u,rfl,E1,st1,f1.rel,g4⟩
     have hrun:(callFunc g vals.toArray).run P w= .ok (.enter g vals.toArray) w:=by unfold callFunc;simp [hf,hb,by simpa using hname]
     unfold vH vG;rw [hrun];exact aEe
end
def Tr.over {α:Type}:Tr α->Tr α->Tr α
 | .nil,b=>b
 | .node v l r,b=> .node (match v with |some x=>some x|none=>b.val) (Tr.over l b.left) (Tr.over r b.right)
def Tr.minus {α:Type}:Tr α->Tr α->Tr α
 | .nil,b=>b
 | .node v l r,b=> .node (match v with |some _=>none|none=>b.val) (Tr.minus l b.left) (Tr.minus r b.right)
theorem Tr.O5 {α:Type}: ∀(a b:Tr α) (k:Nat),(Tr.over a b).get k=match a.get k with |some x=>some x|none=>b.get k
 | .nil,b,k=>by simp [Tr.over,Tr.get]
 | .node v l r,b,k=>by
   simp only [Tr.over];rw [Tr.uH,Tr.uH,Tr.Ef b k];by_cases h0:k=0
   ·simp only [aJe h0]
   ·simp only [aJd h0];by_cases h1:(k-1) % 2=0
    ·simp only [aJe h1]; exact Tr.O5 l b.left _
    ·simp only [aJd h1]; exact Tr.O5 r b.right _
theorem Tr.JB {α:Type}: ∀(a b:Tr α) (k:Nat),(Tr.minus a b).get k=match a.get k with |some _=>none|none=>b.get k
 | .nil,b,k=>by simp [Tr.minus,Tr.get]
 | .node v l r,b,k=>by
   simp only [Tr.minus];rw [Tr.uH,Tr.uH,Tr.Ef b k];by_cases h0:k=0
   ·simp only [aJe h0]
   ·simp only [aJd h0];by_cases h1:(k-1) % 2=0
    ·simp only [aJe h1]; exact Tr.JB l b.left _
    ·simp only [aJd h1]; exact Tr.JB r b.right _
structure Stw (E:En) (H:Hp) (w:World) (E':En) (H':Hp) (w':World):Prop where
 ρ:E'.ρ=E.ρ
 dm: ∀id,E.dm id->E'.dm id
 θ: ∀id,E.dm id->E'.θ id=E.θ id
 κ: ∀id,E.dm id->E'.κ id=E.κ id
 ro: ∀b,E.ro b->E'.ro b
 J7: ∀b,E'.ro b->E.ro b\/(∃id o,H.get id=some o/\(E.θ id).1=b)\/w.heap.size<=b
 os:w'.os=w.os
 tape:w'.tape=w.tape
 output:w'.output=w.output
 size:w.heap.size<=w'.heap.size
 keep: ∀b,b<w.heap.size->(∀id o,H.get id=some o->(E.θ id).1≠b)->w'.heap[b]?=w.heap[b]?
 own: ∀id o,H'.get id=some o->(E'.θ id).1<w.heap.size->∃EI o0,H.get EI=some o0/\(E.θ EI).1=(E'.θ id).1
section
variable {E E' E'':En} {H H' H'':Hp} {w w' w'':World}
theorem Stp.weak (s:Stp E H w E' H' w'):Stw E H w E' H' w':=⟨s.ρ,s.dm,s.θ,s.κ,s.ro,s.J7,s.os,s.tape,s.output,s.size,s.keep,s.own⟩
theorem Stw.strong (s:Stw E H w E' H' w') (h1:H.next<=H'.next) (h2:H'.res=none) (h3: ∀id,E'.dm id->E.dm id\/(H.next<=id/\id<H'.next)):Stp E H w E' H' w':=
 ⟨s.ρ,s.dm,s.θ,s.κ,s.ro,s.J7,h1,.inl h2,fun id h=>(h3 id h).elim .inl fun h=> .inr (.inl h),s.os,s.tape,s.output,s.size,s.keep,s.own⟩
theorem Stw.trans (a:Stw E H w E' H' w') (b:Stw E' H' w' E'' H'' w''):Stw E H w E'' H'' w'' where
 ρ:=b.ρ.trans a.ρ
 dm:=fun id h=>b.dm id (a.dm id h)
 θ:=fun id h=>(b.θ id (a.dm id h)).trans (a.θ id h)
 κ:=fun id h=>(b.κ id (a.dm id h)).trans (a.κ id h)
 ro:=fun x h=>b.ro x (a.ro x h)
 J7:=fun x h=>by
  rcases b.J7 x h with h|⟨id,o,h1,h2⟩|h
  ·exact a.J7 x h
  ·rcases aJx x w.heap.size with hx|hx
   ·obtain⟨EI,o0,h3,h4⟩:=a.own id o h1 (by rw [h2]; exact hx);exact .inr (.inl ⟨EI,o0,h3,h4.trans h2⟩)
   ·exact .inr (.inr hx)
  ·exact .inr (.inr (aJO a.size h))
 os:=b.os.trans a.os
 tape:=b.tape.trans a.tape
 output:=b.output.trans a.output
 size:=aJO a.size b.size
 keep:=fun x hx hn=>by rw [b.keep x (aKb hx a.size) ?_,a.keep x hx hn];intro id o ho he;obtain⟨EI,o0,h0,he0⟩:=a.own id o ho (by rw [he]; exact hx);exact hn EI o0 h0 (he0.trans he)
 own:=fun id o ho hlt=>by obtain⟨id1,o1,h1,he1⟩:=b.own id o ho (aKb hlt a.size);obtain⟨EI,o0,h0,he0⟩:=a.own id1 o1 h1 (by rw [he1]; exact hlt);exact⟨EI,o0,h0,he0.trans he1⟩
theorem Stw.keeps [Glob] (s:Stw E H w E' H' w') (r:bJ E H w):Keeps E w.heap E' w'.heap:=
 ⟨s.ρ,s.dm,s.θ,s.κ,s.ro,fun b hb=>s.keep b (r.CG b hb) fun id o ho he=>(r.live id o ho).2.2 (by rw [he]; exact hb)⟩
theorem bJ.part [Glob] {H1:Hp} (r:bJ E H w) (sub: ∀id o,H1.get id=some o->H.get id=some o) (hn:H.next<=H1.next) (hr: ∀q,H1.res=some q->q<H1.next/\¬E.dm q):bJ E H1 w:=
 ⟨fun id h=>r.fresh id (aJO hn h),hr,fun id o h=>r.live id o (sub id o h),fun i j o o' h h' e=>r.inj i j o o' (sub _ _ h) (sub _ _ h') e,r.CG,r.glob⟩
theorem asH [Glob] {H1 ZG:Hp} (r:bJ E H w) (sub: ∀id o,H1.get id=some o->H.get id=some o) (st:Stp E H1 w E' ZG w') (r':bJ E' ZG w') (n:Nat) (hn: ∀id,n<=id->¬E'.dm id) :
 ∃H':Hp,H'=⟨Tr.over ZG.m (Tr.minus H1.m H.m),n,none⟩/\(∀id o,ZG.get id=some o->H'.get id=some o)/\(∀id o,H.get id=some o->H1.get id=none->H'.get id=some o)/\bJ E' H' w'/\Stw E H w E' H' w':=by
 have hnot: ∀id o,H.get id=some o->H1.get id=none->ZG.get id=none:=by
  intro id o h h1
  cases h2:ZG.get id with
  |none=>rfl
  |some o'=> exfalso;have hd:=(r.live id o h).1;have hθ:=st.θ id hd;obtain⟨EI,o0,g1,g2⟩:=st.own id o' h2 (by rw [hθ]; exact jV r h);have:=r.inj EI id o0 o (sub _ _ g1) h (by rw [g2,hθ]);subst this;rw [h1] at g1;simp at g1
 have hget: ∀id,(⟨Tr.over ZG.m (Tr.minus H1.m H.m),n,none⟩ : Hp).get id=match ZG.get id with |some x=>some x|none=>match H1.get id with |some _=>none|none=>H.get id:=by
  intro id;simp only [Hp.get,Tr.O5,Tr.JB]
  cases ZG.m.get id with
  |some x=>rfl
  |none=>cases H1.m.get id<;>rfl
 have hcase: ∀id o,(⟨Tr.over ZG.m (Tr.minus H1.m H.m),n,none⟩ : Hp).get id=some o->ZG.get id=some o\/(ZG.get id=none/\H1.get id=none/\H.get id=some o):=by
  intro id o h;rw [hget] at h
  cases h1:ZG.get id with
  |some x=>rw [h1] at h; exact .inl h
  |none=>
   rw [h1] at h
   cases h2:H1.get id with
   |some x=>rw [h2] at h; simp at h
   |none=>rw [h2] at h; exact .inr ⟨rfl,rfl,h⟩
 have hkeep: ∀id o,H1.get id=none->H.get id=some o->w'.heap[(E.θ id).1]?=w.heap[(E.θ id).1]?:=by intro id o h1 h;refine st.keep _ (jV r h) fun EI o0 h0 he=>?_;have:=r.inj EI id o0 o (sub _ _ h0) h he;subst this;rw [h1] at h0;simp at h0
 have k:Keeps E w.heap E' w'.heap:=⟨st.ρ,st.dm,st.θ,st.κ,st.ro,fun b hb=>st.keep b (r.CG b hb) fun id o ho he=>(r.live id o (sub _ _ ho)).2.2 (by rw [he]; exact hb)⟩;refine⟨_,rfl,fun id o h=>by rw [hget,h],fun id o h h1=>by rw [hget,hnot id o h h1,h1]; exact h,⟨hn,by simp,?_,?_,r'.CG,r'.glob⟩,⟨st.ρ,st.dm,st.θ,st.κ,st.ro,fun b hb=>(st.J7 b hb).imp id (Or.imp (fun⟨i,o,h1,h2⟩=> ⟨i,o,sub _ _ h1,h2⟩) id),st.os,st.tape,st.output,st.size,?_,?_⟩⟩
 ·intro id o h;rcases hcase id o h with h1|⟨h1,h2,h3⟩
  ·exact r'.live id o h1
  ·obtain⟨g1,g2,g3⟩:=r.live id o h3;refine⟨st.dm id g1,g2.keep k g1 (hkeep id o h2 h3),?_⟩;rw [st.θ id g1];intro hr;rcases st.J7 _ hr with hr|⟨EI,o0,f1,f2⟩|hr
   ·exact g3 hr
   ·have:=r.inj EI id o0 o (sub _ _ f1) h3 f2;subst this;rw [h2] at f1;simp at f1
   ·have:=jV r h3;omega
 ·intro i j o o' h h' he;rcases hcase i o h with h1|⟨h1,h2,h3⟩ <;>rcases hcase j o' h' with g1|⟨g1,g2,g3⟩
  ·exact r'.inj i j o o' h1 g1 he
  ·exfalso;rw [st.θ j (r.live j o' g3).1] at he;obtain⟨EI,o0,f1,f2⟩:=st.own i o h1 (by rw [he]; exact jV r g3);have:=r.inj EI j o0 o' (sub _ _ f1) g3 (f2.trans he);subst this;rw [g2] at f1;simp at f1
  ·exfalso;rw [st.θ i (r.live i o h3).1] at he;obtain⟨EI,o0,f1,f2⟩:=st.own j o' g1 (by rw [<- he]; exact jV r h3);have:=r.inj EI i o0 o (sub _ _ f1) h3 (f2.trans he.symm);subst this;rw [h2] at f1;simp at f1
  ·rw [st.θ i (r.live i o h3).1,st.θ j (r.live j o' g3).1] at he;exact r.inj i j o o' h3 g3 he
 ·intro b hb hno;exact st.keep b hb fun id o h=>hno id o (sub _ _ h)
 ·intro id o h hlt;rcases hcase id o h with h1|⟨h1,h2,h3⟩
  ·obtain⟨EI,o0,f1,f2⟩:=st.own id o h1 hlt;exact⟨EI,o0,sub _ _ f1,f2⟩
  ·exact⟨id,o,h3,by rw [st.θ id (r.live id o h3).1]⟩
theorem frame [Glob] {H1 ZG:Hp} (r:bJ E H w) (sub: ∀id o,H1.get id=some o->H.get id=some o) (st:Stp E H1 w E' ZG w') (r':bJ E' ZG w') (n:Nat) (hn: ∀id,n<=id->¬E'.dm id) :
 ∃H':Hp,H'.next=n/\H'.res=none/\(∀id o,ZG.get id=some o->H'.get id=some o)/\(∀id o,H.get id=some o->H1.get id=none->H'.get id=some o)/\bJ E' H' w'/\Stw E H w E' H' w':=by
 obtain⟨H',h0,h1,h2,h3,h4⟩:=asH r sub st r' n hn;exact⟨H',by rw [h0],by rw [h0],h1,h2,h3,h4⟩
end
section
variable {P:Program}
def BF [Glob] (P:Program) (ρ:Nat->Int) (ops:Array Oper) (o:Oper) (S:Tr AV) (H:Hp) (v:AV) (H':Hp):Prop:=
 ∀(E:En) (a:Act) (w:World),E.ρ=ρ->bJ E H w->SR E w.heap S a->
  (Region.wanted o (yielded ops a.tmps)=false/\v=AV.undef/\H'=H)\/
  (Region.wanted o (yielded ops a.tmps)=true/\yJ P o a w (fun u w'=> ∃E',Stp E H w E' H' w'/\bJ E' H' w'/\VR E' w'.heap v u))
theorem BF.wpOp [Glob] {ρ:Nat->Int} {ops:Array Oper} {o:Oper} {S:Tr AV} {H H':Hp} {v:AV} (h:BF P ρ ops o S H v H') {E:En} {a:Act} {w:World} (hρ:E.ρ=ρ) (r:bJ E H w) (sr:SR E w.heap S a)
 {i:Nat} (ho:ops[i]?=some o) {K:Act->World->Prop} {Q:Exit->Act->World->Prop}
 (hk: ∀(u:Value) (E':En) (w':World),Stp E H w E' H' w'->bJ E' H' w'->VR E' w'.heap v u->K (a.put o.dst u) w'):wpOp P ops Q i K a w:=by
 unfold Go.wpOp;simp only [ho];rcases h E a w hρ r sr with ⟨h1,rfl,rfl⟩|⟨h1,h2⟩
 ·rw [h1];simp only [aJw,if_false];exact hk undef E w (Stp.refl _ _ _) r tK
 ·rw [h1];simp only [if_true];exact .inl (h2 _ _ fun u w' ⟨E',q1,q2,q3⟩=>hk u E' w' q1 q2 q3)
inductive Kind where
 |pa
 |e
 |r
 deriving DecidableEq
structure Plan [Glob] (P:Program) (ρ:Nat->Int) (ops:Array Oper) (wG:Tr AV) (H0:Hp) where
 base:Nat
 bf:Nat->Nat->Bool
 kd:Nat->Kind
 S:Nat->Tr AV
 val:Nat->AV
 st:Nat->Nat
 nE:Nat
 hp:Nat->Hp
 un:Nat->Nat->Bool
 blk:Nat->Option dW
 gen: ∀i j,bf i j=true->∃(o:Oper) (e:Edge),ops[j]?=some o/\e∈o.after/\Region.binds .any e=true/\(e.on=i\/bf i e.on=true)
 back: ∀(j:Nat) (o:Oper),ops[j]?=some o->∀e∈o.after,Region.binds .any e=true->e.on<j
 dst: ∀(i j:Nat) (oi oj:Oper) (d:Nat),ops[i]?=some oi->ops[j]?=some oj->oi.dst=some d->oj.dst=some d->i=j
 slots: ∀(i:Nat) (o:Oper),ops[i]?=some o->∀t x,(S i).get t=some x->(∃(j:Nat) (oj:Oper),bf j i=true/\ops[j]?=some oj/\oj.dst=some t/\val j=x)\/(wG.get t=some x/\∀(j:Nat) (oj:Oper),ops[j]?=some oj->oj.dst=some t->bf i j=true)
 stl: ∀(j:Nat) (o:Oper),ops[j]?=some o->kd j= .e->st j<nE
 inj: ∀i j,kd i= .e->kd j= .e->st i=st j->i=j
 aFY: ∀(j:Nat) (o:Oper),ops[j]?=some o->kd j= .e->∀m,m<st j->∃i,kd i= .e/\st i=m/\bf i j=true
 pa: ∀(i:Nat) (o:Oper),ops[i]?=some o->kd i= .pa->∃HA N,BF P ρ ops o (S i) ⟨.nil,N,some (base+i)⟩ (val i) HA/\HA.next=N/\blk i=HA.get (base+i)/\∀k,k<=nE->(hp k).next<=N
 ev: ∀(j:Nat) (o:Oper),ops[j]?=some o->kd j= .e->∃XB,BF P ρ ops o (S j) XB (val j) (hp (st j+1))/\XB.next=(hp (st j)).next/\XB.res=none/\
  (∀id x,XB.get id=some x->(hp (st j)).get id=some x\/∃a,bf a j=true/\un (st j) a=true/\id=base+a/\blk a=some x)/\
  (∀a,un (st j+1) a=true->un (st j) a=true/\bf a j=false)
 rd: ∀(i:Nat) (o:Oper),ops[i]?=some o->kd i= .r->∀k,k<=nE->(∀j,kd j= .e->bf j i=true->st j<k)->(∀(j:Nat) (oj:Oper),ops[j]?=some oj->kd j= .e->bf i j=true->k<=st j)->
  ∃XB,BF P ρ ops o (S i) XB (val i) XB/\XB.next=(hp k).next/\XB.res=none/\
   (∀id x,XB.get id=some x->(hp k).get id=some x\/∃a,bf a i=true/\un k a=true/\id=base+a/\blk a=some x)
 unm: ∀k a x,k<=nE->blk a=some x->un k a=true->(hp k).get (base+a)=none
 nob: ∀i,kd i≠.pa->blk i=none
 first:base=H0.next/\base+ops.size<=(hp 0).next/\∀id x,(hp 0).get id=some x->H0.get id=some x
section
variable {gl:Glob} {ρ:Nat->Int} {ops:Array Oper} {wG:Tr AV} {H0:Hp} (p:Plan P ρ ops wG H0)
structure Plan.Inv (E0:En) (a0:Act) (w0:World) (L:Nat->Prop) (a:Act) (w:World):Prop where
 defers:a.defers=a0.defers
 size:a.tmps.size=a0.tmps.size
 closed: ∀i j,p.bf i j=true->L j->L i
 ex: ∃(E:En) (Hc:Hp) (k:Nat),k<=p.nE/\(∀(j:Nat) (o:Oper),ops[j]?=some o->p.kd j= .e->(L j↔p.st j<k))/\E.ρ=ρ/\Stw E0 H0 w0 E Hc w/\bJ E Hc w/\Hc.next=(p.hp k).next/\Hc.res=none/\
  p.base+ops.size<=Hc.next/\(∀id,E.dm id->E0.dm id\/H0.next<=id)/\(∀(i:Nat) (o:Oper),ops[i]?=some o->¬L i->¬E.dm (p.base+i))/\
  (∀id x,(p.hp k).get id=some x->Hc.get id=some x)/\(∀b x,L b->p.un k b=true->p.blk b=some x->Hc.get (p.base+b)=some x)/\
  (∀t x,wG.get t=some x->(∀(j:Nat) (oj:Oper),ops[j]?=some oj->oj.dst=some t->¬L j)->∃u,a.tmps[t]?=some u/\VR E w.heap x u)/\
  (∀(j:Nat) (oj:Oper) (t:Nat),L j->ops[j]?=some oj->oj.dst=some t->∃u,a.tmps[t]?=some u/\VR E w.heap (p.val j) u)
theorem Oe {a:Act} {d:Option Nat} {u:Value} {t:Nat} (h:d≠some t):(a.put d u).tmps[t]?=a.tmps[t]?:=by
 cases d with
 |none=>rfl
 |some x=> simp only [Act.put];rw [aKd];intro e;exact h (by rw [e])
theorem azL {a:Act} {u:Value} {t:Nat} (h:t<a.tmps.size):(a.put (some t) u).tmps[t]?=some u:=by simp [Act.put,h]
theorem Plan.aHT: ∀(j i:Nat),p.bf i j=true->i<j/\j<ops.size:=by
 intro j
 induction j using Nat.strongRecOn with
 |_ j ih=>
  intro i h;obtain⟨o,e,g1,g2,g3,g4⟩:=p.gen i j h;have hlt:=p.back j o g1 e g2 g3;have hj:=(aJK.1 g1).1;rcases g4 with rfl|g4
  ·exact⟨hlt,hj⟩
  ·have:=ih e.on hlt i g4;exact⟨by omega,hj⟩
theorem Plan.aDb {i j:Nat} (h:p.bf i j=true): ∃o:Oper,ops[i]?=some o:=by have:=p.aHT j i h;exact⟨ops[i]'(by omega),by simp⟩
theorem Plan.step {E0:En} {a0:Act} {w0:World} {L:Nat->Prop} {a:Act} {w:World} (hd: ∀o∈ops.toList,∀d,o.dst=some d->d<a0.tmps.size) (inv:p.Inv E0 a0 w0 L a w) {i:Nat} {o:Oper} (ho:ops[i]?=some o) (hL: ¬L i)
 (hr: ∀e∈o.after,Region.binds .any e=true->L e.on) {K:Act->World->Prop} {Q:Exit->Act->World->Prop} (hk: ∀a' w',p.Inv E0 a0 w0 (fun j=>j=i\/L j) a' w'->K a' w'):wpOp P ops Q i K a w:=by
 obtain⟨h1,h2,hcl,E,Hc,k,hkn,hst,hρ,ZL,rel,hnx,hres,hroom,hdm,hun,hhp,hbl,hs0,hs1⟩:=inv
 have hbf: ∀j,p.bf j i=true->L j:=by
  intro j hj;obtain⟨o',e,g1,g2,g3,g4⟩:=p.gen j i hj;rw [ho] at g1;simp at g1;subst g1;have:=hr e g2 g3;rcases g4 with rfl|g4
  ·exact this
  ·exact hcl j e.on g4 this
 have hii:p.bf i i≠true:=fun h=>hL (hbf i h);have hin:i<ops.size:=(aJK.1 ho).1
 have sr:SR E w.heap (p.S i) a:=by
  intro t x ht;rcases p.slots i o ho t x ht with ⟨j,oj,g1,g2,g3,g4⟩|⟨g1,g2⟩
  ·subst g4;exact hs1 j oj t (hbf j g1) g2 g3
  ·exact hs0 t x g1 fun j oj hj hjt hLj=>hL (hcl i j (g2 j oj hj hjt) hLj)
 have hcl': ∀x j,p.bf x j=true->(j=i\/L j)->(x=i\/L x):=by
  intro x j hx hj;rcases hj with rfl|hj
  ·exact .inr (hbf x hx)
  ·exact .inr (hcl x j hx hj)
 have fin: ∀(u:Value) (E':En) (ZV:Hp) (w':World) (k':Nat),Stw E Hc w E' ZV w'->bJ E' ZV w'->VR E' w'.heap (p.val i) u->k'<=p.nE->(∀(j:Nat) (o:Oper),ops[j]?=some o->p.kd j= .e->((j=i\/L j)↔p.st j<k'))->
  ZV.next=(p.hp k').next->ZV.res=none->Hc.next<=ZV.next->(∀id,E'.dm id->E.dm id\/Hc.next<=id\/id=p.base+i)->(∀id x,(p.hp k').get id=some x->ZV.get id=some x)->
  (∀b x,(b=i\/L b)->p.un k' b=true->p.blk b=some x->ZV.get (p.base+b)=some x)->K (a.put o.dst u) w':=by
  intro u E' ZV w' k' q1 q2 q3 q4 q5 q6 q7 q8 q9 q10 q11;have kp:=q1.keeps rel;refine hk _ _ ⟨by rw [As.put_defers]; exact h1,by rw [Oc]; exact h2,hcl',E',ZV,k',q4,q5,q1.ρ.trans hρ,ZL.trans q1,q2,q6,q7,aJO hroom q8,?_,?_,q10,q11,?_,?_⟩
  ·intro id h;rcases q9 id h with h|h|h
   ·exact hdm id h
   ·right;have:=p.first.1;omega
   ·right;have:=p.first.1;omega
  ·intro j oj hj hn hdj;have hj2:=(aJK.1 hj).1;rcases q9 _ hdj with h|h|h
   ·exact hun j oj hj (fun h'=>hn (.inr h')) h
   ·omega
   ·exact hn (.inl (by omega))
  ·intro t x ht hno;obtain⟨y,g1,g2⟩:=hs0 t x ht fun j oj hj hjt h'=>hno j oj hj hjt (.inr h');exact⟨y,by rw [Oe (fun e=>hno i o ho e (.inl rfl))]; exact g1,VR.keep kp _ _ g2⟩
  ·intro j oj t hj hoj ht;by_cases hji:j=i
   ·subst hji;rw [ho] at hoj;simp at hoj;subst hoj;rw [ht];exact⟨u,azL (by rw [h2]; exact hd o (Array.mem_toList_iff.2 (aLg ho)) t ht),q3⟩
   ·obtain⟨y,g1,g2⟩:=hs1 j oj t (hj.resolve_left hji) hoj ht;refine⟨y,?_,VR.keep kp _ _ g2⟩;rw [Oe]
    ·exact g1
    ·intro h;exact hji (p.dst j i oj o t hoj ho ht h)
 cases hkd:p.kd i with
 |pa=>
  obtain⟨HA,N,g1,g2,g3,g4⟩:=p.pa i o ho hkd;have hN:=g4 k hkn;have aIn:=hun i o ho hL
  have r1:bJ E ⟨.nil,N,some (p.base+i)⟩ w:=rel.part (by intro id x h; simp [Hp.get,Tr.get] at h) (by show Hc.next<=N; omega) (by
   intro q hq;simp at hq;subst hq
   exact⟨by show p.base+i<N; omega,aIn⟩)
  refine g1.wpOp hρ r1 sr ho fun u E' w' st r' hv=>?_
  have hdn: ∀id,E'.dm id->E.dm id\/id=p.base+i:=by
   intro id h;rcases st.dmn id h with h|h|h
   ·exact .inl h
   ·have h':N<=id/\id<HA.next:=h;omega
   ·have h':some (p.base+i)=some id:=h;simp at h';exact .inr h'.symm
  obtain⟨ZV,f1,f2,f3,f4,f5,f6⟩:=frame rel (by intro id x h; simp [Hp.get,Tr.get] at h) st r' Hc.next (fun id hid h=>by
   rcases hdn id h with h|h
   ·exact rel.fresh id hid h
   ·omega)
  refine fin u E' ZV w' k f6 f5 hv hkn ?_ (by rw [f1,hnx]) f2 (by omega) (fun id h=>(hdn id h).elim .inl fun h=> .inr (.inr h)) ?_ ?_
  ·intro j oj hoj hj;rw [<- hst j oj hoj hj];constructor
   ·intro h;rcases h with rfl|h
    ·rw [hkd] at hj; simp at hj
    ·exact h
   ·exact .inr
  ·intro id x h;exact f4 id x (hhp id x h) (by simp [Hp.get,Tr.get])
  ·intro b x hb hu hx;by_cases hbi:b=i
   ·subst hbi;rw [hx] at g3;exact f3 _ _ g3.symm
   ·exact f4 _ x (hbl b x (hb.resolve_left hbi) hu hx) (by simp [Hp.get,Tr.get])
 |e=>
  obtain⟨XB,g1,g2,g3,g4,g5⟩:=p.ev i o ho hkd
  have hge:k<=p.st i:=by
   rcases aJx (p.st i) k with h|h
   ·exact absurd ((hst i o ho hkd).2 h) hL
   ·exact h
  have hsk:p.st i=k:=by
   rcases aJx k (p.st i) with h|h
   ·obtain⟨j,e1,e2,e3⟩:=p.aFY i o ho hkd k h;have hj:=hbf j e3;obtain⟨oj,hoj⟩:=p.aDb e3;have:=(hst j oj hoj e1).1 hj;omega
   ·omega
  rw [hsk] at g1 g2 g4 g5;have hkE:=p.stl i o ho hkd
  have hsub: ∀id x,XB.get id=some x->Hc.get id=some x:=by
   intro id x h;rcases g4 id x h with h|⟨b,e1,e2,rfl,e4⟩
   ·exact hhp id x h
   ·exact hbl b x (hbf b e1) e2 e4
  have r1:bJ E XB w:=rel.part hsub (by omega) (by rw [g3]; simp);refine g1.wpOp hρ r1 sr ho fun u E' w' st r' hv=>?_
  have hdn: ∀id,E'.dm id->E.dm id\/Hc.next<=id:=by
   intro id h;rcases st.dmn id h with h|h|h
   ·exact .inl h
   ·right; omega
   ·rw [g3] at h; simp at h
  obtain⟨ZV,f1,f2,f3,f4,f5,f6⟩:=frame rel hsub st r' (p.hp (k+1)).next (fun id hid h=>r'.fresh id hid h)
  have hmono:=st.nxm;refine fin u E' ZV w' (k+1) f6 f5 hv (by omega) ?_ f1 f2 (by omega) (fun id h=>(hdn id h).elim .inl fun h=> .inr (.inl h)) f3 ?_
  ·intro j oj hoj hj;constructor
   ·intro h;rcases h with rfl|h
    ·omega
    ·have:=(hst j oj hoj hj).1 h;omega
   ·intro h;rcases aJx (p.st j) k with h'|h'
    ·exact .inr ((hst j oj hoj hj).2 h')
    ·exact .inl (p.inj j i hj hkd (by omega))
  ·intro b x hb hu hx;obtain⟨e1,e2⟩:=g5 b hu;by_cases hbi:b=i
   ·subst hbi;rw [p.nob b (by rw [hkd]; simp)] at hx;simp at hx
   ·refine f4 _ x (hbl b x (hb.resolve_left hbi) e1 hx) ?_
    cases hy:XB.get (p.base+b) with
    |none=>rfl
    |some y=>
     exfalso;rcases g4 _ y hy with h|⟨c,c1,c2,c3,c4⟩
     ·rw [p.unm k b x hkn hx e1] at h;simp at h
     ·have:c=b:=by omega
      subst this;rw [e2] at c1;simp at c1
 |r=>
  have hk1: ∀j,p.kd j= .e->p.bf j i=true->p.st j<k:=by intro j hj hb;obtain⟨oj,hoj⟩:=p.aDb hb;exact (hst j oj hoj hj).1 (hbf j hb)
  have hk2: ∀(j:Nat) (oj:Oper),ops[j]?=some oj->p.kd j= .e->p.bf i j=true->k<=p.st j:=by
   intro j oj hoj hj hb;rcases aJx (p.st j) k with h|h
   ·exact absurd (hcl i j hb ((hst j oj hoj hj).2 h)) hL
   ·exact h
  obtain⟨XB,g1,g2,g3,g4⟩:=p.rd i o ho hkd k hkn hk1 hk2
  have hsub: ∀id x,XB.get id=some x->Hc.get id=some x:=by
   intro id x h;rcases g4 id x h with h|⟨b,e1,e2,rfl,e4⟩
   ·exact hhp id x h
   ·exact hbl b x (hbf b e1) e2 e4
  have r1:bJ E XB w:=rel.part hsub (by omega) (by rw [g3]; simp);refine g1.wpOp hρ r1 sr ho fun u E' w' st r' hv=>?_
  have hdn: ∀id,E'.dm id->E.dm id:=by
   intro id h;rcases st.dmn id h with h|h|h
   ·exact h
   ·omega
   ·rw [g3] at h; simp at h
  obtain⟨ZV,f1,f2,f3,f4,f5,f6⟩:=frame rel hsub st r' Hc.next (fun id hid h=>rel.fresh id hid (hdn id h))
  have hall: ∀id x,Hc.get id=some x->ZV.get id=some x:=by
   intro id x h
   cases h':XB.get id with
   |none=>exact f4 id x h h'
   |some y=> have:=hsub id y h';rw [h] at this;simp at this;subst this;exact f3 id x h'
  refine fin u E' ZV w' k f6 f5 hv hkn ?_ (by rw [f1,hnx]) f2 (by omega) (fun id h=> .inl (hdn id h)) (fun id x h=>hall id x (hhp id x h)) ?_
  ·intro j oj hoj hj;rw [<- hst j oj hoj hj];constructor
   ·intro h;rcases h with rfl|h
    ·rw [hkd] at hj; simp at hj
    ·exact h
   ·exact .inr
  ·intro b x hb hu hx;by_cases hbi:b=i
   ·subst hbi;rw [p.nob b (by rw [hkd]; simp)] at hx;simp at hx
   ·exact hall _ x (hbl b x (hb.resolve_left hbi) hu hx)
def left (l:Nat->Bool):Nat->Nat
 |0=>0
 |n+1=>left l n+(if l n then 0 else 1)
theorem left_le {l l':Nat->Bool} (h: ∀j,l j=true->l' j=true): ∀n,left l' n<=left l n
 |0=>aJi _
 |n+1=>by
  have:=left_le h n;simp only [left]
  cases h1:l n with
  |true=>simp [h n h1]; exact this
  |false=>cases l' n<;>simp<;>omega
theorem agP {l l':Nat->Bool} (h: ∀j,l j=true->l' j=true) {i:Nat} (h1:l i=false) (h2:l' i=true): ∀n,i<n->left l' n<left l n
 |0,hi=>by omega
 |n+1,hi=>by
  have hle:=left_le h n;simp only [left];by_cases hin:i=n
  ·subst hin;simp [h1,h2];omega
  ·have:=agP h h1 h2 n (by omega)
   cases h3:l n with
   |true=>simp [h n h3]; exact this
   |false=>cases l' n<;>simp<;>omega
theorem Ju {l:Nat->Bool}: ∀n,left l n=0->∀i,i<n->l i=true
 |0,_,i,hi=>by omega
 |n+1,h,i,hi=>by
  simp only [left] at h;by_cases hin:i=n
  ·subst hin
   cases h3:l i with
   |true=>rfl
   |false=>rw [h3] at h; simp at h
  ·exact Ju n (by omega) i (by omega)
theorem Plan.ready_nil (q:Plan P ρ ops wG H0) {listed:Array Bool} (hsz:listed.size=ops.size) (h:Region.ready .any ops listed= []): ∀i,i<ops.size->listed[i]?=some true:=by
 intro i
 induction i using Nat.strongRecOn with
 |_ i ih=>
  intro hi
  cases hl:listed[i]? with
  |none=>rw [aLW] at hl; omega
  |some b=>
   cases b with
   |true=>rfl
   |false=>
    exfalso;have ho:ops[i]?=some ops[i]:=by simp [hi]
    have:i∈Region.ready .any ops listed:=by rw [mem_ready];refine⟨by simp [hl],ops[i],ho,fun e he hb=>?_⟩;have hlt:=q.back i _ ho e he hb;simp [ih e.on hlt (by omega)]
    rw [h] at this;simp at this
theorem Plan.any {E0:En} {a0:Act} {w0:World} (hd: ∀o∈ops.toList,∀d,o.dst=some d->d<a0.tmps.size) {Q:Exit->Act->World->Prop} (hq: ∀a w,p.Inv E0 a0 w0 (fun i=>i<ops.size) a w->Q .normal a w) :
 ∀(fuel:Nat) (listed:Array Bool) (a:Act) (w:World),listed.size=ops.size->left (fun i=>listed.getD i true) ops.size<=fuel->p.Inv E0 a0 w0 (fun i=>listed[i]?=some true) a w->wpAny P .any ops Q fuel listed a w:=by
 have hend: ∀(listed:Array Bool) (a:Act) (w:World),listed.size=ops.size->p.Inv E0 a0 w0 (fun i=>listed[i]?=some true) a w->Region.ready .any ops listed= []->Q .normal a w:=by
  intro listed a w hsz inv hnil;have hall:=p.ready_nil hsz hnil;refine hq a w ?_
  have:(fun i=>listed[i]?=some true)=(fun i=>i<ops.size):=by
   funext i;apply propext;constructor
   ·intro h;have:=(aJK.1 h).1;omega
   ·exact hall i
  rw [<- this];exact inv
 intro fuel
 induction fuel with
 |zero=>
  intro listed a w hsz hleft inv;have hall:=Ju (l:=fun i=>listed.getD i true) ops.size (by omega)
  have hnil:Region.ready .any ops listed= []:=by rw [aLh];intro i hi;rw [mem_ready] at hi;obtain⟨h1,o,h2,_⟩:=hi;have:=hall i (aJK.1 h2).1;rw [h1] at this;simp at this
  exact⟨hnil,hend listed a w hsz inv hnil⟩
 |succ fuel ih=>
  intro listed a w hsz hleft inv;refine⟨hend listed a w hsz inv,fun i hi=>?_⟩;rw [mem_ready] at hi;obtain⟨h1,o,h2,h3⟩:=hi;have hin:=(aJK.1 h2).1
  have hlf:listed[i]?=some false:=by
   have:listed[i]?=some (listed[i]'(by omega)):=by simp
   rw [this];simp only [aJY,this,aJl] at h1;rw [h1]
  refine p.step hd inv h2 (by rw [hlf]; simp) (fun e he hb=>?_) fun a' w' aIi=>?_
  ·have:=h3 e he hb
   cases hc:listed[e.on]? with
   |none=>simp [hc] at this
   |some b=>simp [hc] at this; rw [this]
  ·refine ih _ a' w' (by simpa using hsz) ?_ ?_
   ·have:=agP (l:=fun j=>listed.getD j true) (l':=fun j=>(listed.setIfInBounds i true).getD j true) (i:=i) (fun j hj=>?_) h1 ?_ ops.size hin
    ·omega
    ·by_cases hij:i=j
     ·subst hij;simp only [aJY,aLi];split<;>rfl
     ·rw [getD_set_ne true hij]; exact hj
    ·simp only [aJY,aLi];split<;>rfl
   ·have:(fun j=>(listed.setIfInBounds i true)[j]?=some true)=(fun j=>j=i\/listed[j]?=some true):=by
     funext j;apply propext;by_cases hij:i=j
     ·subst hij;simp [hsz,hin]
     ·rw [aKd hij];constructor
      ·exact .inr
      ·rintro (rfl|h)
       ·exact absurd rfl hij
       ·exact h
    rw [this];exact aIi
theorem Plan.start {E0:En} {s0:St} {a0:Act} {w0:World} (hs:s0.slots=wG) (hh:s0.h=H0) (hρ:E0.ρ=ρ) (fit:Fit E0 s0 a0 w0) (listed:Array Bool) (hl: ∀(i:Nat),listed[i]?≠some true):p.Inv E0 a0 w0 (fun i=>listed[i]?=some true) a0 w0:=by
 subst hs hh;obtain⟨h1,h2,h3⟩:=p.first;have rel:=fit.rel;have r1:bJ E0 ⟨s0.h.m,(p.hp 0).next,none⟩ w0:=rel.part (fun id x h=>h) (by show s0.h.next<=(p.hp 0).next; omega) (by simp);refine⟨rfl,rfl,fun i j _ h=>absurd h (hl j),E0,⟨s0.h.m,(p.hp 0).next,none⟩,0,aKl _,fun j o _ _=> ⟨fun h=>absurd h (hl j),fun h=>by omega⟩,hρ,?_,r1,rfl,rfl,h2,fun id h=> .inl h,?_,fun id x h=>h3 id x h,fun b x h=>absurd h (hl b),?_,fun j oj t h=>absurd h (hl j)⟩
 ·have:=(Stp.refl E0 s0.h w0).weak;exact⟨this.ρ,this.dm,this.θ,this.κ,this.ro,this.J7,this.os,this.tape,this.output,this.size,this.keep,this.own⟩
 ·intro i o _ _ hdm;exact rel.fresh _ (by omega) hdm
 ·intro t x ht _;exact fit.sr t x ht
theorem Plan.finish {E0:En} {s0 s':St} {a0 a:Act} {w0 w:World} (hh:s0.h=H0) (inv:p.Inv E0 a0 w0 (fun i=>i<ops.size) a w) (hpc:bM ρ s'.pc)
 (aEc: ∀t x,s'.slots.get t=some x->(∃(j:Nat) (oj:Oper),ops[j]?=some oj/\oj.dst=some t/\p.val j=x)\/(wG.get t=some x/\∀(j:Nat) (oj:Oper),ops[j]?=some oj->oj.dst≠some t))
 (hheap: ∀id x,s'.h.get id=some x->(p.hp p.nE).get id=some x\/∃b,b<ops.size/\p.un p.nE b=true/\id=p.base+b/\p.blk b=some x)
 (hnext:(p.hp p.nE).next=s'.h.next) (hres:s'.h.res=none) (hall: ∀(m:Nat),m<p.nE->∃(j:Nat) (o:Oper),ops[j]?=some o/\p.kd j= .e/\p.st j=m):Then E0 s0 a0 w0 s' a w:=by
 subst hh;obtain⟨h1,h2,hcl,E,Hc,k,hkn,hst,hρ,ZL,rel,hnx,hrs,hroom,hdm,hun,hhp,hbl,hs0,hs1⟩:=inv
 have hk:k=p.nE:=by
  rcases aJx k p.nE with h|h
  ·obtain⟨j,o,g1,g2,g3⟩:=hall k h;have:=(hst j o g1 g2).1 (aJK.1 g1).1;omega
  ·omega
 subst hk
 have hsub: ∀id x,s'.h.get id=some x->Hc.get id=some x:=by
  intro id x h;rcases hheap id x h with h|⟨b,e1,e2,rfl,e4⟩
  ·exact hhp id x h
  ·exact hbl b x e1 e2 e4
 have hf:=p.first.1;refine⟨h1,h2,E,?_,rel.part hsub (by omega) (by rw [hres]; simp),?_,by rw [hρ]; exact hpc⟩
 ·refine Stw.strong ⟨ZL.ρ,ZL.dm,ZL.θ,ZL.κ,ZL.ro,ZL.J7,ZL.os,ZL.tape,ZL.output,ZL.size,ZL.keep,fun id o h=>ZL.own id o (hsub id o h)⟩ (by omega) hres fun id h=>?_;rcases hdm id h with g|g
  ·exact .inl g
  ·right;refine⟨g,?_⟩;rcases aJx id s'.h.next with g'|g'
   ·exact g'
   ·exact absurd h (rel.fresh id (by omega))
 ·intro t x ht;rcases aEc t x ht with ⟨j,oj,g1,g2,rfl⟩|⟨g1,g2⟩
  ·exact hs1 j oj t (aJK.1 g1).1 g1 g2
  ·exact hs0 t x g1 fun j oj hj hjt _=>g2 j oj hj hjt
end
end
end Go.As
end
section
namespace Go.As
noncomputable section
mutual
def fC:AV->AV->Bool
 | .bool a,.bool b=>uV a b
 | .int k a,.int l b=>decide (k=l)&&gZ a b
 | .str a,.str b=>decide (a=b)
 | .ptr i o,.ptr j p=>decide (i=j)&&decide (o=p)
 | .lD,.lD=>true
 | .sG a,.sG b=>lC a b
 | .slice i o l c,.slice j p m d=>decide (i=j)&&decide (o=p)&&decide (l=m)&&decide (c=d)
 | .aA,.aA=>true
 | .ro a n f,.ro b m g=>lC a b&&decide (n=m)&&decide (f=g)
 | .map i,.map j=>decide (i=j)
 | .qI,.qI=>true
 | .func f a b,.func g c d=>decide (f=g)&&lC a c&&lC b d
 | .CW,.CW=>true
 | .iface t v,.iface u x=>decide (t=u)&&fC v x
 | .FM,.FM=>true
 | .agg a,.agg b=>lC a b
 | .tuple a,.tuple b=>lC a b
 | .opq i,.opq j=>decide (i=j)
 | .inp i a,.inp j b=>decide (i=j)&&decide (a=b)
 | .emp,.emp=>true
 | .dat a t,.dat b u=>gZ a b&&Nat.beq t u
 | .nJ a,.nJ b=>gZ a b
 | .vZ i n t,.vZ j m u=>Nat.beq i j&&gZ n m&&Nat.beq t u
 | .qZ i a x o,.qZ j b y p=>Nat.beq i j&&Nat.beq a b&&gZ x y&&Nat.beq o p
 | .BL i l n t,.BL j k m u=>Nat.beq i j&&gZ l k&&gZ n m&&Nat.beq t u
 | .any,.any=>true
 | .IW a t,.IW b u=>gZ a b&&Nat.beq t u
 |_,_=>false
def lC:List AV->List AV->Bool
 |[],[]=>true
 |x::xs,y::ys=>fC x y&&lC xs ys
 |_,_=>false
end
mutual
theorem oN: ∀(x y:AV),fC x y=true->x=y
 | .bool a,y,h=>by cases y<;>simp [fC] at h<;>rw [yS _ _ h]
 | .int k a,y,h=>by cases y<;>simp [fC] at h<;>rw [h.1,bZ _ _ h.2]
 | .str a,y,h=>by cases y<;>simp [fC] at h<;>simp [h]
 | .ptr i o,y,h=>by cases y<;>simp [fC] at h<;>simp [h]
 | .lD,y,h=>by cases y<;>simp [fC] at h<;>rfl
 | .sG a,y,h=>by cases y<;>simp [fC] at h; rw [iH _ _ h]
 | .slice i o l c,y,h=>by cases y<;>simp [fC] at h<;>simp [h]
 | .aA,y,h=>by cases y<;>simp [fC] at h<;>rfl
 | .ro a n f,y,h=>by cases y<;>simp [fC] at h; rw [iH _ _ h.1.1,h.1.2,h.2]
 | .map i,y,h=>by cases y<;>simp [fC] at h<;>simp [h]
 | .qI,y,h=>by cases y<;>simp [fC] at h<;>rfl
 | .func f a b,y,h=>by cases y<;>simp [fC] at h; rw [h.1.1,iH _ _ h.1.2,iH _ _ h.2]
 | .CW,y,h=>by cases y<;>simp [fC] at h<;>rfl
 | .iface t v,y,h=>by cases y<;>simp [fC] at h; rw [h.1,oN _ _ h.2]
 | .FM,y,h=>by cases y<;>simp [fC] at h<;>rfl
 | .agg a,y,h=>by cases y<;>simp [fC] at h; rw [iH _ _ h]
 | .tuple a,y,h=>by cases y<;>simp [fC] at h; rw [iH _ _ h]
 | .opq i,y,h=>by cases y<;>simp [fC] at h<;>simp [h]
 | .inp i a,y,h=>by cases y<;>simp [fC] at h<;>simp [h]
 | .emp,y,h=>by cases y<;>simp [fC] at h<;>rfl
 | .dat a t,y,h=>by cases y<;>simp [fC] at h<;>rw [h.2,bZ _ _ h.1]
 | .nJ a,y,h=>by cases y<;>simp [fC] at h<;>rw [bZ _ _ h]
 | .vZ i n t,y,h=>by cases y<;>simp [fC] at h<;>rw [h.1.1,bZ _ _ h.1.2,h.2]
 | .qZ i a x o,y,h=>by cases y<;>simp [fC] at h<;>rw [h.1.1.1,h.1.1.2,bZ _ _ h.1.2,h.2]
 | .BL i l n t,y,h=>by cases y<;>simp [fC] at h<;>rw [h.1.1.1,bZ _ _ h.1.1.2,bZ _ _ h.1.2,h.2]
 | .any,y,h=>by cases y<;>simp [fC] at h<;>rfl
 | .IW a t,y,h=>by cases y<;>simp [fC] at h<;>rw [h.2,bZ _ _ h.1]
theorem iH: ∀(xs ys:List AV),lC xs ys=true->xs=ys
 |[],ys,h=>by cases ys<;>simp [lC] at h; rfl
 |x::xs,ys,h=>by
  cases ys with
  |nil=>simp [lC] at h
  |cons y ys=>simp [lC] at h; rw [oN _ _ h.1,iH _ _ h.2]
end
def Ot (o:Op):List Nat:=o.operands.toList.filterMap fun
 | .tmp t=>some t
 |_=>none
def reads (all:List Oper) (o:Oper):List Nat:=match o.guard with
 |none=>Ot o.op
 |some (j,_)=>match iD all j with
  |some oj=>match oj.dst with
   |some d=>d::Ot o.op
   |none=>Ot o.op
  |none=>Ot o.op
def kindOf (tt:TT):Op->Kind
 | .load _ _=> .r
 | .lookup _ _ _ _=> .r
 | .call c=>match c.callee with
   | .builtin b=>match b with
     | .len=> .r
     | .min=> .pa
     | .max=> .pa
     |_=> .e
   |_=> .e
 | .store _ _ _=> .e
 | .insert _ _ _ _=> .e
 | .mapUpdate _ _ _ _=> .e
 | .next _ _=> .e
 | .range _ _=> .e
 | .convert t u _=>match tt t with
   |some i=>match i.kind with
    | .slice _=>match tt u with
      |some j=>match j.kind with
       | .string=> .r
       |_=> .e
      |none=> .e
    |_=> .pa
   |none=> .e
 | .panic _=> .e
 |_=> .pa
def uJ (ms:List Nat):List Edge->Nat
 |[]=>0
 |e::es=>if Region.binds .any e then ((1 <<<e.on)|||ms.getD e.on 0)|||uJ ms es else uJ ms es
def xM:List Oper->List Nat->List Nat
 |[],ms=>ms
 |o::os,ms=>xM os (ms++ [uJ ms o.after.toList])
structure Item where
 i:Nat
 o:Oper
 m:Nat
 k:Kind
 st:Nat
 rd:List Nat
def items (tt:TT) (all:List Oper) (ms:List Nat):List Oper->Nat->Nat->List Item
 |[],_,_=>[]
 |o::os,i,n=> ⟨i,o,ms.getD i 0,kindOf tt o.op,n,reads all o⟩ ::items tt all ms os (i+1) (match kindOf tt o.op with | .e=>n+1|_=>n)
def Kind.isE:Kind->Bool
 | .e=>true
 |_=>false
def Kind.isR:Kind->Bool
 | .r=>true
 |_=>false
def FI (ms:List Nat) (is:List Item) (x:Item):Bool:=
 x.o.after.toList.all (fun e=>!Region.binds .any e||decide (e.on<x.i))&&
 decide (x.m=uJ ms x.o.after.toList)&&
 x.rd.all (fun t=>is.all fun y=>decide (y.o.dst≠some t)||x.m.testBit y.i||(!x.k.isR&&y.m.testBit x.i))&&
 is.all (fun y=>decide (y.i=x.i)||(match y.o.dst with |some d=>decide (x.o.dst≠some d)|none=>true))&&
 (!x.k.isE||is.all fun y=>!y.k.isE||!decide (y.i<x.i)||x.m.testBit y.i)
def stages (is:List Item) (n:Nat) (x:Item):List Nat:=
 (List.range (n+1)).filter fun k=>is.all fun y=>!y.k.isE||((!x.m.testBit y.i||decide (y.st<k))&&(!y.m.testBit x.i||decide (k<=y.st)))
structure Stat where
 is:List Item
 nE:Nat
 rs:List (Item×List Nat)
def nK:List Item->Nat
 |[]=>0
 |x::xs=>match x.k with | .e=>nK xs+1|_=>nK xs
def stat (tt:TT) (all:List Oper):Option Stat:=
 let ms:=xM all [];let is:=items tt all ms all 0 0
 if is.all (FI ms is) then
  some ⟨is,nK is,(is.filter (·.k.isR)).map fun x=>(x,stages is (nK is) x)⟩
 else none
def only (slots:Tr AV):List Nat->Tr AV
 |[]=> .nil
 |t::ts=>match slots.get t with
  |some v=>(only slots ts).put t (some v)
  |none=>only slots ts
structure DSt where
 slots:Tr AV
 qO:List (Hp×Nat)
 blks:List (Nat×dW)
 obs:List (Option dW)
 vs:List AV
def iC (base bm mm:Nat):List (Nat×dW)->Hp->Hp
 |[],h=>h
 |(a,x)::r,h=>if bm.testBit a&&!mm.testBit a then (iC base bm mm r h).put (base+a) x else iC base bm mm r h
def ev1 (tt:TT) (call:dS) (all:List Oper) (o:Oper) (s:St):T (AV×St):=
 D8 all s o fun s b=>if b then WC tt call s o.op else .ret (AV.undef,s)
def Ci (slots:Tr AV) (d:Option Nat) (v:AV):Tr AV:=match d with
 |some t=>slots.put t (some v)
 |none=>slots
def awG (tt:TT) (call:dS) (all:List Oper) (base N:Nat) (pc:List (SB×Bool)) (x:Item) (d:DSt):T DSt:=
 match d.qO with
 |[]=> .fail
 |(h,mm)::rest=>
  match x.k with
  | .pa=>(ev1 tt call all x.o ⟨only d.slots x.rd,⟨.nil,N,some (base+x.i)⟩,pc⟩).bind fun (v,s')=>
    if s'.h.next=N then
     .ret ⟨Ci d.slots x.o.dst v,d.qO,match s'.h.get (base+x.i) with |some b=>(x.i,b)::d.blks|none=>d.blks,s'.h.get (base+x.i)::d.obs,v::d.vs⟩
    else .fail
  | .e=>(ev1 tt call all x.o ⟨only d.slots x.rd,iC base x.m mm d.blks h,pc⟩).bind fun (v,s')=>
    if s'.h.next<=N/\s'.h.res=none then
     .ret ⟨Ci d.slots x.o.dst v,(s'.h,mm|||x.m)::(h,mm)::rest,d.blks,none::d.obs,v::d.vs⟩
    else .fail
  | .r=>(ev1 tt call all x.o ⟨only d.slots x.rd,iC base x.m mm d.blks h,pc⟩).bind fun (v,_)=>
    .ret ⟨Ci d.slots x.o.dst v,d.qO,d.blks,none::d.obs,v::d.vs⟩
def T.IE {α β:Type} (pc:List (SB×Bool)) (f:List (SB×Bool)->α->T β):T α->T β
 | .fail=> .fail
 | .ret a=>f pc a
 | .split c x y=>match nP pc c with
   |some true=>T.IE pc f x
   |some false=>T.IE pc f y
   |none=> .split c (T.IE ((c,true)::pc) f x) (T.IE ((c,false)::pc) f y)
def alO (tt:TT) (call:dS) (all:List Oper) (base N:Nat):List Item->List (SB×Bool)->DSt->T (List (SB×Bool)×DSt)
 |[],pc,d=> .ret (pc,d)
 |x::xs,pc,d=>(awG tt call all base N pc x d).IE pc (alO tt call all base N xs)
def LQ (tt:TT) (call:dS) (all:List Oper) (base:Nat) (pc:List (SB×Bool)) (x:Item) (v:AV) (S:Tr AV) (blks:List (Nat×dW)) (qO:List (Hp×Nat)):List Nat->T Unit
 |[]=> .ret ()
 |k::ks=>match iD qO k with
  |some (h,mm)=>(ev1 tt call all x.o ⟨S,iC base x.m mm blks h,pc⟩).bind fun (u,_)=>
   if fC u v then LQ tt call all base pc x v S blks qO ks else .fail
  |none=> .fail
def VE (tt:TT) (call:dS) (all:List Oper) (base:Nat) (d:DSt) (qO:List (Hp×Nat)) (vs:List AV):List (Item×List Nat)->List (SB×Bool)->T (List (SB×Bool))
 |[],pc=> .ret pc
 |(x,ks)::r,pc=>match iD vs x.i with
  |some v=>(LQ tt call all base pc x v (only d.slots x.rd) d.blks qO ks).IE pc fun pc _=>VE tt call all base d qO vs r pc
  |none=> .fail
def U9 (base:Nat) (blks:List (Nat×dW)) (qO:List (Hp×Nat)):Bool:=
 blks.all fun (a,_)=>qO.all fun (h,mm)=>mm.testBit a||(h.get (base+a)).isNone
def PO (tt:TT) (call:dS) (all:List Oper) (q:Stat) (s:St):T St:=
 match s.h.res with
 |some _=> .fail
 |none=>
 let base:=s.h.next;let n:=all.length;let N:=base+n+1099511627776
 (alO tt call all base N q.is s.pc ⟨s.slots,[(⟨s.h.m,base+n,none⟩,0)],[],[],[]⟩).bind fun (pc,d)=>
  match d.qO with
  |[]=> .fail
  |(h,mm)::_=>
   (VE tt call all base d d.qO.reverse d.vs.reverse q.rs pc).bind fun pc=>
    if U9 base d.blks d.qO then .ret ⟨d.slots,iC base ((1 <<<n)-1) mm d.blks h,pc⟩ else .fail
def draw (tt:TT) (call:dS) (all:List Oper) (s:St):T St:=
 match stat tt all with
 |none=> .fail
 |some q=>PO tt call all q s
end
end Go.As
end
section
namespace Go.As
section
variable {P:Program}
theorem WU [Glob] {tt:TT} (htt:eY P tt) {call:dS} (hc:kU P call) {ops:Array Oper} {o:Oper} {s s':St} {v:AV} {ρ:Nat->Int} (hp:bM ρ s.pc) (h:(ev1 tt call ops.toList o s).leaf ρ=some (v,s')) :
 BF P ρ ops o s.slots s.h v s'.h:=by
 intro E a w hρ r sr;subst hρ;unfold ev1 at h;obtain⟨pc',hp',h1⟩:=Ov ⟨r,sr,hp⟩ h;cases hw:Region.wanted o (yielded ops a.tmps)<;>rw [hw] at h1
 ·simp only [aJw,if_false] at h1;have:=aH h1;simp only [aJg] at this;obtain⟨rfl,rfl⟩:=this;exact .inl ⟨rfl,rfl,rfl⟩
 ·simp only [if_true] at h1;obtain⟨_,_,q3⟩:=ahO htt hc (s:={ s with pc:=pc' }) (o:=o) r sr hp' h1;exact .inr ⟨rfl,q3⟩
theorem nC {α:Type} {ρ:Nat->Int} {s:St} {c:SB} {f:St->Bool->T α} {r:α} (h:(qX s c f).leaf ρ=some r): ∃pc' b,(f { s with pc:=pc' } b).leaf ρ=some r:=by
 unfold qX at h;split at h
 ·rename_i b _; exact⟨s.pc,b,h⟩
 ·split at h<;>simp only [T.leaf] at h<;>split at h<;>exact⟨_,_,h⟩
theorem VL {α:Type} {ρ:Nat->Int} {s:St} {all:List Oper} {o:Oper} {f:St->Bool->T α} {r:α} (h:(D8 all s o f).leaf ρ=some r): ∃pc' b,(f { s with pc:=pc' } b).leaf ρ=some r:=by
 unfold D8 at h;split at h
 ·exact⟨s.pc,true,h⟩
 ·split at h
  ·split at h
   ·split at h
    ·obtain⟨pc',b,h1⟩:=nC h; exact⟨pc',_,h1⟩
    ·exact⟨s.pc,_,h⟩
    ·simp [T.leaf] at h
   ·simp [T.leaf] at h
  ·simp [T.leaf] at h
theorem Ox {ρ:Nat->Int} {s:St} {x:Operand} {f:AV->T (AV×St)} {r:AV×St} (h:(IQ s x f).leaf ρ=some r): ∃v,(f v).leaf ρ=some r:=by
 unfold IQ at h;split at h
 ·exact⟨_,h⟩
 ·simp [T.leaf] at h
theorem DY {ρ:Nat->Int} {s s':St} {x:Option AV} {v:AV} (h:(yX s x).leaf ρ=some (v,s')):s'=s:=by
 unfold yX at h;split at h
 ·have:=aH h;simp only [aJg] at this;exact this.2.symm
 ·simp [T.leaf] at h
theorem aD2 {tt:TT} {op:Op} (h:kindOf tt op= .r):(∃t x,op= .load t x)\/(∃t x i ok,op= .lookup t x i ok)\/(∃c:Call,op= .call c/\c.callee= .builtin .len)\/∃t u x i j e,op= .convert t u x/\tt t=some i/\i.kind= .slice e/\tt u=some j/\j.kind= .string:=by
 unfold kindOf at h;split at h<;>try (simp at h; done)
 ·exact .inl ⟨_,_,rfl⟩
 ·exact .inr (.inl ⟨_,_,_,_,rfl⟩)
 ·rename_i c;split at h
  ·rename_i b hb;split at h<;>simp at h;exact .inr (.inr (.inl ⟨c,rfl,hb⟩))
  ·simp at h
 ·split at h
  ·rename_i i hi;split at h
   ·rename_i e he;split at h
    ·rename_i j hj;split at h
     ·rename_i hs;exact .inr (.inr (.inr ⟨_,_,_,i,j,e,rfl,hi,he,hj,hs⟩))
     ·simp at h
    ·simp at h
   ·simp at h
  ·simp at h
theorem Tz {α:Type} {ρ:Nat->Int} {s:St} {i n:SE} {f:St->T α} {r:α} (h:(G5 s i n f).leaf ρ=some r): ∃pc',(f { s with pc:=pc' }).leaf ρ=some r:=by
 unfold G5 at h;obtain⟨pc1,b1,h1⟩:=nC h;split at h1
 ·simp [T.leaf] at h1
 ·obtain⟨pc2,b2,h2⟩:=nC h1;split at h2
  ·exact⟨pc2,h2⟩
  ·simp [T.leaf] at h2
theorem Bj {α:Type} {ρ:Nat->Int} {kk:TK} {k:AV} {r:α} {f:St->T α}: ∀{es:List (AV×AV×Nat)} {s:St},(Bl kk k es s f).leaf ρ=some r->∃pc',(f { s with pc:=pc' }).leaf ρ=some r
 |[],s,h=> ⟨s.pc,h⟩
 |(k',v,b)::es,s,h=>by
  simp only [Bl] at h;split at h
  ·split at h
   ·exact⟨s.pc,h⟩
   ·exact Bj h
  ·split at h
   ·obtain⟨pc1,b1,h1⟩:=nC h;split at h1
    ·exact⟨pc1,h1⟩
    ·obtain⟨pc2,h2⟩:=Bj h1;exact⟨pc2,h2⟩
   ·exact⟨s.pc,h⟩
theorem Ro {α:Type} {ρ:Nat->Int} {tt:TT} {t:Nat} {m k:AV} {r:α} {f:St->T α} {s:St} (h:(tJ tt t m k s f).leaf ρ=some r): ∃pc',(f { s with pc:=pc' }).leaf ρ=some r:=by
 unfold tJ at h;split at h
 ·split at h
  ·split at h
   ·split at h
    ·exact Bj h
    ·exact⟨s.pc,h⟩
   ·exact⟨s.pc,h⟩
  ·exact⟨s.pc,h⟩
 ·exact⟨s.pc,h⟩
theorem aA1 {s s':St} {cs:List AV} {e:SE} {v:AV} {ρ:Nat->Int} (h:(Uo s cs e).leaf ρ=some (v,s')):s'.h=s.h:=by
 unfold Uo at h;split at h
 ·simp [T.leaf] at h
 ·split at h
  ·simp [T.leaf] at h
  ·obtain⟨pc',h1⟩:=Tz h;have:=aH h1;simp only [aJg] at this;rw [<- this.2]
theorem alI {tt:TT} {s s':St} {ty t:Nat} {k:AV} {ok:Bool} {e:SE} {v:AV} {ρ:Nat->Int} (h:(Ic tt ty k ok e t s).leaf ρ=some (v,s')):s'.h=s.h:=by
 unfold Ic at h;split at h
 ·simp [T.leaf] at h
 ·split at h
  ·simp [T.leaf] at h
  ·obtain⟨pc',b,h1⟩:=nC h
   split at h1<;>
   ·have:=aH h1;simp only [aJg] at this;rw [<- this.2]
theorem JQ {α:Type} {ρ:Nat->Int} {i:SE} {r:α}: ∀{ov:List (SE×List AV)} {s:St} {k:St->T α},(BR i ov s k).leaf ρ=some r->∃pc',(k { s with pc:=pc' }).leaf ρ=some r
 |[],s,k,h=> ⟨s.pc,h⟩
 |(j,c)::l,s,k,h=>by
  simp only [BR] at h;split at h
  ·exact⟨s.pc,h⟩
  ·obtain⟨pc1,b1,h1⟩:=nC h;split at h1
   ·exact⟨pc1,h1⟩
   ·obtain⟨pc2,h2⟩:=JQ h1;exact⟨pc2,h2⟩
theorem alJ {tt:TT} {s s':St} {ty id es off:Nat} {i:SE} {v:AV} {ρ:Nat->Int} (h:(Ie tt s ty id es i off).leaf ρ=some (v,s')):s'.h=s.h:=by
 unfold Ie at h;split at h
 ·split at h
  ·split at h
   ·split at h
    ·simp [T.leaf] at h
    ·exact aA1 h
   ·simp [T.leaf] at h
  ·split at h
   ·split at h
    ·obtain⟨pc',h1⟩:=Tz h;obtain⟨pc2,h1⟩:=JQ h1;split at h1
     ·split at h1
      ·rw [DY h1]
      ·simp [T.leaf] at h1
     ·simp [T.leaf] at h1
    ·simp [T.leaf] at h
   ·simp [T.leaf] at h
  ·simp [T.leaf] at h
 ·simp [T.leaf] at h
theorem aFd {tt:TT} {call:dS} {op:Op} {s s':St} {v:AV} {ρ:Nat->Int} (hk:kindOf tt op= .r) (h:(WC tt call s op).leaf ρ=some (v,s')):s'.h=s.h:=by
 rcases aD2 hk with ⟨t,x,rfl⟩|⟨t,x,i,ok,rfl⟩|⟨c,rfl,hc⟩|⟨t,u,x,i,j,e,rfl,hi,he,hj,hs⟩
 ·simp only [WC] at h;obtain⟨p,h1⟩:=Ox h;split at h1
  ·exact alJ h1
  ·rw [DY h1]
 ·simp only [WC] at h;obtain⟨p,h1⟩:=Ox h;split at h1
  ·split at h1
   ·exact alI h1
   obtain⟨pc',h1⟩:=Ro h1;rw [DY h1]
  ·simp [T.leaf] at h1
 ·simp only [WC,WQ] at h;split at h
  ·simp [T.leaf] at h
  ·rw [hc] at h;simp only [Ep] at h;split at h
   all_goals first
    |(rw [DY h]; done)
    |(simp [T.leaf] at h; done)
    |(rename_i e _ _; simp at e; done)
    |skip
   all_goals simp_all
 ·simp only [WC] at h;obtain⟨p,h1⟩:=Ox h;split at h1
  ·unfold MI at h1;rw [hi] at h1;simp only [he] at h1;simp [T.leaf] at h1
  obtain⟨H,e1,rfl⟩:=wH h1;unfold vT at e1;rw [hi,hj] at e1;simp only [hs,he] at e1;split at e1
  ·simp at e1
  ·split at e1
   ·split at e1
    ·simp only [aJf,aJg] at e1;exact e1.2.symm
    ·split at e1
     ·rw [aJA] at e1;obtain⟨l,_,e2⟩:=e1;simp only [aJg] at e2;exact e2.2.symm
     ·simp at e1
    ·simp at e1
   ·simp at e1
theorem aHf {tt:TT} {call:dS} {all:List Oper} {o:Oper} {s s':St} {v:AV} {ρ:Nat->Int} (hk:kindOf tt o.op= .r) (h:(ev1 tt call all o s).leaf ρ=some (v,s')):s'.h=s.h:=by
 unfold ev1 at h;obtain⟨pc',b,h1⟩:=VL h;cases b
 ·simp only [aJw,if_false] at h1;have:=aH h1;simp only [aJg] at this;rw [<- this.2]
 ·simp only [if_true] at h1;exact aFd (s:={ s with pc:=pc' }) hk h1
theorem uQ {base bm mm:Nat}: ∀{l:List (Nat×dW)} {h:Hp} {id:Nat} {x:dW},(iC base bm mm l h).get id=some x->h.get id=some x\/∃a,(a,x)∈l/\bm.testBit a=true/\mm.testBit a=false/\id=base+a
 |[],h,id,x,hh=> .inl hh
 |(a,y)::r,h,id,x,hh=>by
  simp only [iC] at hh;split at hh
  ·rename_i hb;rw [Hp.get_put] at hh;split at hh
   ·rename_i e;simp at hh;subst hh;simp at hb;exact .inr ⟨a,by simp,hb.1,hb.2,e⟩
   ·rcases uQ hh with h1|⟨b,h1,h2⟩
    ·exact .inl h1
    ·exact .inr ⟨b,by simp [h1],h2⟩
  ·rcases uQ hh with h1|⟨b,h1,h2⟩
   ·exact .inl h1
   ·exact .inr ⟨b,by simp [h1],h2⟩
theorem mW {base bm mm:Nat}: ∀(l:List (Nat×dW)) (h:Hp),(iC base bm mm l h).next=h.next/\(iC base bm mm l h).res=h.res
 |[],h=> ⟨rfl,rfl⟩
 |(a,y)::r,h=>by
  have:=mW (base:=base) (bm:=bm) (mm:=mm) r h;simp only [iC];split
  ·exact this
  ·exact this
theorem GZ {slots:Tr AV}: ∀{ts:List Nat} {t:Nat} {x:AV},(only slots ts).get t=some x->t∈ts/\slots.get t=some x
 |[],t,x,h=>by simp [only,Tr.get] at h
 |u::us,t,x,h=>by
  simp only [only] at h;split at h
  ·rename_i v hv;rw [Tr.get_put] at h;split at h
   ·rename_i e;subst e;exact⟨by simp,by rw [hv]; exact h⟩
   ·have:=GZ h;exact⟨by simp [this.1],this.2⟩
  ·have:=GZ h;exact⟨by simp [this.1],this.2⟩
theorem DU {slots:Tr AV} {d:Option Nat} {v:AV} {t:Nat}:(Ci slots d v).get t=if d=some t then some v else slots.get t:=by
 cases d with
 |none=>simp [Ci]
 |some u=>
  simp only [Ci,Tr.get_put,aJf];by_cases h:t=u
  ·subst h; simp
  ·rw [aJd h,aJd (fun e=>h e.symm)]
theorem vM {ms:List Nat} {i:Nat}: ∀{es:List Edge},(uJ ms es).testBit i=true->∃e∈es,Region.binds .any e=true/\(e.on=i\/(ms.getD e.on 0).testBit i=true)
 |[],h=>by simp [uJ] at h
 |e::es,h=>by
  simp only [uJ] at h;split at h
  ·rename_i hb;simp only [Nat.testBit_or,aKw] at h;rcases h with (h|h)|h
   ·rw [Nat.shiftLeft_eq,aKt,Nat.testBit_two_pow] at h;exact⟨e,by simp,hb,.inl (by simpa using h)⟩
   ·exact⟨e,by simp,hb,.inr h⟩
   ·obtain⟨e',h1,h2⟩:=vM h;exact⟨e',by simp [h1],h2⟩
  ·obtain⟨e',h1,h2⟩:=vM h;exact⟨e',by simp [h1],h2⟩
def mV (tt:TT):List Oper->Nat
 |[]=>0
 |o::os=>(match kindOf tt o.op with | .e=>1|_=>0)+mV tt os
theorem nH {tt:TT} {all:List Oper} {ms:List Nat}: ∀(os:List Oper) (i n j:Nat),(items tt all ms os i n)[j]?=(os[j]?).map fun o=> ⟨i+j,o,ms.getD (i+j) 0,kindOf tt o.op,n+mV tt (os.take j),reads all o⟩
 |[],i,n,j=>by simp [items]
 |o::os,i,n,j=>by
  simp only [items]
  cases j with
  |zero=>simp [mV]
  |succ j=>
   rw [aJk,nH os];simp only [aJk,aKj,mV];congr 1;funext o';have:i+1+j=i+(j+1):=by omega
   rw [this];congr 1;cases kindOf tt o.op<;>simp<;>omega
theorem Ar {tt:TT} {all:List Oper} {ms:List Nat}: ∀(os:List Oper) (i n:Nat),(items tt all ms os i n).length=os.length
 |[],i,n=>rfl
 |o::os,i,n=>by simp [items,Ar os]
theorem rQ {tt:TT} {all:List Oper} {ms:List Nat}: ∀(os:List Oper) (i n:Nat),nK (items tt all ms os i n)=mV tt os
 |[],i,n=>rfl
 |o::os,i,n=>by simp only [items,nK,mV,rQ os];cases kindOf tt o.op<;>simp<;>omega
end
section
variable {P:Program}
def QS [Glob] (P:Program) (ρ:Nat->Int) (ops:Array Oper) (base N:Nat) (x:Item) (d:DSt) (v:AV) (ob:Option dW) (d1:DSt):Prop:=
 ∃h mm rest,d.qO=(h,mm)::rest/\match x.k with
  | .pa=>d1.qO=d.qO/\∃HA,BF P ρ ops x.o (only d.slots x.rd) ⟨.nil,N,some (base+x.i)⟩ v HA/\HA.next=N/\ob=HA.get (base+x.i)
  | .e=>ob=none/\∃hn,d1.qO=(hn,mm|||x.m)::d.qO/\hn.next<=N/\hn.res=none/\BF P ρ ops x.o (only d.slots x.rd) (iC base x.m mm d.blks h) v hn
  | .r=>ob=none/\d1.qO=d.qO
theorem awF [Glob] {tt:TT} (htt:eY P tt) {call:dS} (hc:kU P call) {ops:Array Oper} {base N:Nat} {pc:List (SB×Bool)} {ρ:Nat->Int} (hp:bM ρ pc) {x:Item} {d d1:DSt} (h:(awG tt call ops.toList base N pc x d).leaf ρ=some d1) :
 ∃v ob,d1.slots=Ci d.slots x.o.dst v/\d1.vs=v::d.vs/\d1.obs=ob::d.obs/\d1.blks=(match ob with |some b=>(x.i,b)::d.blks|none=>d.blks)/\QS P ρ ops base N x d v ob d1:=by
 unfold awG at h;split at h
 ·simp [T.leaf] at h
 ·rename_i h0 mm rest hs;split at h
  ·rename_i hk;obtain⟨⟨v,s'⟩,h1,h2⟩:=T.gQ h;have ha:=WU htt hc (s:=⟨only d.slots x.rd,⟨.nil,N,some (base+x.i)⟩,pc⟩) hp h1;simp only at h2;split at h2
   ·rename_i hn;have:=aH h2;subst this;refine⟨v,s'.h.get (base+x.i),rfl,rfl,rfl,?_,h0,mm,rest,hs,?_⟩
    ·cases s'.h.get (base+x.i)<;>rfl
    ·rw [hk];exact⟨rfl,s'.h,ha,hn,rfl⟩
   ·simp [T.leaf] at h2
  ·rename_i hk;obtain⟨⟨v,s'⟩,h1,h2⟩:=T.gQ h;have ha:=WU htt hc (s:=⟨only d.slots x.rd,iC base x.m mm d.blks h0,pc⟩) hp h1;simp only at h2;split at h2
   ·rename_i hn;have:=aH h2;subst this;refine⟨v,none,rfl,rfl,rfl,rfl,h0,mm,rest,hs,?_⟩;rw [hk];exact⟨rfl,s'.h,by rw [hs],hn.1,hn.2,ha⟩
   ·simp [T.leaf] at h2
  ·rename_i hk;obtain⟨⟨v,s'⟩,h1,h2⟩:=T.gQ h;have:=aH h2;subst this;refine⟨v,none,rfl,rfl,rfl,rfl,h0,mm,rest,hs,?_⟩;rw [hk];exact⟨rfl,rfl⟩
theorem QS.qO [Glob] {ρ:Nat->Int} {ops:Array Oper} {base N:Nat} {x:Item} {d d1:DSt} {v:AV} {ob:Option dW} (h:QS P ρ ops base N x d v ob d1): ∃pre,d1.qO=pre++d.qO/\pre.length=nK [x]:=by
 obtain⟨h0,mm,rest,hs,h1⟩:=h;cases hk:x.k<;>rw [hk] at h1
 ·exact⟨[],by rw [h1.1]; rfl,by simp [nK,hk]⟩
 ·obtain⟨_,hn,h2,_⟩:=h1;exact⟨[(hn,mm|||x.m)],by rw [h2]; rfl,by simp [nK,hk]⟩
 ·exact⟨[],by rw [h1.2]; rfl,by simp [nK,hk]⟩
theorem QS.nxt [Glob] {ρ:Nat->Int} {ops:Array Oper} {base N:Nat} {x:Item} {d d1:DSt} {v:AV} {ob:Option dW} (h:QS P ρ ops base N x d v ob d1) (hh: ∀q∈d.qO,q.1.next<=N/\q.1.res=none): ∀q∈d1.qO,q.1.next<=N/\q.1.res=none:=by
 obtain⟨h0,mm,rest,hs,h1⟩:=h;cases hk:x.k<;>rw [hk] at h1
 ·rw [h1.1]; exact hh
 ·obtain⟨_,hn,h2,h3,h4,_⟩:=h1;rw [h2];intro q hq;rcases aJq.1 hq with rfl|hq
  ·exact⟨h3,h4⟩
  ·exact hh q hq
 ·rw [h1.2]; exact hh
structure aHY [Glob] (P:Program) (ρ:Nat->Int) (ops:Array Oper) (base N:Nat) (xs:List Item) (d d':DSt):Prop where
 vs: ∃pre,d'.vs=pre++d.vs/\pre.length=xs.length
 obs: ∃pre,d'.obs=pre++d.obs/\pre.length=xs.length
 qO: ∃pre,d'.qO=pre++d.qO/\pre.length=nK xs
 blk: ∀a b,(a,b)∈d'.blks->(a,b)∈d.blks\/∃p x,xs[p]?=some x/\x.i=a/\d'.obs.reverse[d.obs.length+p]?=some (some b)
 aIK: ∀p x b,xs[p]?=some x->d'.obs.reverse[d.obs.length+p]?=some (some b)->(x.i,b)∈d'.blks
 aJa: ∀q,q∈d.blks->q∈d'.blks
 slot: ∀t x,d'.slots.get t=some x->(∃p y,xs[p]?=some y/\y.o.dst=some t/\d'.vs.reverse[d.vs.length+p]?=some x)\/(d.slots.get t=some x/\∀y∈xs,y.o.dst≠some t)
 same: ∀t,(∀y∈xs,y.o.dst≠some t)->d'.slots.get t=d.slots.get t
 nxt:(∀q∈d.qO,q.1.next<=N/\q.1.res=none)->∀q∈d'.qO,q.1.next<=N/\q.1.res=none
 at_: ∀p x,xs[p]?=some x->∃dp dp1 v ob pre,QS P ρ ops base N x dp v ob dp1/\d'.vs.reverse[d.vs.length+p]?=some v/\d'.obs.reverse[d.obs.length+p]?=some ob/\d'.qO=pre++dp1.qO/\dp.qO.length=d.qO.length+nK (xs.take p)/\
  (∀q,q∈dp.blks->q∈d'.blks)/\(∀t,(∀y∈xs.drop p,y.o.dst≠some t)->d'.slots.get t=dp.slots.get t)/\
  (∀t z,dp.slots.get t=some z->(∃p' y,p'<p/\xs[p']?=some y/\y.o.dst=some t/\d'.vs.reverse[d.vs.length+p']?=some z)\/(d.slots.get t=some z/\∀y∈xs.take p,y.o.dst≠some t))
theorem rev_at {α:Type} {l pre l0:List α} {v:α} (h:l=pre++v::l0):l.reverse[l0.length]?=some v:=by subst h;simp
theorem KJ (x:Item) (xs:List Item):nK (x::xs)=nK [x]+nK xs:=by simp only [nK];cases x.k<;>simp<;>omega
theorem T.qK {α β:Type} {ρ:Nat->Int} {f:List (SB×Bool)->α->T β} {r:β}: ∀{x:T α} {pc:List (SB×Bool)},bM ρ pc->(x.IE pc f).leaf ρ=some r->∃a pc',x.leaf ρ=some a/\bM ρ pc'/\(f pc' a).leaf ρ=some r
 | .fail,pc,_,h=>by simp [T.IE,T.leaf] at h
 | .ret a,pc,hp,h=> ⟨a,pc,rfl,hp,h⟩
 | .split c x y,pc,hp,h=>by
   simp only [T.IE] at h
   cases hd:nP pc c with
   |some b=>
    rw [hd] at h;have hb:=jP hp hd;simp only [T.leaf,hb]
    cases b with
    |true=>exact T.qK hp h
    |false=>exact T.qK hp h
   |none=>
    rw [hd] at h;simp only [T.leaf] at h ⊢
    cases hb:c.den ρ with
    |true=>
     rw [hb] at h
     exact T.qK (x:=x) (pc:=(c,true)::pc) (fun c' b' hm=>by
      rcases aJq.1 hm with he|hm
      ·simp only [aJg] at he; rw [he.1,he.2]; exact hb
      ·exact hp c' b' hm) h
    |false=>
     rw [hb] at h
     exact T.qK (x:=y) (pc:=(c,false)::pc) (fun c' b' hm=>by
      rcases aJq.1 hm with he|hm
      ·simp only [aJg] at he; rw [he.1,he.2]; exact hb
      ·exact hp c' b' hm) h
theorem ahX {tt:TT} {call:dS} {all:List Oper} {base N:Nat} {ρ:Nat->Int}: ∀(xs:List Item) {pc pc':List (SB×Bool)} {d d':DSt},bM ρ pc->(alO tt call all base N xs pc d).leaf ρ=some (pc',d')->bM ρ pc'
 |[],pc,pc',d,d',hp,h=>by have:=aH h;simp only [aJg] at this;rw [<- this.1]; exact hp
 |x::xs,pc,pc',d,d',hp,h=>by simp only [alO] at h;obtain⟨d1,pc1,_,hp1,h2⟩:=T.qK hp h;exact ahX xs hp1 h2
theorem ahY [Glob] {tt:TT} (htt:eY P tt) {call:dS} (hc:kU P call) {ops:Array Oper} {base N:Nat} {ρ:Nat->Int}: ∀(xs:List Item) {pc pc':List (SB×Bool)} {d d':DSt},bM ρ pc->(alO tt call ops.toList base N xs pc d).leaf ρ=some (pc',d')->aHY P ρ ops base N xs d d'
 |[],pc,pc',d,d',hp,h=>by have:=aH h;simp only [aJg] at this;obtain⟨_,rfl⟩:=this;exact⟨⟨[],rfl,rfl⟩,⟨[],rfl,rfl⟩,⟨[],rfl,rfl⟩,fun a b h=> .inl h,fun p x b hh=>by simp at hh,fun q h=>h,fun t x h=> .inr ⟨h,by simp⟩,fun t _=>rfl,fun h=>h,fun p x hh=>by simp at hh⟩
 |x::xs,pc,pc',d,d',hp,h=>by
  simp only [alO] at h;obtain⟨d1,pc1,h1,hp1,h2⟩:=T.qK hp h;obtain⟨v,ob,e1,e2,e3,e4,hF⟩:=awF htt hc hp h1;obtain⟨⟨pv,v1,v2⟩,⟨po,o1,o2⟩,⟨ps,s1,s2⟩,b1,b2,b3,sl,sm,nx,hat⟩:=ahY htt hc xs hp1 h2;obtain⟨qs,t1,t2⟩:=hF.qO;have hv0:d'.vs.reverse[d.vs.length]?=some v:=rev_at (by rw [v1,e2]);have ho0:d'.obs.reverse[d.obs.length]?=some ob:=rev_at (by rw [o1,e3]);have hvl:d1.vs.length=d.vs.length+1:=by rw [e2]; rfl
  have hol:d1.obs.length=d.obs.length+1:=by rw [e3]; rfl
  have hb0: ∀q,q∈d.blks->q∈d1.blks:=by
   intro q hq;rw [e4]
   cases ob with
   |none=>exact hq
   |some b=>exact aKY _ hq
  have hsh: ∀(p n:Nat),n+1+p=n+(p+1):=by intro p n; omega
  refine⟨⟨pv++ [v],by rw [v1,e2]; simp,by simp [v2]⟩,⟨po++ [ob],by rw [o1,e3]; simp,by simp [o2]⟩,⟨ps++qs,by rw [s1,t1]; simp,by rw [aJy,KJ,s2,t2]; omega⟩,?_,?_,fun q hq=>b3 q (hb0 q hq),?_,?_,fun hh=>nx (hF.nxt hh),?_⟩
  ·intro a b hab;rcases b1 a b hab with hh|⟨p,y,g1,g2,g3⟩
   ·rw [e4] at hh
    cases ob with
    |none=>exact .inl hh
    |some c=>
     simp only [aJq,aJg] at hh;rcases hh with ⟨rfl,rfl⟩|hh
     ·exact .inr ⟨0,x,rfl,rfl,ho0⟩
     ·exact .inl hh
   ·exact .inr ⟨p+1,y,by simpa using g1,g2,by rw [<- hsh,<- hol]; exact g3⟩
  ·intro p y b hy hb
   cases p with
   |zero=> simp at hy;subst hy;rw [aJG,ho0] at hb;simp at hb;subst hb;exact b3 _ (by rw [e4]; simp)
   |succ p=> refine b2 p y b (by simpa using hy) ?_;rw [hol,hsh];exact hb
  ·intro t y hy;rcases sl t y hy with ⟨p,z,g1,g2,g3⟩|⟨g1,g2⟩
   ·exact .inl ⟨p+1,z,by simpa using g1,g2,by rw [<- hsh,<- hvl]; exact g3⟩
   ·rw [e1,DU] at g1;split at g1
    ·rename_i hd;simp at g1;subst g1;exact .inl ⟨0,x,rfl,hd,hv0⟩
    ·rename_i hd;refine .inr ⟨g1,fun z hz=>?_⟩;rcases aJq.1 hz with rfl|hz
     ·exact hd
     ·exact g2 z hz
  ·intro t ht;rw [sm t fun y hy=>ht y (by simp [hy]),e1,DU,aJd (ht x (by simp))]
  ·intro p y hy
   cases p with
   |zero=> simp at hy;subst hy;refine⟨d,d1,v,ob,ps,hF,hv0,ho0,s1,by simp [nK],fun q hq=>b3 q (hb0 q hq),fun t ht=>?_,fun t z hz=> .inr ⟨hz,by simp⟩⟩;rw [sm t fun y hy=>ht y (by simp [hy]),e1,DU,aJd (ht x (by simp))]
   |succ p=>
    obtain⟨dp,dp1,v',ob',pre,g1,g2,g3,g4,g5,g6,g7,g8⟩:=hat p y (by simpa using hy);refine⟨dp,dp1,v',ob',pre,g1,by rw [<- hsh,<- hvl]; exact g2,by rw [<- hsh,<- hol]; exact g3,g4,?_,g6,fun t ht=>g7 t (by simpa using ht),fun t z hz=>?_⟩
    ·rw [g5,aKj,KJ,t1,aJy,t2];omega
    ·rcases g8 t z hz with ⟨p',y',q1,q2,q3,q4⟩|⟨q1,q2⟩
     ·exact .inl ⟨p'+1,y',by omega,by simpa using q2,q3,by rw [<- hsh,<- hvl]; exact q4⟩
     ·rw [e1,DU] at q1;split at q1
      ·rename_i hd;simp at q1;subst q1;exact .inl ⟨0,x,by omega,rfl,hd,hv0⟩
      ·rename_i hd;refine .inr ⟨q1,fun u hu=>?_⟩;rw [aKj] at hu;rcases aJq.1 hu with rfl|hu
       ·exact hd
       ·exact q2 u hu
end
section
variable {P:Program}
theorem Eu {tt:TT}: ∀{l:List Oper} {i:Nat} {o:Oper},l[i]?=some o->mV tt (l.take (i+1))=mV tt (l.take i)+(match kindOf tt o.op with | .e=>1|_=>0)
 |[],i,o,h=>by simp at h
 |x::xs,0,o,h=>by simp at h;subst h;simp only [aJp,aKj,List.take_zero,mV];cases kindOf tt x.op<;>rfl
 |x::xs,i+1,o,h=>by simp only [aKj,mV];rw [Eu (l:=xs) (by simpa using h)];omega
theorem Zm {tt:TT} {l:List Oper} {i:Nat} (h:l[i]?=none):mV tt (l.take (i+1))=mV tt (l.take i):=by have:=aKU.1 h;rw [aKg (by omega),aKg (by omega)]
theorem UO {tt:TT} {l:List Oper} {i:Nat}: ∀{j:Nat},i<=j->mV tt (l.take i)<=mV tt (l.take j)
 |0,h=>by
  obtain rfl:i=0:=by omega
  exact aJi _
 |j+1,h=>by
  by_cases e:i=j+1
  ·subst e; exact aJi _
  ·have:=UO (tt:=tt) (l:=l) (i:=i) (j:=j) (by omega)
   cases ho:l[j]? with
   |none=>rw [Zm ho]; exact this
   |some o=>rw [Eu ho]; omega
theorem Xi {tt:TT} {l:List Oper} {i j:Nat} {o:Oper} (ho:l[i]?=some o) (hk:kindOf tt o.op= .e) (h:i<j):mV tt (l.take i)<mV tt (l.take j):=by have h1:=Eu (tt:=tt) ho;rw [hk] at h1;have h2:=UO (tt:=tt) (l:=l) (i:=i+1) (j:=j) h;simp only at h1;omega
theorem Et {tt:TT} {l:List Oper} {m:Nat}: ∀{j:Nat},m<mV tt (l.take j)->∃i o,i<j/\l[i]?=some o/\kindOf tt o.op= .e/\mV tt (l.take i)=m
 |0,h=>by simp [mV] at h
 |j+1,h=>by
  cases ho:l[j]? with
  |none=> rw [Zm ho] at h;obtain⟨i,o,h1,h2⟩:=Et h;exact⟨i,o,by omega,h2⟩
  |some o=>
   rw [Eu ho] at h;rcases aJx m (mV tt (l.take j)) with h'|h'
   ·obtain⟨i,o,h1,h2⟩:=Et h';exact⟨i,o,by omega,h2⟩
   ·cases hk:kindOf tt o.op<;>rw [hk] at h<;>simp only at h<;>try omega
    exact⟨j,o,by omega,ho,hk,by omega⟩
def IU (tt:TT) (all:List Oper) (ms:List Nat) (j:Nat) (o:Oper):Item:=⟨j,o,ms.getD j 0,kindOf tt o.op,mV tt (all.take j),reads all o⟩
theorem lF {tt:TT} {all:List Oper} {ms:List Nat} {j:Nat} {o:Oper} (h:all[j]?=some o):(items tt all ms all 0 0)[j]?=some (IU tt all ms j o):=by rw [nH,h];simp [IU]
theorem Ua {tt:TT} {all:List Oper} {ms:List Nat} {x:Item} (h:x∈items tt all ms all 0 0): ∃j o,all[j]?=some o/\x=IU tt all ms j o:=by
 obtain⟨j,hj⟩:=List.getElem?_of_mem h
 cases ho:all[j]? with
 |none=>rw [nH,ho] at hj; simp at hj
 |some o=> rw [lF ho] at hj;simp at hj;exact⟨j,o,ho,hj.symm⟩
structure aDc (tt:TT) (all:List Oper) (ms:List Nat):Prop where
 back: ∀(j:Nat) (o:Oper),all[j]?=some o->∀e∈o.after,Region.binds .any e=true->e.on<j
 mask: ∀(j:Nat) (o:Oper),all[j]?=some o->ms.getD j 0=uJ ms o.after.toList
 rd: ∀(j:Nat) (o:Oper),all[j]?=some o->∀t∈reads all o,∀(i:Nat) (oi:Oper),all[i]?=some oi->oi.dst=some t->(ms.getD j 0).testBit i=true\/(kindOf tt o.op≠.r/\(ms.getD i 0).testBit j=true)
 dst: ∀(i j:Nat) (oi oj:Oper) (d:Nat),all[i]?=some oi->all[j]?=some oj->oi.dst=some d->oj.dst=some d->i=j
 tot: ∀(i j:Nat) (oi oj:Oper),all[i]?=some oi->all[j]?=some oj->kindOf tt oi.op= .e->kindOf tt oj.op= .e->i<j->(ms.getD j 0).testBit i=true
theorem ayS {tt:TT} {all:List Oper} {q:Stat} (h:stat tt all=some q): ∃ms,q.is=items tt all ms all 0 0/\q.nE=mV tt all/\q.rs=((q.is.filter (·.k.isR)).map fun x=>(x,stages q.is q.nE x))/\aDc tt all ms:=by
 unfold stat at h;simp only at h;split at h
 ·rename_i hok;simp at h;subst h;refine⟨xM all [],rfl,rQ _ _ _,rfl,?_⟩;have key: ∀(j:Nat) (o:Oper),all[j]?=some o->FI (xM all []) (items tt all (xM all []) all 0 0) (IU tt all (xM all []) j o)=true:=fun j o ho=>aJD.1 hok _ (aJL (lF ho));have mem: ∀(j:Nat) (o:Oper),all[j]?=some o->IU tt all (xM all []) j o∈items tt all (xM all []) all 0 0:=fun j o ho=>aJL (lF ho);refine⟨?_,?_,?_,?_,?_⟩
  ·intro j o ho e he hb;have:=key j o ho;simp only [FI,aJh,aJD] at this;have:=this.1.1.1.1 e (by simpa [IU] using he);simpa [hb,IU] using this
  ·intro j o ho;have:=key j o ho;simp only [FI,aJh] at this;have:=this.1.1.1.2;simpa [IU] using this
  ·intro j o ho t ht i oi hoi hd;have:=key j o ho;simp only [FI,aJh,aJD] at this;have:=this.1.1.2 t ht _ (mem i oi hoi);simp only [IU,hd,ne_eq,not_true_eq_false,decide_false,aKZ,aKw,aJh,aKm] at this;rcases this with h|⟨h1,h2⟩
   ·exact .inl h
   ·refine .inr ⟨fun hk=>?_,h2⟩;rw [hk] at h1;simp [Kind.isR] at h1
  ·intro i j oi oj d hi hj hdi hdj;have:=key i oi hi;simp only [FI,aJh,aJD] at this;have:=this.1.2 _ (mem j oj hj);simp [IU,hdi,hdj] at this;exact this.symm
  ·intro i j oi oj hi hj hki hkj hlt;have:=key j oj hj;simp only [FI,aJh,aJD] at this;have:=this.2;simp only [IU,hkj,Kind.isE,aLj,aKZ,aJD] at this;have:=this _ (mem i oi hi);simpa [IU,hki,Kind.isE,hlt] using this
 ·simp at h
theorem Ob [Glob] {tt:TT} (htt:eY P tt) {call:dS} (hc:kU P call) {ops:Array Oper} {base:Nat} {pc:List (SB×Bool)} {ρ:Nat->Int} (hp:bM ρ pc) {x:Item} (hk:kindOf tt x.o.op= .r) {v:AV} {S:Tr AV} {blks:List (Nat×dW)} {qO:List (Hp×Nat)}: ∀(ks:List Nat),(LQ tt call ops.toList base pc x v S blks qO ks).leaf ρ=some ()->
 ∀k∈ks,∃h mm,qO[k]?=some (h,mm)/\BF P ρ ops x.o S (iC base x.m mm blks h) v (iC base x.m mm blks h)
 |[],_=>by simp
 |k::ks,h=>by
  simp only [LQ] at h;split at h
  ·rename_i h0 mm hn;obtain⟨⟨u,s'⟩,h1,h2⟩:=T.gQ h;simp only at h2;split at h2
   ·rename_i hs;have ha:=WU htt hc (s:=⟨S,iC base x.m mm blks h0,pc⟩) hp h1;have hr:=aHf hk h1;rw [hr,oN _ _ hs] at ha;intro k' hk';rcases aJq.1 hk' with rfl|hk'
    ·exact⟨h0,mm,by rw [<- dD]; exact hn,ha⟩
    ·exact Ob htt hc hp hk ks h2 k' hk'
   ·simp [T.leaf] at h2
  ·simp [T.leaf] at h
theorem SY [Glob] {tt:TT} (htt:eY P tt) {call:dS} (hc:kU P call) {ops:Array Oper} {base:Nat} {ρ:Nat->Int} {d:DSt} {qO:List (Hp×Nat)} {vs:List AV}: ∀(rs:List (Item×List Nat)) {pc pc':List (SB×Bool)},bM ρ pc->(∀r∈rs,kindOf tt r.1.o.op= .r)->(VE tt call ops.toList base d qO vs rs pc).leaf ρ=some pc'->
 bM ρ pc'/\∀r∈rs,∃v,vs[r.1.i]?=some v/\∀k∈r.2,∃h mm,qO[k]?=some (h,mm)/\BF P ρ ops r.1.o (only d.slots r.1.rd) (iC base r.1.m mm d.blks h) v (iC base r.1.m mm d.blks h)
 |[],pc,pc',hp,_,h=>by have:=aH h;subst this;exact⟨hp,by simp⟩
 |(x,ks)::rs,pc,pc',hp,hk,h=>by
  simp only [VE] at h;split at h
  ·rename_i v hv;obtain⟨⟨⟩,pc1,h1,hp1,h2⟩:=T.qK hp h;obtain⟨hp2,ih⟩:=SY htt hc rs hp1 (fun r hr=>hk r (by simp [hr])) h2;refine⟨hp2,fun r hr=>?_⟩;rcases aJq.1 hr with rfl|hr
   ·exact⟨v,by rw [<- dD]; exact hv,Ob htt hc hp (hk _ (by simp)) ks h1⟩
   ·exact ih r hr
  ·simp [T.leaf] at h
end
section
variable {P:Program}
theorem azH {α:Type} {l pre:List α} {a b:α} {l0:List α} (h:l=pre++a::b::l0):l.reverse[l0.length]?=some b/\l.reverse[l0.length+1]?=some a:=by
 subst h;constructor
 ·simp
 ·rw [show pre++a::b::l0=(pre++ [a])++(b::l0) by simp,List.reverse_append];rw [aLe (by simp)];simp
theorem ajJ {n b:Nat} (h:((1 <<<n)-1).testBit b=true):b<n:=by rw [Nat.shiftLeft_eq,aKt,Nat.testBit_two_pow_sub_one] at h;simpa using h
theorem azM [Glob] {tt:TT} {ops:Array Oper} {ms:List Nat} {ρ:Nat->Int} {wG:Tr AV} {H0:Hp} {base N:Nat} {d:DSt} (sf:aDc tt ops.toList ms) (hb:base=H0.next) (hN:base+ops.size<=N)
 (rf:aHY P ρ ops base N (items tt ops.toList ms ops.toList 0 0) ⟨wG,[(⟨H0.m,base+ops.size,none⟩,0)],[],[],[]⟩ d)
 (hrs: ∀r∈((items tt ops.toList ms ops.toList 0 0).filter (·.k.isR)).map fun x=>(x,stages (items tt ops.toList ms ops.toList 0 0) (mV tt ops.toList) x),∃v,d.vs.reverse[r.1.i]?=some v/\∀k∈r.2,∃h mm,d.qO.reverse[k]?=some (h,mm)/\BF P ρ ops r.1.o (only d.slots r.1.rd) (iC base r.1.m mm d.blks h) v (iC base r.1.m mm d.blks h))
 (hun:U9 base d.blks d.qO=true) :
 ∃p:Plan P ρ ops wG H0,p.base=base/\p.nE=mV tt ops.toList/\(∀i,p.val i=(d.vs.reverse[i]?).getD .lD)/\(∀k h mm,d.qO.reverse[k]?=some (h,mm)->p.hp k=h/\∀a,p.un k a=!mm.testBit a)/\(∀i,p.blk i=(d.obs.reverse[i]?).getD none)/\
  (∀(m:Nat),m<p.nE->∃(j:Nat) (o:Oper),ops[j]?=some o/\p.kd j= .e/\p.st j=m):=by
 have hsz: ∀(j:Nat),ops.toList[j]?=ops[j]?:=fun j=>aJS;have hlt: ∀{j:Nat} {o:Oper},ops[j]?=some o->j<ops.size:=fun h=>(aJK.1 h).1;have hci:nK (items tt ops.toList ms ops.toList 0 0)=mV tt ops.toList:=rQ _ _ _;have hfull:mV tt ops.toList=mV tt (ops.toList.take ops.size):=by rw [aKg (by simp)]
 obtain⟨ps,s1,s2⟩:=rf.qO;rw [hci] at s2;have aI4:d.qO.length=mV tt ops.toList+1:=by rw [s1,aJy,s2]; rfl
 have aIp:d.qO.reverse[0]?=some (⟨H0.m,base+ops.size,none⟩,0):=by rw [s1]; simp
 have aGC: ∀k,k<=mV tt ops.toList->∃h mm,d.qO.reverse[k]?=some (h,mm):=by
  intro k hk;have:k<d.qO.reverse.length:=by rw [aLI]; omega
  exact⟨d.qO.reverse[k].1,d.qO.reverse[k].2,aJu this⟩
 have hnx:=rf.nxt (by
  intro q hq;simp only [aJq,aJ4,or_false] at hq;subst hq
  exact⟨hN,rfl⟩)
 have hnx2: ∀(k:Nat) (h:Hp) (mm:Nat),d.qO.reverse[k]?=some (h,mm)->h.next<=N/\h.res=none:=by intro k h mm hh;exact hnx (h,mm) (by have:=aJL hh; simpa using this)
 let hpf:Nat->Hp:=fun k=>((d.qO.reverse[k]?).map (·.1)).getD ⟨.nil,0,none⟩
 let unf:Nat->Nat->Bool:=fun k a=>match d.qO.reverse[k]? with |some q=>!q.2.testBit a|none=>false
 let bff:Nat->Nat->Bool:=fun i j=>match ops[j]? with |some _=>(ms.getD j 0).testBit i|none=>false
 let kdf:Nat->Kind:=fun i=>match ops[i]? with |some o=>kindOf tt o.op|none=> .pa
 let Xl:Nat->Option dW:=fun i=>(d.obs.reverse[i]?).getD none
 have hpe: ∀k h mm,d.qO.reverse[k]?=some (h,mm)->hpf k=h/\∀a,unf k a=!mm.testBit a:=by intro k h mm hh;refine⟨by simp only [hpf,hh]; rfl,fun a=>by simp only [unf,hh]⟩
 have bfe: ∀{i j:Nat} {o:Oper},ops[j]?=some o->bff i j=(ms.getD j 0).testBit i:=by intro i j o ho;simp only [bff,ho]
 have kde: ∀{j:Nat} {o:Oper},ops[j]?=some o->kdf j=kindOf tt o.op:=by intro j o ho;simp only [kdf,ho]
 have kdE: ∀{j:Nat},kdf j= .e->∃o,ops[j]?=some o/\kindOf tt o.op= .e:=by
  intro j hj
  cases ho:ops[j]? with
  |none=>simp only [kdf,ho] at hj; simp at hj
  |some o=>exact⟨o,rfl,by rw [<- kde ho]; exact hj⟩
 have hbelow: ∀(k:Nat),∀(o':Oper),ops[k]?=some o'->∀b,(ms.getD k 0).testBit b=true->b<k:=by
  intro k
  induction k using Nat.strongRecOn with
  |_ k ih=>
   intro o' ho' b hb';rw [sf.mask k o' (by rw [hsz]; exact ho')] at hb';obtain⟨e,e1,e2,e3⟩:=vM hb';have e1':e∈o'.after:=by simpa using e1
   have hlt':=sf.back k o' (by rw [hsz]; exact ho') e e1' e2;rcases e3 with rfl|e3
   ·exact hlt'
   ·have:=hlt ho';have:=ih e.on hlt' (ops[e.on]'(by omega)) (by simp) b e3;omega
 have aIz: ∀(i:Nat),∃S:Tr AV,∀(o:Oper),ops[i]?=some o->∃dp dp1 v ob pre,dp.slots=S/\QS P ρ ops base N (IU tt ops.toList ms i o) dp v ob dp1/\d.vs.reverse[i]?=some v/\d.obs.reverse[i]?=some ob/\d.qO=pre++dp1.qO/\dp.qO.length=1+mV tt (ops.toList.take i)/\
  (∀q,q∈dp.blks->q∈d.blks)/\(∀t x,S.get t=some x->(∃p oj,p<i/\ops[p]?=some oj/\oj.dst=some t/\d.vs.reverse[p]?=some x)\/(wG.get t=some x/\∀(p:Nat) (oj:Oper),p<i->ops[p]?=some oj->oj.dst≠some t)):=by
  intro i
  cases hoi:ops[i]? with
  |none=>exact⟨.nil,fun o h=>by simp at h⟩
  |some o0=>
   have hx:(items tt ops.toList ms ops.toList 0 0)[i]?=some (IU tt ops.toList ms i o0):=lF (by rw [hsz]; exact hoi);obtain⟨dp,dp1,v,ob,pre,g1,g2,g3,g4,g5,g6,g7,g8⟩:=rf.at_ i _ hx;refine⟨dp.slots,fun o ho=>?_⟩;simp only [aJf] at ho;subst ho;refine⟨dp,dp1,v,ob,pre,rfl,g1,by simpa using g2,by simpa using g3,g4,?_,g6,?_⟩
   ·rw [g5];congr 1
    have:(items tt ops.toList ms ops.toList 0 0).take i=items tt ops.toList ms (ops.toList.take i) 0 0:=by
     apply aK7;intro j;rw [aKk,nH,nH,aKk];split
     ·rename_i hj;rw [aKW,Nat.min_eq_left (by omega)]
     ·rfl
    rw [this,rQ]
   ·intro t x ht;rcases g8 t x ht with ⟨p,y,q1,q2,q3,q4⟩|⟨q1,q2⟩
    ·cases hoj:ops.toList[p]? with
     |none=>rw [nH,hoj] at q2; simp at q2
     |some oj=> rw [lF hoj] at q2;simp at q2;subst q2;exact .inl ⟨p,oj,q1,by rw [<- hsz]; exact hoj,q3,by simpa using q4⟩
    ·refine .inr ⟨q1,fun p oj hp hoj=>?_⟩
     have hm:IU tt ops.toList ms p oj∈(items tt ops.toList ms ops.toList 0 0).take i:=by refine aJL (i:=p) ?_;rw [aKk,aJe hp];exact lF (by rw [hsz]; exact hoj)
     exact q2 _ hm
 obtain⟨Sd,hat⟩:=Classical.skolem.1 aIz
 let Sf:Nat->Tr AV:=fun i=>match ops[i]? with
  |some o=>(match kindOf tt o.op with
   | .r=>only d.slots (reads ops.toList o)
   |_=>only (Sd i) (reads ops.toList o))
  |none=> .nil
 have SfR: ∀{i:Nat} {o:Oper},ops[i]?=some o->kindOf tt o.op= .r->Sf i=only d.slots (reads ops.toList o):=by intro i o ho hk;simp only [Sf,ho,hk]
 have SfN: ∀{i:Nat} {o:Oper},ops[i]?=some o->kindOf tt o.op≠.r->Sf i=only (Sd i) (reads ops.toList o):=by
  intro i o ho hk;have:Sf i=(match kindOf tt o.op with | .r=>only d.slots (reads ops.toList o)|_=>only (Sd i) (reads ops.toList o)):=by simp only [Sf,ho]
  rw [this]
  cases hh:kindOf tt o.op with
  |r=>exact absurd hh hk
  |pa=>rfl
  |e=>rfl
 have hblk: ∀a b,(a,b)∈d.blks->Xl a=some b:=by
  intro a b hab;rcases rf.blk a b hab with h|⟨p,x,g1,g2,g3⟩
  ·simp at h
  ·cases ho:ops.toList[p]? with
   |none=>rw [nH,ho] at g1; simp at g1
   |some o=> rw [lF ho] at g1;simp at g1;subst g1;have:p=a:=g2;subst this;simp only [aJt,aJp] at g3;simp only [Xl,g3,aJl]
 have hblk2: ∀a b,Xl a=some b->(a,b)∈d.blks:=by
  intro a b hab
  have hob:d.obs.reverse[a]?=some (some b):=by
   simp only [Xl] at hab
   cases hh:d.obs.reverse[a]? with
   |none=>rw [hh] at hab; simp at hab
   |some x=>rw [hh] at hab; simp at hab; rw [hab]
  obtain⟨po,o1,o2⟩:=rf.obs
  have hal:a<ops.size:=by have h1:=(aJC.1 hob).1;rw [aLI,o1,aJ1,o2,Ar] at h1;simpa using h1
  have hx:(items tt ops.toList ms ops.toList 0 0)[a]?=some (IU tt ops.toList ms a ops[a]):=lF (by rw [hsz]; simp [hal]);exact rf.aIK a _ b hx (by simpa using hob)
 refine⟨{
  base:=base,bf:=bff,kd:=kdf,S:=Sf,val:=fun i=>(d.vs.reverse[i]?).getD .lD,st:=fun i=>mV tt (ops.toList.take i),nE:=mV tt ops.toList,hp:=hpf,un:=unf,blk:=Xl,
  gen:=?_,back:=?_,dst:=?_,slots:=?_,stl:=?_,inj:=?_,aFY:=?_,pa:=?_,ev:=?_,rd:=?_,unm:=?_,nob:=?_,first:=?_ },rfl,rfl,fun i=>rfl,hpe,fun i=>rfl,?_⟩
 ·intro i j h
  cases ho:ops[j]? with
  |none=>simp only [bff,ho] at h; simp at h
  |some o=>
   rw [bfe ho,sf.mask j o (by rw [hsz]; exact ho)] at h;obtain⟨e,e1,e2,e3⟩:=vM h;have e1':e∈o.after:=by simpa using e1
   refine⟨o,e,rfl,e1',e2,e3.imp id fun h3=>?_⟩;have hl:=sf.back j o (by rw [hsz]; exact ho) e e1' e2;have hj:=hlt ho;rw [bfe (o:=ops[e.on]'(by omega)) (by simp)];exact h3
 ·intro j o ho e he hb';exact sf.back j o (by rw [hsz]; exact ho) e he hb'
 ·intro i j oi oj dd hi hj h1 h2;exact sf.dst i j oi oj dd (by rw [hsz]; exact hi) (by rw [hsz]; exact hj) h1 h2
 ·intro i o ho t x ht
  cases hk:kindOf tt o.op with
  |r=>
   rw [SfR ho hk] at ht;obtain⟨h1,h2⟩:=GZ ht;rcases rf.slot t x h2 with ⟨p,y,g1,g2,g3⟩|⟨g1,g2⟩
   ·cases hoj:ops.toList[p]? with
    |none=>rw [nH,hoj] at g1; simp at g1
    |some oj=>
     rw [lF hoj] at g1;simp at g1;subst g1;have hp:ops[p]?=some oj:=by rw [<- hsz]; exact hoj
     refine .inl ⟨p,oj,?_,hp,g2,?_⟩
     ·rw [bfe ho];rcases sf.rd i o (by rw [hsz]; exact ho) t h1 p oj hoj g2 with h|⟨h,_⟩
      ·exact h
      ·exact absurd hk h
     ·simp only [aJt,aJp] at g3;simp only [g3,aJl]
   ·refine .inr ⟨g1,fun j oj hoj hd=>?_⟩;exact absurd hd (g2 _ (aJL (lF (by rw [hsz]; exact hoj))))
  |_=>
   rw [SfN ho (by rw [hk]; simp)] at ht;obtain⟨h1,h2⟩:=GZ ht;obtain⟨dp,dp1,v,ob,pre,_,_,_,_,_,_,_,g8⟩:=hat i o ho;rcases g8 t x h2 with ⟨p,oj,q1,q2,q3,q4⟩|⟨q1,q2⟩
   ·refine .inl ⟨p,oj,?_,q2,q3,by rw [q4]; rfl⟩;rw [bfe ho];rcases sf.rd i o (by rw [hsz]; exact ho) t h1 p oj (by rw [hsz]; exact q2) q3 with h|⟨_,h⟩
    ·exact h
    ·have:=hbelow p oj q2 i h;omega
   ·refine .inr ⟨q1,fun j oj hoj hd=>?_⟩;rw [bfe hoj];rcases sf.rd i o (by rw [hsz]; exact ho) t h1 j oj (by rw [hsz]; exact hoj) hd with h|⟨_,h⟩
    ·exact absurd hd (q2 j oj (hbelow i o ho j h) hoj)
    ·exact h
 ·intro j o ho hk;rw [kde ho] at hk;rw [hfull];exact Xi (by rw [hsz]; exact ho) hk (hlt ho)
 ·intro i j hi hj he;obtain⟨oi,hoi,hki⟩:=kdE hi;obtain⟨oj,hoj,hkj⟩:=kdE hj;rcases aLH i j with h|h|h
  ·have:=Xi (tt:=tt) (l:=ops.toList) (by rw [hsz]; exact hoi) hki h;omega
  ·exact h
  ·have:=Xi (tt:=tt) (l:=ops.toList) (by rw [hsz]; exact hoj) hkj h;omega
 ·intro j o ho hk m hm;obtain⟨i,oi,h1,h2,h3,h4⟩:=Et hm;rw [kde ho] at hk;have h2':ops[i]?=some oi:=by rw [<- hsz]; exact h2
  refine⟨i,by rw [kde h2']; exact h3,h4,?_⟩;rw [bfe ho];exact sf.tot i j oi o h2 (by rw [hsz]; exact ho) h3 hk h1
 ·intro i o ho hk;rw [kde ho] at hk;obtain⟨dp,dp1,v,ob,pre,hdp,hF,g2,g3,g4,g5,g6,g7⟩:=hat i o ho;obtain⟨h0,mm,rest,hs,hF⟩:=hF;simp only [IU,hk] at hF;obtain⟨_,HA,f1,f2,f3⟩:=hF;rw [hdp] at f1;refine⟨HA,N,?_,f2,?_,?_⟩
  ·rw [SfN ho (by rw [hk]; simp)];simp only [g2,aJl];exact f1
  ·simp only [Xl,g3,aJl];exact f3
  ·intro k hk2;obtain⟨h2,mm2,hh⟩:=aGC k hk2;rw [(hpe _ _ _ hh).1];exact (hnx2 _ _ _ hh).1
 ·intro j o ho hk;rw [kde ho] at hk;obtain⟨dp,dp1,v,ob,pre,hdp,hF,g2,g3,g4,g5,g6,g7⟩:=hat j o ho;obtain⟨h0,mm,rest,hs,hF⟩:=hF;simp only [IU,hk] at hF;obtain⟨_,hn,f1,f2,f3,f4⟩:=hF;rw [hdp] at f4;rw [f1,hs] at g4;have hrl:rest.length=mV tt (ops.toList.take j):=by rw [hs] at g5; simp at g5; omega
  obtain⟨r1,r2⟩:=azH g4;rw [hrl] at r1 r2;obtain⟨p1,p2⟩:=hpe _ _ _ r1;obtain⟨p3,p4⟩:=hpe _ _ _ r2;refine⟨iC base (ms.getD j 0) mm dp.blks h0,?_,?_,?_,?_,?_⟩
  ·rw [SfN ho (by rw [hk]; simp)];simp only [g2,aJl,p3];exact f4
  ·rw [(mW _ _).1,p1]
  ·rw [(mW _ _).2];exact (hnx2 _ _ _ r1).2
  ·intro id x hx;rcases uQ hx with h|⟨a,a1,a2,a3,a4⟩
   ·left; rw [p1]; exact h
   ·right;exact⟨a,by rw [bfe ho]; exact a2,by rw [p2,a3]; rfl,a4,hblk a x (g6 _ a1)⟩
  ·intro a ha;rw [p4] at ha;simp only [Nat.testBit_or,Bool.not_or,aJh,aKm] at ha;refine⟨by rw [p2,ha.1]; rfl,?_⟩;rw [bfe ho];exact ha.2
 ·intro i o ho hk k hkn h1 h2;rw [kde ho] at hk;have hmem:IU tt ops.toList ms i o∈items tt ops.toList ms ops.toList 0 0:=aJL (lF (by rw [hsz]; exact ho))
  obtain⟨v,g1,g2⟩:=hrs (IU tt ops.toList ms i o,stages (items tt ops.toList ms ops.toList 0 0) (mV tt ops.toList) (IU tt ops.toList ms i o)) (by
   rw [aJE]
   exact⟨_,aKh.2 ⟨hmem,by simp [IU,hk,Kind.isR]⟩,rfl⟩)
  have hks:k∈stages (items tt ops.toList ms ops.toList 0 0) (mV tt ops.toList) (IU tt ops.toList ms i o):=by
   unfold stages;rw [aKh,aJ8];refine⟨by omega,aJD.2 fun y hy=>?_⟩;obtain⟨j,oj,hoj,rfl⟩:=Ua hy;have aAl:ops[j]?=some oj:=by rw [<- hsz]; exact hoj
   cases hkj:kindOf tt oj.op with
   |pa=>simp [IU,hkj,Kind.isE]
   |r=>simp [IU,hkj,Kind.isE]
   |e=>
    simp only [IU,hkj,Kind.isE,aLj,aKZ,aJh,aKw,aKm,decide_eq_true_eq];constructor
    ·cases hbit:(ms.getD i 0).testBit j with
     |false=>exact .inl rfl
     |true=>exact .inr (h1 j (by rw [kde aAl]; exact hkj) (by rw [bfe ho]; exact hbit))
    ·cases hbit:(ms.getD j 0).testBit i with
     |false=>exact .inl rfl
     |true=>exact .inr (h2 j oj aAl (by rw [kde aAl]; exact hkj) (by rw [bfe aAl]; exact hbit))
  obtain⟨h0,mm,g3,g4⟩:=g2 k hks;obtain⟨p1,p2⟩:=hpe _ _ _ g3;refine⟨iC base (ms.getD i 0) mm d.blks h0,?_,?_,?_,?_⟩
  ·have g1':d.vs.reverse[i]?=some v:=g1;rw [SfR ho hk];simp only [g1',aJl];exact g4
  ·rw [(mW _ _).1,p1]
  ·rw [(mW _ _).2];exact (hnx2 _ _ _ g3).2
  ·intro id x hx;rcases uQ hx with h|⟨a,a1,a2,a3,a4⟩
   ·left; rw [p1]; exact h
   ·right;exact⟨a,by rw [bfe ho]; exact a2,by rw [p2,a3]; rfl,a4,hblk a x a1⟩
 ·intro k a x hk hx hu;obtain⟨h0,mm,hh⟩:=aGC k hk;obtain⟨p1,p2⟩:=hpe _ _ _ hh;rw [p1];rw [p2] at hu;unfold U9 at hun;have:=aJD.1 hun _ (hblk2 a x hx)
  have:=aJD.1 this (h0,mm) (by
   have:=aJL hh
   simpa using this)
  simp only [aKw,Option.isNone_iff_eq_none] at this;simp only [aKm] at hu;rcases this with h|h
  ·rw [hu] at h; simp at h
  ·exact h
 ·intro i hk
  cases ho:ops[i]? with
  |none=>
   obtain⟨po,o1,o2⟩:=rf.obs
   have hnone:d.obs.reverse[i]?=none:=by rw [aKU,aLI,o1,aJ1,o2,Ar];have:=aLW.1 ho;simpa using this
   simp only [Xl,hnone,aKF]
  |some o=>
   obtain⟨dp,dp1,v,ob,pre,hdp,hF,g2,g3,g4,g5,g6,g7⟩:=hat i o ho;obtain⟨h0,mm,rest,hs,hF⟩:=hF;rw [kde ho] at hk
   cases hkk:kindOf tt o.op with
   |pa=>exact absurd hkk hk
   |e=> simp only [IU,hkk] at hF;simp only [Xl,g3,aJl,hF.1]
   |r=> simp only [IU,hkk] at hF;simp only [Xl,g3,aJl,hF.1]
 ·have:=(hpe 0 _ _ aIp).1;refine⟨hb,by rw [this]; exact aJi _,fun id x h=>?_⟩;rw [this] at h;exact h
 ·intro m hm;have hm':m<mV tt (ops.toList.take ops.size):=by rw [<- hfull]; exact hm
  obtain⟨i,oi,h1,h2,h3,h4⟩:=Et hm';have h2':ops[i]?=some oi:=by rw [<- hsz]; exact h2
  exact⟨i,oi,h2',by show kdf i=_; rw [kde h2']; exact h3,h4⟩
end
section
variable {P:Program}
theorem PN [Glob] {tt:TT} (htt:eY P tt) {call:dS} (hc:kU P call) {ops:Array Oper} {E:En} {s s':St} {a:Act} {w:World} {Q:Exit->Act->World->Prop}
 (hd: ∀o∈ops.toList,∀d,o.dst=some d->d<a.tmps.size) (fit:Fit E s a w) (h:(draw tt call ops.toList s).leaf E.ρ=some s') (hq: ∀a' w',Then E s a w s' a' w'->Q .normal a' w') :
 wpAny P .any ops Q ops.size (Array.replicate ops.size false) a { w with drawn:=w.drawn+1 }:=by
 unfold draw PO at h;split at h
 ·simp [T.leaf] at h
 ·rename_i q hq0;split at h
  ·simp [T.leaf] at h
  ·rename_i hres;simp only at h;obtain⟨⟨pc1,d⟩,h1,h2⟩:=T.gQ h;simp only at h2;obtain⟨ms,e1,e2,e3,sf⟩:=ayS hq0;rw [e1,] at h1;have rf:=ahY htt hc _ fit.pc h1;have hp1:=ahX _ fit.pc h1;split at h2
   ·simp [T.leaf] at h2
   ·rename_i h0 mm rest aEb;obtain⟨pc2,h3,h4⟩:=T.gQ h2;split at h4
    ·rename_i hun;have:=aH h4;subst this
     have aGD:=SY htt hc q.rs hp1 (by
      intro r hr;rw [e3,aJE] at hr;obtain⟨x,hx,rfl⟩:=hr;rw [aKh,e1] at hx;obtain⟨j,o,ho,rfl⟩:=Ua hx.1;have h5:(kindOf tt o.op).isR=true:=hx.2;show kindOf tt o.op= .r;revert h5
      cases kindOf tt o.op<;>simp [Kind.isR]) h3
     have hp2:=aGD.1;have hrs:=aGD.2;rw [e3,e1,e2] at hrs;obtain⟨p,p1,p2,p3,p4,p5,p6⟩:=azM sf (base:=s.h.next) (H0:=s.h) rfl (Nat.le_add_right _ _) rf hrs hun;have hsz: ∀(j:Nat),ops.toList[j]?=ops[j]?:=fun j=>aJS;let w1:World:={ w with drawn:=w.drawn+1 };have aIC:Fit E s a w1:=⟨⟨fit.rel.fresh,fit.rel.res,fit.rel.live,fit.rel.inj,fit.rel.CG,fit.rel.glob⟩,fit.sr,fit.pc⟩
     have hlist: ∀(i:Nat),(Array.replicate ops.size false)[i]?≠some true:=by intro i hh;have:=aLg hh;simp at this
     refine p.any (E0:=E) (a0:=a) (w0:=w1) hd ?_ ops.size _ a w1 (by simp) ?_ (p.start rfl rfl rfl aIC _ hlist)
     ·intro a' w' inv;obtain⟨ps,s1,s2⟩:=rf.qO;rw [rQ] at s2
      have hlen:rest.length=mV tt ops.toList:=by
       have:d.qO.length=mV tt ops.toList+1:=by rw [s1,aJy,s2]; rfl
       rw [aEb] at this;simpa using this
      have hlast:d.qO.reverse[mV tt ops.toList]?=some (h0,mm):=by rw [<- hlen];exact rev_at (pre:=[]) aEb
      obtain⟨q1,q2⟩:=p4 _ _ _ hlast
      have hnx:=rf.nxt (by
       intro q hq;simp only [aJq,aJ4,or_false] at hq;subst hq
       exact⟨Nat.le_add_right _ _,rfl⟩) (h0,mm) (by rw [aEb]; simp)
      have ht:=p.finish (s0:=s) (s':=⟨d.slots,iC s.h.next ((1 <<<ops.toList.length)-1) mm d.blks h0,pc2⟩) (w0:=w1) rfl inv hp2 ?_ ?_ ?_ ?_ p6
      ·refine hq a' w' ⟨ht.defers,ht.size,?_⟩;obtain⟨E',st,f'⟩:=ht.step;exact⟨E',⟨st.ρ,st.dm,st.θ,st.κ,st.ro,st.J7,st.nxm,st.rsm,st.dmn,st.os,st.tape,st.output,st.size,st.keep,st.own⟩,f'⟩
      ·intro t x ht;rcases rf.slot t x ht with ⟨j,y,g1,g2,g3⟩|⟨g1,g2⟩
       ·cases hoj:ops.toList[j]? with
        |none=>rw [nH,hoj] at g1; simp at g1
        |some oj=> rw [lF hoj] at g1;simp at g1;subst g1;refine .inl ⟨j,oj,by rw [<- hsz]; exact hoj,g2,?_⟩;simp only [aJt,aJp] at g3;rw [p3,g3];rfl
       ·refine .inr ⟨g1,fun j oj hoj=>?_⟩;exact g2 _ (aJL (lF (by rw [hsz]; exact hoj)))
      ·intro id x hx;rw [p2,q1,p1];rcases uQ hx with h|⟨b,b1,b2,b3,b4⟩
       ·exact .inl h
       ·right
        have hlt:b<ops.size:=by have:=ajJ b2;simpa using this
        refine⟨b,hlt,by rw [q2,b3]; rfl,b4,?_⟩;rcases rf.blk b x b1 with h|⟨j,y,g1,g2,g3⟩
        ·simp at h
        ·cases hoj:ops.toList[j]? with
         |none=>rw [nH,hoj] at g1; simp at g1
         |some oj=> rw [lF hoj] at g1;simp at g1;subst g1;have:j=b:=g2;subst this;simp only [aJt,aJp] at g3;rw [p5,g3];rfl
      ·rw [p2,q1];exact (mW _ _).1.symm
      ·show (iC s.h.next ((1 <<<ops.toList.length)-1) mm d.blks h0).res=none;rw [(mW _ _).2];exact hnx.2
     ·have: ∀(l:Nat->Bool) (n:Nat),left l n<=n:=by
       intro l n
       induction n with
       |zero=>exact aJi _
       |succ n ih=>simp only [left]; split<;>omega
      exact this _ _
    ·simp [T.leaf] at h4
theorem aBd [Glob] {tt:TT} (htt:eY P tt) (hm:P.follows .mixedOrders=true) {call:dS} (hc:kU P call):aBy P (draw tt call):=by intro id ops E s s' a w Q hd fit h hq;exact wp_region_any hm (PN htt hc hd fit h hq)
end
end Go.As
end
section
namespace Go.As
noncomputable section
open Go.RowKit
section
variable {P:Program}
def En.zero (ρ:Nat->Int) (ro:Nat->Prop):En:={ ρ:=ρ,θ:=fun _=>(0,0),κ:=fun _=>0,dm:=fun _=>False,ro:=ro }
def Hp.zero:Hp:=⟨.nil,0,none⟩
theorem XD [Glob] (ρ:Nat->Int) (ro:Nat->Prop) (w:World) (h: ∀b,ro b->b<w.heap.size) (hg:Glob.ok ρ ro w.heap):bJ (En.zero ρ ro) Hp.zero w:=
 ⟨fun _ _ h=>h,by simp [Hp.zero],fun id o h=>by simp [Hp.zero,Hp.get,Tr.get] at h,fun id _ o _ h=>by simp [Hp.zero,Hp.get,Tr.get] at h,h,hg⟩
theorem Stp.below {E E':En} {H':Hp} {w w':World} (s:Stp E Hp.zero w E' H' w'):Below w.heap.size w w':=
 ⟨s.os,s.tape,s.output,s.size,fun k hk=>s.keep k hk fun id o h=>by simp [Hp.zero,Hp.get,Tr.get] at h⟩
theorem Iw [Glob] {g:FuncId} {f:List AV->St->T (AV×St)} (hf:nU P g f) {fn:Func} (hfn:P.funcs[g]?=some fn) (hname:(fn.name == "runtime.NumGoroutine")=false) {c:Code} (hb2:fn.body=some c)
 {ρ:Nat->Int} {ro:Nat->Prop} {w:World} (hro: ∀b,ro b->b<w.heap.size) (hg:Glob.ok ρ ro w.heap) {args:List AV} {vals:List Value} (hv:bP (En.zero ρ ro) w.heap args vals) {v:AV} {s':St}
 (h:(f args ⟨.nil,Hp.zero,[]⟩).leaf ρ=some (v,s')):Calls P g vals.toArray w fun e w'=> ∃u E',e= .returned u/\VR E' w'.heap v u/\E'.ρ=ρ/\Below w.heap.size w w':=by
 obtain⟨_,_,h3⟩:=hf args ⟨.nil,Hp.zero,[]⟩ (En.zero ρ ro) w vals v s' (XD ρ ro w hro hg) hv (by simp [bM]) h
 have hrun:(callFunc g vals.toArray).run P w= .ok (.enter g vals.toArray) w:=by unfold callFunc;simp [hfn,hb2,by simpa using hname]
 unfold vH vG at h3;rw [hrun] at h3;exact Calls.mono h3 fun e w' ⟨u,he,E',st,_,hv⟩=> ⟨u,E',he,hv,st.ρ,st.below⟩
end
end
end Go.As
end
section
namespace Go.As
noncomputable section
open Go.RowKit
mutual
def kN:AV->Bool
 | .bool (.lit _)=>true
 | .int _ (.lit _)=>true
 | .str _=>true
 | .lD=>true
 | .aA=>true
 | .qI=>true
 | .CW=>true
 | .FM=>true
 | .iface _ v=>kN v
 | .agg cs=>uM cs
 | .tuple cs=>uM cs
 | .func _ fs cs=>uM fs&&uM cs
 |_=>false
def uM:List AV->Bool
 |[]=>true
 |x::xs=>kN x&&uM xs
end
section
variable {P:Program}
mutual
theorem Ew {E E':En} {h h':Array Obj}: ∀(x:AV) (u:Value),kN x=true->VR E h x u->VR E' h' x u
 | .bool b,u,hc,hv=>by cases b<;>simp [kN] at hc; simpa [VR,SB.den] using hv
 | .int k e,u,hc,hv=>by cases e<;>simp [kN] at hc; simpa [VR,SE.den] using hv
 | .str s,u,_,hv=>by simp only [VR] at *; exact hv
 | .lD,u,_,hv=>by simp only [VR] at *; exact hv
 | .aA,u,_,hv=>by simp only [VR] at *; exact hv
 | .qI,u,_,hv=>by simp only [VR] at *; exact hv
 | .CW,u,_,hv=>by simp only [VR] at *; exact hv
 | .FM,u,_,hv=>by simp only [VR] at *; exact hv
 | .iface t x,u,hc,hv=>by simp only [VR,kN] at *;obtain⟨y,h1,h2⟩:=hv;exact⟨y,h1,Ew x y hc h2⟩
 | .agg cs,u,hc,hv=>by simp only [VR,kN] at *;obtain⟨us,h1,h2⟩:=hv;exact⟨us,h1,sO cs us hc h2⟩
 | .tuple cs,u,hc,hv=>by simp only [VR,kN] at *;obtain⟨us,h1,h2⟩:=hv;exact⟨us,h1,sO cs us hc h2⟩
 | .func fn fs cs,u,hc,hv=>by simp only [VR,kN,aJh] at *;obtain⟨us,ws,h1,h2,h3⟩:=hv;exact⟨us,ws,h1,sO fs us hc.1 h2,sO cs ws hc.2 h3⟩
 | .ptr _ _,_,hc,_=>by simp [kN] at hc
 | .sG _,_,hc,_=>by simp [kN] at hc
 | .slice _ _ _ _,_,hc,_=>by simp [kN] at hc
 | .ro _ _ _,_,hc,_=>by simp [kN] at hc
 | .map _,_,hc,_=>by simp [kN] at hc
 | .opq _,_,hc,_=>by simp [kN] at hc
 | .inp _ _,_,hc,_=>by simp [kN] at hc
theorem sO {E E':En} {h h':Array Obj}: ∀(xs:List AV) (us:List Value),uM xs=true->bP E h xs us->bP E' h' xs us
 |[],us,_,hv=>by simp only [bP] at *; exact hv
 |x::xs,us,hc,hv=>by simp only [bP,uM,aJh] at *;obtain⟨u,vs,h1,h2,h3⟩:=hv;exact⟨u,vs,h1,Ew x u hc.1 h2,sO xs vs hc.2 h3⟩
end
theorem EC [Glob] {E:En} {H:Hp} {w w':World} (r:bJ E H w) (b:Below w.heap.size w w'):Stp E H w E H w'/\bJ E H w':=by have hk:Keeps E w.heap E w'.heap:=⟨rfl,fun _ h=>h,fun _ _=>rfl,fun _ _=>rfl,fun _ h=>h,fun x hx=>b.block x (r.CG x hx)⟩;refine⟨⟨rfl,fun _ h=>h,fun _ _=>rfl,fun _ _=>rfl,fun _ h=>h,fun _ h=> .inl h,aJi _,.inr rfl,fun _ h=> .inl h,b.os,b.tape,b.output,b.size,fun x hx _=>b.block x hx,fun id o h _=> ⟨id,o,h,rfl⟩⟩,r.fresh,r.res,fun id o h=>?_,r.inj,fun x hx=>aKb (r.CG x hx) b.size,Glob.keep r.glob hk.ro hk.NZ⟩;obtain⟨h1,h2,h3⟩:=r.live id o h;exact⟨h1,h2.keep hk h1 (b.block _ (jV r h)),h3⟩
def memo (args:List AV) (v:AV):List AV->St->T (AV×St):=fun aJc s=>if lC aJc args then .ret (v,s) else .fail
def gives (args:List AV) (v:AV) (f:List AV->St->T (AV×St)):Bool:=
 uM args&&kN v&&(match f args ⟨.nil,Hp.zero,[]⟩ with | .ret (u,_)=>fC u v|_=>false)
theorem L9 [Glob] {g:FuncId} {f:List AV->St->T (AV×St)} (hf:nU P g f) {fn:Func} (hfn:P.funcs[g]?=some fn) (hname:(fn.name == "runtime.NumGoroutine")=false) {c:Code} (hb:fn.body=some c)
 {args:List AV} {v:AV} (h:gives args v f=true):nU P g (memo args v):=by
 intro aJc s E w vals u s' r hv hp hl;unfold memo at hl;split at hl
 ·rename_i hs;have:=aH hl;simp only [aJg] at this;obtain⟨rfl,rfl⟩:=this;rw [iH _ _ hs] at hv;unfold gives at h;simp only [aJh] at h;obtain⟨⟨h1,h2⟩,h3⟩:=h;split at h3
  ·rename_i u' s1 hrun;have hu:=oN _ _ h3;subst hu;have hc:=Iw hf hfn hname hb (ρ:=E.ρ) (ro:=E.ro) (w:=w) r.CG r.glob (sO args vals h1 hv) (v:=u') (s':=s1) (by rw [hrun]; rfl);refine⟨rfl,hp,?_⟩
   have hrun:(callFunc g vals.toArray).run P w= .ok (.enter g vals.toArray) w:=by unfold callFunc;simp [hfn,hb,by simpa using hname]
   unfold vH vG;rw [hrun];exact Calls.mono hc fun e w' ⟨x,E',he,hx,_,hbl⟩=> ⟨x,he,E,(EC r hbl).1,(EC r hbl).2,Ew u' x h2 hx⟩
  ·simp at h3
 ·simp [T.leaf] at hl
def orElse (f g:List AV->St->T (AV×St)):List AV->St->T (AV×St):=fun aJc s=>match f aJc s with | .fail=>g aJc s|x=>x
theorem D7 [Glob] {id:FuncId} {f g:List AV->St->T (AV×St)} (hf:nU P id f) (hg:nU P id g):nU P id (orElse f g):=by
 intro aJc s E w vals u s' r hv hp hl;unfold orElse at hl;split at hl
 ·exact hg aJc s E w vals u s' r hv hp hl
 ·exact hf aJc s E w vals u s' r hv hp hl
end
end
end Go.As
end
section
namespace Go.As
noncomputable section
open Go.RowKit
section
variable {P:Program}
theorem Eh {g:FuncId} {fn:Func} {e:Array Value->Sem Value} (hf:P.funcs[g]?=some fn) (hname:(fn.name == "runtime.NumGoroutine")=false) (hb:fn.body.isNone=true) (hn:Extern.findNext fn=none) (he:Extern.find fn=some e)
 {args:Array Value} {w:World} {u:Value} (hr:(e args).run P w= .ok u w):(callFunc g args).run P w= .ok (.value u) w:=by
 have hb2:fn.body=none:=by simpa using hb
 unfold callFunc;simp [hf,hb2,by simpa using hname,hn,he,hr]
def P8 (c:Nat):List Nat->Nat
 |[]=>0
 |x::xs=>if x.beq c then P8 c xs+1 else P8 c xs
def Jw:List AV->St->T (AV×St):=fun args s=>match args with
 |[.str b,.int .u8 (.lit (.ofNat c))]=>if c<256 then .ret (.int .i64 (.lit (Int.ofNat (P8 c b))),s) else .fail
 |_=> .fail
theorem Vd {a b:Nat} (ha:a<256) (hb:b<256):(UInt8.ofNat a == UInt8.ofNat b)=a.beq b:=by
 rw [aJW];simp only [beq_iff_eq,Nat.beq_eq];constructor
 ·intro h;have:=congrArg UInt8.toNat h;simp only [aKo] at this;omega
 ·intro h;rw [h]
theorem UF {c:Nat} (hc:c<256): ∀{s:List Nat},(∀b∈s,b<256)->Lib.countByte (s.map UInt8.ofNat) (UInt8.ofNat c)=P8 c s
 |[],_=>rfl
 |x::xs,h=>by have ih:=UF hc (s:=xs) fun b hb=>h b (by simp [hb]);unfold Lib.countByte at *;rw [aJz,List.count_cons,ih,Vd (h x (by simp)) hc];simp only [P8];cases x.beq c<;>simp
theorem awK [Glob] {g:FuncId} {fn:Func} (hf:P.funcs[g]?=some fn) (hname:(fn.name == "runtime.NumGoroutine")=false) (hb:fn.body.isNone=true) (hn:Extern.findNext fn=none) (he:Extern.find fn=some Extern.BytealgCount.count):nU P g Jw:=by
 intro aJc s E w vals u s' r hv hp hl;unfold Jw at hl;split at hl
 ·rename_i b c;split at hl
  ·rename_i hc;have:=aH hl;simp only [aJg] at this;obtain⟨rfl,rfl⟩:=this;simp only [bP,VR,SE.den] at hv;obtain⟨u1,r1,rfl,⟨rfl,hbb⟩,u2,r2,rfl,rfl,rfl⟩:=hv;refine⟨rfl,hp,?_⟩;unfold vH vG;rw [Eh hf hname hb hn he (Lib.run_countString (cO b) (Int.ofNat c) w)];refine⟨E,Stp.refl _ _ _,r,?_⟩;simp only [VR,SE.den];have:(Int.ofNat c).toNat.toUInt8=UInt8.ofNat c:=rfl;rw [this];have h2:(cO b).data.toList=b.map UInt8.ofNat:=by simp [cO]
   rw [h2,UF hc hbb];rfl
  ·simp [T.leaf] at hl
 ·simp [T.leaf] at hl
def OQ (c:Nat):List Nat->Int
 |[]=> -1
 |x::xs=>if x.beq c then 0 else match OQ c xs with
  | .ofNat n=> .ofNat (n+1)
  | .negSucc n=> .negSucc n
def Jv:List AV->St->T (AV×St):=fun args s=>match args with
 |[.str b,.int .u8 (.lit (.ofNat c))]=>if c<256 then .ret (.int .i64 (.lit (OQ c b)),s) else .fail
 |_=> .fail
theorem Ud {c:Nat} (hc:c<256): ∀{s:List Nat},(∀b∈s,b<256)->Lib.indexByte (s.map UInt8.ofNat) (UInt8.ofNat c)=OQ c s
 |[],_=>rfl
 |x::xs,h=>by
  have ih:=Ud hc (s:=xs) fun b hb=>h b (by simp [hb]);have hge:=Lib.indexByte_ge (xs.map UInt8.ofNat) (UInt8.ofNat c);simp only [aJz,Lib.indexByte,OQ];rw [Vd (h x (by simp)) hc];cases x.beq c
  ·simp only [aJw,if_false];rw [ih] at hge ⊢
   cases hi:OQ c xs with
   |ofNat n=>rw [hi] at hge; simp
   |negSucc n=>
    rw [hi] at hge;have:n=0:=by omega
    subst this;rfl
  ·rfl
theorem arK [Glob] {g:FuncId} {fn:Func} (hf:P.funcs[g]?=some fn) (hname:(fn.name == "runtime.NumGoroutine")=false) (hb:fn.body.isNone=true) (hn:Extern.findNext fn=none) (he:Extern.find fn=some Extern.BytealgIndexByte.indexByte):nU P g Jv:=by
 intro aJc s E w vals u s' r hv hp hl;unfold Jv at hl;split at hl
 ·rename_i b c;split at hl
  ·rename_i hc;have:=aH hl;simp only [aJg] at this;obtain⟨rfl,rfl⟩:=this;simp only [bP,VR,SE.den] at hv;obtain⟨u1,r1,rfl,⟨rfl,hbb⟩,u2,r2,rfl,rfl,rfl⟩:=hv;refine⟨rfl,hp,?_⟩;unfold vH vG;rw [Eh hf hname hb hn he (Lib.run_indexByteString (cO b) (Int.ofNat c) w)];refine⟨E,Stp.refl _ _ _,r,?_⟩;simp only [VR,SE.den];have:(Int.ofNat c).toNat.toUInt8=UInt8.ofNat c:=rfl;rw [this];have h2:(cO b).data.toList=b.map UInt8.ofNat:=by simp [cO]
   rw [h2,Ud hc hbb]
  ·simp [T.leaf] at hl
 ·simp [T.leaf] at hl
def VI:List Nat->List Nat->Bool
 |[],_=>true
 |_::_,[]=>false
 |a::x,b::y=>if a.beq b then VI x y else false
def Gj (c:List Nat):List Nat->Bool
 |[]=>VI c []
 |b::bs=>if VI c (b::bs) then true else Gj c bs
def AO:List AV->St->T (AV×St):=fun args s=>match args with
 |[.str b,.str c]=>if b.length<4294967281 then .ret (.bool (.lit (Gj c b)),s) else .fail
 |_=> .fail
theorem agC: ∀{c s:List Nat},(∀b∈c,b<256)->(∀b∈s,b<256)->(c.map UInt8.ofNat).isPrefixOf (s.map UInt8.ofNat)=VI c s
 |[],_,_,_=>by simp [VI]
 |_::_,[],_,_=>by simp [VI]
 |a::x,b::y,hc,hs=>by have ih:=agC (c:=x) (s:=y) (fun z hz=>hc z (by simp [hz])) (fun z hz=>hs z (by simp [hz]));simp only [aJz,List.isPrefixOf,VI];rw [Vd (hc a (by simp)) (hs b (by simp)),ih];cases a.beq b<;>simp
theorem index_ge (sub:List UInt8): ∀l:List UInt8,-1<=Lib.index l sub
 |[]=>by unfold Lib.index; split<;>omega
 |b::l=>by
  have ih:=index_ge sub l;unfold Lib.index;split
  ·omega
  ·split<;>omega
theorem MX {c:List Nat} (hc: ∀b∈c,b<256): ∀{s:List Nat},(∀b∈s,b<256)->Lib.contains (s.map UInt8.ofNat) (c.map UInt8.ofNat)=Gj c s
 |[],_=>by cases c<;>simp [Lib.contains,Lib.index,Gj,VI]
 |b::bs,h=>by
  have ih:=MX hc (s:=bs) fun z hz=>h z (by simp [hz]);have hp:=agC hc h;simp only [aJz] at hp;unfold Lib.contains at *;simp only [aJz,Lib.index,Gj];rw [hp,<- ih];have hge:=index_ge (c.map UInt8.ofNat) (bs.map UInt8.ofNat);cases VI c (b::bs)
  ·simp only [aJw,if_false];by_cases h1:Lib.index (bs.map UInt8.ofNat) (c.map UInt8.ofNat)= -1
   ·rw [h1]; rfl
   ·rw [aJd (by simpa using h1)];rw [decide_eq_decide];omega
  ·simp
theorem Zl [Glob] {g:FuncId} (hg: ∀(ρ:Nat->Int) (ro:Nat->Prop) (w:World),Glob.ok ρ ro w.heap->∀s sub:ByteArray,s.size<4294967281->Calls P g #[.string s,.string sub] w fun e w'=>e= .returned (.bool (Lib.contains s.data.toList sub.data.toList))/\w'=w)
 (hrun: ∀(args:Array Value) (w:World),(callFunc g args).run P w= .ok (.enter g args) w):nU P g AO:=by
 intro aJc s E w vals u s' r hv hp hl;unfold AO at hl;split at hl
 ·rename_i b c;split at hl
  ·rename_i hlen;have:=aH hl;simp only [aJg] at this;obtain⟨rfl,rfl⟩:=this;simp only [bP,VR] at hv;obtain⟨u1,r1,rfl,⟨rfl,hbb⟩,u2,r2,rfl,⟨rfl,hcc⟩,rfl⟩:=hv;refine⟨rfl,hp,?_⟩;unfold vH vG;rw [hrun];refine Calls.mono (hg E.ρ E.ro w r.glob (cO b) (cO c) (by simpa [cO,ByteArray.size] using hlen)) fun e w' ⟨he,hw⟩=>?_;subst hw;refine⟨_,he,E,Stp.refl _ _ _,r,?_⟩;simp only [VR,SB.den];have h2: ∀l:List Nat,(cO l).data.toList=l.map UInt8.ofNat:=by intro l; simp [cO]
   rw [h2,h2,MX hcc hbb]
  ·simp [T.leaf] at hl
 ·simp [T.leaf] at hl
end
end
end Go.As
end
section
namespace Go.As
noncomputable section
structure Ld where
 m:Nat
 k:Kind
 st:Nat
 rd:List Nat
structure ZJ where
 is:List Ld
 nE:Nat
 rs:List (Nat×List Nat)
def abV:Kind->Kind->Bool
 | .pa,.pa=>true
 | .e,.e=>true
 | .r,.r=>true
 |_,_=>false
def FK:List Nat->List Nat->Bool
 |[],[]=>true
 |a::x,b::y=>Nat.beq a b&&FK x y
 |_,_=>false
def Jg:List Item->List Ld->Bool
 |[],[]=>true
 |x::xs,d::ds=>Nat.beq x.m d.m&&abV x.k d.k&&Nat.beq x.st d.st&&FK x.rd d.rd&&Jg xs ds
 |_,_=>false
def Je:List (Item×List Nat)->List (Nat×List Nat)->Bool
 |[],[]=>true
 |(x,ks)::xs,(i,js)::ys=>Nat.beq x.i i&&FK ks js&&Je xs ys
 |_,_=>false
def IZ:Nat->List Oper->List Ld->List Item
 |i,o::os,d::ds=> ⟨i,o,d.m,d.k,d.st,d.rd⟩ ::IZ (i+1) os ds
 |_,_,_=>[]
def ajR (is:List Item):List (Nat×List Nat)->List (Item×List Nat)
 |[]=>[]
 |(i,ks)::r=>match iD is i with
  |some x=>(x,ks)::ajR is r
  |none=>ajR is r
def statOf (all:List Oper) (H:ZJ):Stat:=⟨IZ 0 all H.is,H.nE,ajR (IZ 0 all H.is) H.rs⟩
def Dc (tt:TT) (all:List Oper) (H:ZJ):Bool:=match stat tt all with
 |none=>false
 |some q=>Jg q.is H.is&&Nat.beq q.nE H.nE&&Je q.rs H.rs
theorem akO {a b:Kind} (h:abV a b=true):a=b:=by cases a<;>cases b<;>simp [abV] at h<;>rfl
theorem Jm: ∀{a b:List Nat},FK a b=true->a=b
 |[],[],_=>rfl
 |[],_::_,h=>by simp [FK] at h
 |_::_,[],h=>by simp [FK] at h
 |a::x,b::y,h=>by simp only [FK,aJh] at h;rw [aJj h.1,Jm h.2]
theorem TW {tt:TT} {all:List Oper} {ms:List Nat}: ∀{os:List Oper} {i n:Nat} {ds:List Ld},Jg (items tt all ms os i n) ds=true->items tt all ms os i n=IZ i os ds
 |[],i,n,ds,h=>by cases ds<;>simp [items,Jg,IZ] at *
 |o::os,i,n,ds,h=>by
  cases ds with
  |nil=>simp [items,Jg] at h
  |cons d ds=> simp only [items,Jg,aJh] at h;obtain⟨⟨⟨⟨h1,h2⟩,h3⟩,h4⟩,h5⟩:=h;have ih:=TW h5;simp only [items,IZ];rw [ih,aJj h1,akO h2,aJj h3,Jm h4]
theorem agA {is:List Item}: ∀{xs:List (Item×List Nat)} {ys:List (Nat×List Nat)},(∀p∈xs,iD is p.1.i=some p.1)->Je xs ys=true->ajR is ys=xs
 |[],[],_,_=>rfl
 |[],_::_,_,h=>by simp [Je] at h
 |_::_,[],_,h=>by simp [Je] at h
 |(x,ks)::xs,(i,js)::ys,hm,h=>by simp only [Je,aJh] at h;have h1:=hm (x,ks) (by simp);simp only [ajR];rw [<- aJj h.1.1,h1,<- Jm h.1.2,agA (fun p hp=>hm p (by simp [hp])) h.2]
theorem XC: ∀{i:Nat} {os:List Oper} {ds:List Ld} {x:Item},x∈IZ i os ds->i<=x.i/\iD (IZ i os ds) (x.i-i)=some x
 |_,[],_,_,h=>by simp [IZ] at h
 |_,_::_,[],_,h=>by simp [IZ] at h
 |i,o::os,d::ds,x,h=>by
  simp only [IZ,aJq] at h ⊢;rcases h with rfl|h
  ·simp [iD]
  ·obtain⟨h1,h2⟩:=XC h;refine⟨by omega,?_⟩;have:x.i-i=(x.i-(i+1))+1:=by omega
   rw [this];exact h2
theorem Jy {tt:TT} {all:List Oper} {H:ZJ} (h:Dc tt all H=true):stat tt all=some (statOf all H):=by
 unfold Dc at h;split at h
 ·simp at h
 ·rename_i q hq;rw [hq];simp only [aJh] at h;obtain⟨⟨h1,h2⟩,h3⟩:=h;have hq':=hq;unfold stat at hq';simp only at hq';split at hq'
  ·simp only [aJf] at hq';subst hq';have e1:=TW h1;simp only at h2 h3
   have e3:ajR (IZ 0 all H.is) H.rs=_:=agA (is:=IZ 0 all H.is) (by
    intro p hp;simp only [aJE,aKh] at hp;obtain⟨x,⟨hx,_⟩,rfl⟩:=hp;rw [e1] at hx;have:=(XC hx).2
    simpa using this) h3
   unfold statOf;rw [e3,<- aJj h2,<- e1]
  ·simp at hq'
end
end Go.As
end

import Derived.Lib.Bytealg
import Derived.Lib.IndexMore
import Derived.Test.YtoihjjgkpialoaaGreatDoorAsZF0
set_option linter.unusedSectionVars false
set_option linter.unusedVariables false
set_option linter.unusedSimpArgs false
section
namespace Go.As
section
variable {P:Program} {E:En} {w:World}
theorem Rd.part {ro:Nat->Prop} {h:Array Obj} {t:Nat} {d:D} {b o n cap l k:Nat} (r:Rd ro h (.sl t) d (.slice (some ⟨b,o,none⟩) n cap)) (hl:l<=k) (hk:k<=n) (hn:n<=cap) :
 Rd ro h (.sl t) (fZ d ((d.l.take k).drop l)) (.slice (some (if cap=l then⟨b,o,none⟩ else⟨b,o+l*(rowOf t).es,none⟩)) (k-l) (cap-l)):=by
 by_cases h0:k-l=0
 ·have:(d.l.take k).drop l= []:=by
   apply List.drop_eq_nil_of_le
   grind
  have V:d≠.i 1:=by
   intro q
   grind [JE]
  rw [this,h0];simp only [fZ];rw [af V];exact .xZ _ _ _
 ·rw [af J]
  have jK:(d.l.take k).drop l≠[]:=by
   intro q;have:=congrArg List.length q;obtain⟨x,rN,hv,_⟩:=r.slice
   grind
  rw [BI jK];generalize hc:CK.sl t=c at r;generalize hv:Value.slice (some ⟨b,o,none⟩) n cap=v at r
  cases r with
  |int k n=>simp at hc
  |bool b=>simp at hc
  |str s=>simp at hc
  |nil t=>simp at hv
  |xZ t a cap=>
   grind
  |one t' c b' o' rN ds f hr eM hb U Z=>
   simp only [CK.sl.injEq] at hc;subst hc;simp only [Value.slice.injEq,ah,Addr.mk.injEq] at hv;obtain⟨⟨rfl,rfl,_⟩,rfl,rfl⟩:=hv;rw [bz];have hlen:((ds.take k).drop l).length=k-l:=by rw [bo,a8]; omega
   have yH: ∀i d,((ds.take k).drop l)[i]?=some d->ds[l+i]?=some d:=by
    intro i d V
    grind
   rw [<- hlen];refine .one t c b (o+l*(rowOf t).es) (cap-l) ((ds.take k).drop l) (fun i=>f (l+i)) hr (by rw [hlen]; omega) hb ?_ ?_
   ·intro i d V;have:=U (l+i) d (yH i d V);rw [hr,show o+l*(Row.one c).es+i=o+(l+i) by simp only [Row.es]; omega]
    grind
   grind
  |many t' cs b' o' rN rows f hr eM hb hll U Z=>
   simp only [CK.sl.injEq] at hc;subst hc;simp only [Value.slice.injEq,ah,Addr.mk.injEq] at hv;obtain⟨⟨rfl,rfl,_⟩,rfl,rfl⟩:=hv;rw [bz];have hlen:((rows.take k).drop l).length=k-l:=by rw [bo,a8]; omega
   have yH: ∀i d,((rows.take k).drop l)[i]?=some d->rows[l+i]?=some d:=by
    intro i d V
    grind
   rw [<- hlen,<- asr,<- asE];refine .many t cs b (o+l*(rowOf t).es) (cap-l) ((rows.take k).drop l) (fun i=>f (l+i)) hr (by rw [hlen]; omega) hb (fun r hrm=>hll r (arx (arv hrm))) ?_ ?_
   ·intro i r j d hi hj;have:=U (l+i) r j d (yH i r hi) hj;rw [hr,show o+l*(Row.many cs).es+i*cs.length+j=o+(l+i)*cs.length+j by simp only [Row.es,arK]; omega]
    grind
   grind
theorem Rd.am6 {ro:Nat->Prop} {h:Array Obj} {t:Nat} {d:D} {x:Option Addr} {n cap l k:Nat} (r:Rd ro h (.sl t) d (.slice x n cap)) (hl:l<=k) (hk:k<=n) (hn:n<=cap) :
 Rd ro h (.sl t) (fZ d ((d.l.take k).drop l)) (.slice (match x with |some a=>some (if cap=l then a else a.add (l*(rowOf t).es))|none=>none) (k-l) (cap-l)):=by
 have Y:(∃b o,x=some ⟨b,o,none⟩)\/(d= .i 1/\x=none/\n=0/\cap=0)\/(d= .i 2/\n=0/\∃a,x=some a):=by
  generalize hc:CK.sl t=c at r;generalize hv:Value.slice x n cap=v at r
  cases r with
  |int k n=>simp at hc
  |bool b=>simp at hc
  |str s=>simp at hc
  |nil t=>simp only [Value.slice.injEq] at hv; exact .inr (.inl ⟨rfl,hv.1,hv.2.1,hv.2.2⟩)
  |xZ t a cap=>simp only [Value.slice.injEq] at hv; exact .inr (.inr ⟨rfl,hv.2.1,a,hv.1⟩)
  |one t' c b' o' rN ds f hr eM hb U Z=>simp only [Value.slice.injEq] at hv; exact .inl ⟨_,_,hv.1⟩
  |many t' cs b' o' rN rows f hr eM hb hll U Z=>simp only [Value.slice.injEq] at hv; exact .inl ⟨_,_,hv.1⟩
 rcases Y with ⟨b,o,rfl⟩|⟨rfl,rfl,rfl,rfl⟩|⟨rfl,rfl,a,rfl⟩
 ·have:=r.part hl hk hn;simp only [fL]
  grind
 ·obtain rfl:k=0:=J
  obtain rfl:l=0:=J
  exact .nil _
 ·obtain rfl:k=0:=J
  obtain rfl:l=0:=J
  exact .xZ _ _ _
theorem acn (l:List D):dL l≠.i 1:=by cases l<;>simp [dL]
theorem Rd.akM {ro:Nat->Prop} {h:Array Obj} {t:Nat} {d:D} {x:Option Addr} {n cap:Nat} (r:Rd ro h (.sl t) d (.slice x n cap)):Rd ro h (.sl t) (fZ d []) (.slice x 0 0):=by
 generalize hc:CK.sl t=c at r;generalize hv:Value.slice x n cap=v at r
 cases r with
 |int k n=>simp at hc
 |bool b=>simp at hc
 |str s=>simp at hc
 |nil t=> simp only [Value.slice.injEq] at hv;obtain⟨rfl,_,_⟩:=hv;exact .nil _
 |xZ t a cap=> simp only [Value.slice.injEq] at hv;obtain⟨rfl,_,_⟩:=hv;exact .xZ _ _ _
 |one t' c b' o' rN ds f hr eM hb U Z=> simp only [Value.slice.injEq] at hv;obtain⟨rfl,_,_⟩:=hv;rw [qV (acn _)];exact .xZ _ _ _
 |many t' cs b' o' rN rows f hr eM hb hll U Z=> simp only [Value.slice.injEq] at hv;obtain⟨rfl,_,_⟩:=hv;rw [qV (acn _)];exact .xZ _ _ _
theorem S5 [bS] {tt:TT} (db:fj P tt) {s s':St} (hp:cD E.ρ s.pc) {ty t:Nat} {e:W} {lo hi mx:Option AV} {Am hi' mx':Option Value} {v:AV} {u:Value} (Y:VR E w.heap (.fk e t) u)
 (qC:ij E w.heap lo Am) (Aq:ij E w.heap hi hi') (zS:ij E w.heap mx mx') (h:(Mh tt s ty t e lo hi mx).leaf E.ρ=some (v,s')) :
 s'.bH=s.bH/\s'.h=s.h/\cD E.ρ s'.pc/\∃r,(Instr.sliceAt ty u Am hi' mx').run P w= .ok r w/\VR E w.heap v r:=by
 unfold Mh at h;split at h
 ·rename_i m;split at h
  ·rename_i hm;split at h
   ·simp [T.leaf] at h
   ·rename_i z hz;split at h
    ·split at h
     ·rename_i hv;split at h
      ·rename_i hh;have:=bC h;simp only [ak] at this;obtain⟨rfl,rfl⟩:=this;refine⟨rfl,rfl,hp,?_⟩;obtain⟨el,ie,hu,mL,rfl⟩:=oT db hz;have iY:=eV (db el ie mL);simp only [VR] at Y;obtain⟨x,cap,rfl,lH⟩:=Y.slice
       have zb: ∀(a:AV),ET a=true->∀d y,pr (some a) d y=some 0:=by
        intro a ha d y;unfold ET at ha;unfold pr;split at ha
        ·rename_i n hn;have:=yf ha;subst this;simp only [hn];rw [ag (arZ y)]
        ·simp at ha
       obtain⟨e1,e2⟩:=gK (P:=P) (w:=w) (isSlice:=true) (len:=(dec (e.den E.ρ)).l.length) (cap:=cap) (m0:=cap) (d:=0) (m:=0) (h0:=0) (h:=0) (l:=0) qC Aq zS (fun _=>rfl) (.inr ⟨m,rfl,zb m hm _ _,ax _⟩) (zb hv hh _ _) ⟨fun q=>by simp at q,fun _=>rfl⟩ (by simp [pr]);refine⟨.slice x 0 0,?_,?_⟩
       rotate_left
       ·simp only [VR];refine⟨⟨x,rfl⟩,?_⟩;simp only [W.den,gT.den,bA];exact Y.akM
       cases x with
       |none=>simp [Instr.sliceAt,run_underlying hu,Instr.slice,e1,iY]
       |some a=>simp [Instr.sliceAt,run_underlying hu,Instr.slice,e1,iY]
      ·simp [T.leaf] at h
     ·simp [T.leaf] at h
    ·simp [T.leaf] at h
  ·simp [T.leaf] at h
 ·simp only [ij] at zS;subst zS;split at h
  ·simp [T.leaf] at h
  ·rename_i z hz;split at h
   ·rename_i me;obtain⟨el,ie,hu,mL,rfl⟩:=oT db hz;have iY:=eV (db el ie mL);simp only [VR] at Y;obtain⟨x,cap,rfl,lH⟩:=Y.slice
    have fin: ∀(l k:Nat) (e':W) (YF LP:Option AV),ij E w.heap YF Am->ij E w.heap LP hi'->pr LP (dec (e.den E.ρ)).l.length (dec (e.den E.ρ)).l.length=some k->pr YF 0 k=some l->dec (e'.den E.ρ)=fZ (dec (e.den E.ρ)) (((dec (e.den E.ρ)).l.take k).drop l)->
     ∃r,(Instr.sliceAt ty (.slice x (dec (e.den E.ρ)).l.length cap) Am hi' none).run P w= .ok r w/\VR E w.heap (.fk e' t) r:=by
     intro l k e' YF LP U Z h3 h4 h5;obtain⟨e1,e2⟩:=gK (P:=P) (w:=w) (isSlice:=true) (len:=(dec (e.den E.ρ)).l.length) (cap:=cap) (m0:=cap) (d:=0) (m:=cap) U Z (mx:=none) (mx':=none) (by simp [ij]) ad (.inl ⟨rfl,rfl,ax _⟩) h3 ⟨fun _=>lH,ad⟩ h4;have hk:=mg h3;have XE:=Y.am6 e2 hk lH;refine⟨_,?_,by simp only [VR,h5]; exact XE⟩
     cases x with
     |none=>simp [Instr.sliceAt,run_underlying hu,Instr.slice,e1,iY]
     |some a=>simp [Instr.sliceAt,run_underlying hu,Instr.slice,e1,iY,me]<;>split<;>rfl
    have lit: ∀(k:IntKind) (n:Nat) (q:W) (o:Option Value),q.den E.ρ=(n:Int)->ij E w.heap (some (.int k q)) o->ij E w.heap (some (.int k (.lit (Int.ofNat n)))) o:=by intro k n q o hq ho;obtain⟨y,rfl,hy⟩:=ho;refine⟨y,rfl,?_⟩;simp only [VR,W.den] at hy ⊢;rw [hy,hq];rfl
    have bl: ∀(k:IntKind) (n d y:Nat),n<=y->pr (some (.int k (.lit (Int.ofNat n)))) d y=some n:=by intro k n d y hn;simp [pr,lF,hn]
    split at h
    ·
     simp only [ij] at Aq;subst Aq;split at h
     ·rename_i kl ql;obtain⟨j3,jH,U⟩:=du hp h;split at U
      ·simp [T.leaf] at U
      ·rename_i t1;obtain⟨qA,pI,Z⟩:=du (s:={ s with pc:=j3 }) jH U;split at Z
       ·simp [T.leaf] at Z
       ·rename_i t2;have:=bC Z;simp only [ak] at this;obtain⟨rfl,rfl⟩:=this;rw [eA,decide_eq_false_iff_not] at t1 t2;rw [cW] at t2;simp only [W.den,ar7] at t1 t2;obtain⟨l,hl⟩ : ∃l:Nat,ql.den E.ρ=(l:Int):=⟨(ql.den E.ρ).toNat,J⟩;refine⟨rfl,rfl,pI,fin l (dec (e.den E.ρ)).l.length _ _ none (lit kl l ql Am hl qC) (by simp [ij]) (by simp [pr]) (bl _ _ _ _ J) ?_⟩;simp only [W.den,gT.den,bA,hl,aW,ast]
     ·simp [T.leaf] at h
    ·rename_i kh qh;obtain⟨j3,jH,U⟩:=du hp h;split at U
     ·simp [T.leaf] at U
     ·rename_i t1;rw [eA,decide_eq_false_iff_not,cW] at t1;split at U
      ·simp only [ij] at qC;subst qC;obtain⟨qA,pI,Z⟩:=du (s:={ s with pc:=j3 }) jH U;split at Z
       ·simp [T.leaf] at Z
       ·rename_i t2;have:=bC Z;simp only [ak] at this;obtain⟨rfl,rfl⟩:=this;rw [eA,decide_eq_false_iff_not] at t2;simp only [W.den,ar7] at t2;obtain⟨k,hk⟩ : ∃k:Nat,qh.den E.ρ=(k:Int):=⟨(qh.den E.ρ).toNat,J⟩;refine⟨rfl,rfl,pI,fin 0 k _ none _ (by simp [ij]) (lit kh k qh hi' hk Aq) (bl _ _ _ _ J) (by simp [pr]) ?_⟩;simp only [W.den,gT.den,bA,hk,aW,arC]
      ·rename_i kl ql;obtain⟨qA,pI,Z⟩:=du (s:={ s with pc:=j3 }) jH U;split at Z
       ·simp [T.leaf] at Z
       ·rename_i t2;obtain⟨pc3,OC,h3⟩:=du (s:={ s with pc:=qA }) pI Z;split at h3
        ·simp [T.leaf] at h3
        ·rename_i t3;have:=bC h3;simp only [ak] at this;obtain⟨rfl,rfl⟩:=this;rw [eA,decide_eq_false_iff_not] at t2 t3;simp only [W.den,ar7] at t2 t3;obtain⟨l,hl⟩ : ∃l:Nat,ql.den E.ρ=(l:Int):=⟨(ql.den E.ρ).toNat,J⟩;obtain⟨k,hk⟩ : ∃k:Nat,qh.den E.ρ=(k:Int):=⟨(qh.den E.ρ).toNat,J⟩;refine⟨rfl,rfl,OC,fin l k _ _ _ (lit kl l ql Am hl qC) (lit kh k qh hi' hk Aq) (bl _ _ _ _ J) (bl _ _ _ _ J) ?_⟩;simp only [W.den,gT.den,bA,hl,hk,aW,bB];exact Ae fun q=>by rw [q]; simp [D.l]
      ·simp [T.leaf] at U
    ·simp [T.leaf] at h
   ·simp [T.leaf] at h
end
theorem GN {e:W} (h:isZ e=true):e= .lit 0:=by
 unfold isZ at h
 grind [yf]
theorem qY (ρ:Nat->Int) (a b:W):(ua a b).den ρ=a.den ρ+b.den ρ:=by
 unfold ua;split
 ·rename_i h;rw [GN h];simp only [W.den,Int.zero_add]
 ·rfl
theorem WU (ρ:Nat->Int) (a b:W):(FR a b).den ρ=a.den ρ-b.den ρ:=by
 unfold FR;split
 ·rename_i h;rw [GN h];simp only [W.den,Int.sub_zero]
 ·rfl
theorem Gj {ρ:Nat->Int} {e lo n:W} {l k:Nat} (hl:lo.den ρ=(l:Int)) (hn:n.den ρ=(k:Int)) :
 dec ((Lo e lo n).den ρ)=fZ (dec (e.den ρ)) (((dec (e.den ρ)).l.take (l+k)).drop l):=by
 unfold Lo;split
 ·rename_i h;have h:=GN h;subst h;simp only [W.den] at hl;have:l=0:=J
  subst this;simp only [W.den,gT.den,bA,hn,aW,aK,arC]
 ·have Z:((l:Int)+(k:Int)).toNat=l+k:=J
  simp only [W.den,gT.den,bA,hl,hn,Z,aW,bB]
  grind [Ae,D.l]
theorem CH {α:Type} {ρ:Nat->Int} {e lo n:W} {s:St} {k:St->T α} {x:α} (hp:cD ρ s.pc) (h:(CI e lo n s k).leaf ρ=some x) :
 ∃fU,cD ρ fU/\0<=lo.den ρ/\0<=n.den ρ/\lo.den ρ+n.den ρ<=((dec (e.den ρ)).l.length:Int)/\(k { s with pc:=fU }).leaf ρ=some x:=by
 unfold CI at h;obtain⟨j3,jH,U⟩:=du hp h;split at U
 ·grind [T.leaf]
 ·rename_i G5;obtain⟨qA,pI,Z⟩:=du (s:={ s with pc:=j3 }) jH U;split at Z
  ·grind [T.leaf]
  ·rename_i EF;obtain⟨pc3,OC,h3⟩:=du (s:={ s with pc:=qA }) pI Z;split at h3
   ·grind [T.leaf]
   ·rename_i hb3;rw [eA,decide_eq_false_iff_not] at G5 EF hb3;rw [cW,qY] at hb3;simp only [W.den] at G5 EF
    grind
theorem uo {h:Hp} {id t:Nat} {e:W} {ty:TypeId} (hv:IM h id t=some (e,ty)):h.get id=some (.vec e t ty []):=by
 unfold IM at hv;split at hv
 ·rename_i o ho;split at hv
  ·split at hv
   ·split at hv
    all_goals simp_all
   grind
  grind
 grind
theorem Rd.amX {ro:Nat->Prop} {h:Array Obj} {t:Nat} {d:D} {a:Addr} {n cap rN:Nat} (r:Rd ro h (.sl t) d (.slice (some a) n cap)) (hc:n<=rN):Rd ro h (.sl t) d (.slice (some a) n rN):=by
 generalize hk:CK.sl t=c at r;generalize hv:Value.slice (some a) n cap=v at r
 cases r with
 |int k n=>simp at hk
 |bool b=>simp at hk
 |str s=>simp at hk
 |nil t=>simp at hv
 |xZ t a cap=> simp only [CK.sl.injEq] at hk;simp only [Value.slice.injEq,ah] at hv;obtain⟨rfl,rfl,rfl⟩:=hv;subst hk;exact .xZ _ _ _
 |one t' c b' o' rN ds f hr eM hb U Z=> simp only [CK.sl.injEq] at hk;simp only [Value.slice.injEq,ah] at hv;obtain⟨rfl,rfl,rfl⟩:=hv;subst hk;exact .one _ _ _ _ _ _ _ hr hc hb U Z
 |many t' cs b' o' rN rows f hr eM hb hll U Z=> simp only [CK.sl.injEq] at hk;simp only [Value.slice.injEq,ah] at hv;obtain⟨rfl,rfl,rfl⟩:=hv;subst hk;exact .many _ _ _ _ _ _ _ hr hc hb hll U Z
section
variable {P:Program} {E:En} {w:World}
theorem Zz {h:Array Obj} {id:Nat} {e:W} {t:Nat} {ty:TypeId} {ro:Nat->Prop} (pH: ∀b,E.ro b->ro b) (hb:ro (E.θ id).1) (ho:OR E h id (.vec e t ty [])) {l k cap:Nat} {a:Addr} (hk:l+k<=(dec (e.den E.ρ)).l.length) (lH:k<=cap)
 (hc:fJ E id (l*(rowOf t).es) k a cap (.rest (rowOf t).es)):Rd ro h (.sl t) (fZ (dec (e.den E.ρ)) (((dec (e.den E.ρ)).l.take (l+k)).drop l)) (.slice (some a) k cap):=by
 have hw:=(OR.rK.1 ho).1.2
 have jK:dec (e.den E.ρ)≠.i 1:=by intro q;have:=hw.2.2;rw [q] at this;exact this rfl
 rcases ar9 k with h0|nz
 ·subst h0
  have:((dec (e.den E.ρ)).l.take (l+0)).drop l= []:=by
   grind
  rw [this,qV jK];exact .xZ _ _ _
 ·simp only [fJ] at hc
  obtain⟨rfl,_⟩ : a=⟨(E.θ id).1,(E.θ id).2+l*(rowOf t).es,none⟩/\l*(rowOf t).es+cap*(rowOf t).es=E.κ id:=by
   grind
  have r0:=Ug pH hb ho (k:=(dec (e.den E.ρ)).l.length) (cap:=(dec (e.den E.ρ)).l.length+l+1) (a:=⟨(E.θ id).1,(E.θ id).2,none⟩) rfl J (fun _=>rfl);have r1:=r0.part (l:=l) (k:=l+k) J hk J;rw [af J,show l+k-l=k by omega] at r1;exact r1.amX lH
structure PO [bS] (E:En) (w:World) (H:Hp) (E':En) (H':Hp):Prop where
 ρ:E'.ρ=E.ρ
 eI:fP E H w E' H' w
 rel:ca E' H' w
 sub:Sub H' H
theorem PO.refl [bS] {H:Hp} (r:ca E H w):PO E w H E H:=⟨rfl,fP.refl _ _ _,r,Sub.refl _⟩
theorem PO.trans [bS] {E1 E2:En} {H H1 H2:Hp} (a:PO E w H E1 H1) (b:PO E1 w H1 E2 H2):PO E w H E2 H2:=
 ⟨b.ρ.trans a.ρ,a.eI.trans b.eI,b.rel,a.sub.trans b.sub⟩
theorem VH [bS] {α:Type} {ρ:Nat->Int} {v:AV} {s:St} {k:AV->St->T α} {x:α} (hρ:E.ρ=ρ) (r:ca E s.h w) (hp:cD ρ s.pc) (h:(XR v s k).leaf ρ=some x) :
 ∃v' h' fU E',cD ρ fU/\PO E w s.h E' h'/\(∀u,VR E w.heap v u->VR E' w.heap v' u)/\(k v' { s with h:=h',pc:=fU }).leaf ρ=some x:=by
 unfold XR at h;split at h
 ·rename_i id lo n t;split at h
  ·rename_i e ty hv;have hl:=uo hv;obtain⟨fU,gQ,U,Z,h3,h4⟩:=CH hp h;obtain⟨hk,s1,r1⟩:=MF r hl;refine⟨_,_,fU,{ E with ro:=fun b=>E.ro b\/b=(E.θ id).1 },gQ,⟨rfl,s1,r1,Sub.drop _ _⟩,fun u hu=>?_,h4⟩;simp only [VR] at hu ⊢;obtain⟨hid,l,m,a,cap,q1,q2,rfl,q4,q5⟩:=hu;rw [Gj q1 q2];rw [hρ] at q1 q2;have hh:=Zz (E:=E) (ro:=fun b=>E.ro b\/b=(E.θ id).1) (fun _ h=> .inl h) (.inr rfl) (r.live id _ hl).2.1 (l:=l) (k:=m) (by rw [hρ]; omega) q4 q5;exact hh
  ·exact⟨_,_,s.pc,E,hp,PO.refl r,fun _ h=>h,h⟩
 ·cases hf:frz v s.h with
  |mk v' h'=> rw [hf] at h;obtain⟨E',q1,q2,q3,q4,q5⟩:=akF r hf;exact⟨v',h',s.pc,E',hp,⟨q1,q2,q3,q5⟩,q4,h⟩
theorem OS [bS] {α:Type} {ρ:Nat->Int}: ∀{vs:List AV} {s:St} {E:En} {k:List AV->St->T α} {x:α},E.ρ=ρ->ca E s.h w->cD ρ s.pc->(J1 vs s k).leaf ρ=some x->
 ∃PW h' fU E',cD ρ fU/\PO E w s.h E' h'/\(∀us,cL E w.heap vs us->cL E' w.heap PW us)/\(k PW { s with h:=h',pc:=fU }).leaf ρ=some x
 |[],s,E,k,x,hρ,r,hp,h=> ⟨[],s.h,s.pc,E,hp,PO.refl r,fun _ h=>h,h⟩
 |v::vs,s,E,k,x,hρ,r,hp,h=>by simp only [J1] at h;obtain⟨v1,U,j3,E1,jH,f1,q1,g1⟩:=VH hρ r hp h;obtain⟨Zw,Z,qA,E2,pI,f2,q2,g2⟩:=OS (s:={ s with h:=U,pc:=j3 }) (f1.ρ.trans hρ) f1.rel jH g1;refine⟨v1::Zw,Z,qA,E2,pI,f1.trans f2,fun us hu=>?_,g2⟩;rw [bX] at hu ⊢;obtain⟨u,iA,rfl,a,b⟩:=hu;exact⟨u,iA,rfl,VR.dv (f2.eI.keeps f1.rel) _ _ (q1 u a),q2 iA (cL.dv (f1.eI.keeps r) _ _ b)⟩
theorem AQ {ρ:Nat->Int} {i:Nat} {j:W} {cs:List AV}: ∀{pre:List (W×List AV)},eE ρ i (pre++ [(j,cs)])=match eE ρ i pre with |some c=>some c|none=>if j.den ρ=(i:Int) then some cs else none
 |[]=>rfl
 |(a,b)::pre=>by
  simp only [aM,eE];split
  ·rfl
  ·exact AQ
theorem adA (ρ:Nat->Int) (e j x:W):dec ((W.op .set e (gD (Cw j) x)).den ρ)=dL (dE (dec (e.den ρ)).l (j.den ρ) (dec (x.den ρ))):=by simp only [gD,W.den,gT.den,bA,mr,D.n]
theorem NN (ds:List D) (z:Int) (x:D) (n:Nat):(dE ds z x)[n]?=if z=(n:Int)/\n<ds.length then some x else ds[n]?:=by
 grind [dE]
theorem zi {ρ:Nat->Int} {E1 E2:En} {h:Array Obj} {r:Row} {pre:List (W×List AV)} {j:W} {cs:List AV} {X:D} (mono: ∀a us,cL E1 h a us->cL E2 h a us) (hX: ∀us,cL E1 h cs us->yL E2.ro h r X us) :
 ∀{L L':List D} {i:Nat} {us:List Value},L'.length=L.length->(∀n:Nat,L'[n]?=if j.den ρ=((i+n:Nat):Int)/\n<L.length then some X else L[n]?)->
  cL E1 h (bJ ρ r (pre++ [(j,cs)]) L i) us->cL E2 h (bJ ρ r pre L' i) us
 |[],[],i,us,_,_,hv=>by simp only [bJ,cL] at *; exact hv
 |[],_::_,_,_,hl,_,_=>by simp at hl
 |_::_,[],_,_,hl,_,_=>by simp at hl
 |d::L,d'::L',i,us,hl,hg,hv=>by
  simp only [bJ] at *;obtain⟨a,b,rfl,a1,a2⟩:=hv.split;have h0:=hg 0;simp only [aF,arA,aT] at h0;refine cL.append ?_ (zi mono hX (by simpa using hl) (fun n=>?_) a2)
  ·rw [AQ] at a1
   cases ho:eE ρ i pre with
   |some c=>
    grind
   |none=>
    rw [ho] at a1;simp only at a1 ⊢;by_cases hj:j.den ρ=(i:Int)
    ·rw [ag hj] at a1;rw [ag ⟨hj,J⟩] at h0;simp only [ah] at h0;subst h0;rw [gW];simp only [W.den,bA]
     grind
    grind
  ·have:=hg (n+1)
   grind
theorem adB {r:Row} {ds:List D} {z:Int} {x:D} (U: ∀d∈ds,rS r d) (Z:rS r x): ∀d∈dE ds z x,rS r d:=by
 intro d V;obtain⟨n,hn⟩:=asm.1 V
 grind [NN]
theorem adC {ds:List D} {z:Int} {x:D} (h:ds≠[]):dE ds z x≠[]:=by
 intro q
 grind [ej]
theorem N2 [bS] {α:Type} {ρ:Nat->Int} {t:Nat}: ∀{ov:List (W×List AV)} {e:W} {s:St} {E:En} {k:W->St->T α} {x:α} (pre:List (W×List AV)),E.ρ=ρ->ca E s.h w->cD ρ s.pc->xH (rowOf t) (dec (e.den ρ))->
 (Js t ov e s k).leaf ρ=some x->
 ∃e' h' fU E',cD ρ fU/\PO E w s.h E' h'/\xH (rowOf t) (dec (e'.den ρ))/\(dec (e'.den ρ)).l.length=(dec (e.den ρ)).l.length/\
  (∀us,cL E w.heap (bJ ρ (rowOf t) (pre++ov) (dec (e.den ρ)).l 0) us->cL E' w.heap (bJ ρ (rowOf t) pre (dec (e'.den ρ)).l 0) us)/\(k e' { s with h:=h',pc:=fU }).leaf ρ=some x
 |[],e,s,E,k,x,pre,hρ,r,hp,hw,h=> ⟨e,s.h,s.pc,E,hp,PO.refl r,hw,rfl,fun us hu=>by rw [bh] at hu; exact hu,h⟩
 |(j,cs)::ov,e,s,E,k,x,pre,hρ,r,hp,hw,h=>by
  simp only [Js] at h;obtain⟨e1,U,j3,E1,jH,f1,w1,l1,c1,g1⟩:=N2 (pre++ [(j,cs)]) hρ r hp hw h;obtain⟨cs2,Z,qA,E2,pI,f2,c2,g2⟩:=OS (s:={ s with h:=U,pc:=j3 }) (f1.ρ.trans hρ) f1.rel jH g1;split at g2
  ·rename_i y hy;have hρ2:E2.ρ=ρ:=f2.ρ.trans (f1.ρ.trans hρ);have hsd:=adA ρ e1 j y;refine⟨_,Z,qA,E2,pI,f1.trans f2,?_,?_,?_,g2⟩
   ·rw [hsd];exact⟨by rw [bz],by rw [bz]; exact adB w1.2.1 (vk hy),by rw [bz]; exact adC w1.2.2⟩
   ·grind [bz,ej]
   ·intro us hu;rw [hsd,bz];have hu1:=c1 us (by rw [bp]; exact hu);refine zi (j:=j) (cs:=cs) (X:=dec (y.den ρ)) (fun a us ha=>cL.dv (f2.eI.keeps f1.rel) _ _ ha) (fun us OB=>?_) (ej _ _ _) (fun n=>?_) hu1
    all_goals grind [vm,NN]
  grind [T.leaf]
theorem Xl {v:AV} {h:Hp} {id t:Nat} {e:W} {ov:List (W×List AV)} (hv:ajM v h=some (id,e,t,ov)): ∃ty,v= .rV id (eG e) t/\h.get id=some (.vec e t ty ov):=by
 unfold ajM at hv;split at hv
 ·split at hv
  ·rename_i o ho;split at hv
   ·split at hv
    ·grind
    ·split at hv
     ·rename_i ht;split at hv
      ·rename_i hn;have ht:=az ht
       grind [dy]
      grind
     grind
   grind
  grind
 grind
theorem VG [bS] {α:Type} {ρ:Nat->Int} {v:AV} {s:St} {k:AV->St->T α} {x:α} (hρ:E.ρ=ρ) (r:ca E s.h w) (hp:cD ρ s.pc) (h:(XQ v s k).leaf ρ=some x) :
 ∃v' h' fU E',cD ρ fU/\PO E w s.h E' h'/\(∀u,VR E w.heap v u->VR E' w.heap v' u)/\(k v' { s with h:=h',pc:=fU }).leaf ρ=some x:=by
 unfold XQ at h;split at h
 ·rename_i id e t ov hv;obtain⟨ty,rfl,hl⟩:=Xl hv;obtain⟨hid,ho,are⟩:=r.live id _ hl;have GV:=ho;simp only [OR] at GV;rw [hρ] at GV;obtain⟨⟨P5,yF⟩,arr,lo,hi,us,q1,q2,q3,q4,q5,q6,q7⟩:=GV;obtain⟨e',h',fU,E',gQ,f,w',l',c',g⟩:=N2 [] hρ r hp yF h;split at g
  ·rename_i o hg;have hg':=f.sub.get _ _ hg;rw [hl] at hg';simp only [ah] at hg';subst hg';obtain⟨hk,s1,r1⟩:=MF f.rel hg;have hρ':E'.ρ=ρ:=f.ρ.trans hρ;refine⟨_,_,fU,{ E' with ro:=fun b=>E'.ro b\/b=(E'.θ id).1 },gQ,⟨f.ρ,f.eI.trans s1,r1,f.sub.trans (Sub.drop _ _)⟩,fun u hu=>?_,g⟩;simp only [VR] at hu ⊢;obtain⟨_,m,a,cap,p1,rfl,p3,p4⟩:=hu;rw [cW,hρ] at p1;have hθ:=f.eI.θ id hid;have hκ:=f.eI.κ id hid
   have hO:OR E' w.heap id (.vec e' t ty []):=by simp only [OR];rw [hρ',hθ,hκ];have hv':=c' us (by rw [au]; exact q2);refine⟨⟨fun p hp=>by simp at hp,w'⟩,arr,lo,hi,us,q1,hv',q3,?_,q5,q6,q7⟩;have e1:=hv'.length;have e2:=q2.length;omega
   have hh:=Zy (E:=E') (ro:=fun b=>E'.ro b\/b=(E'.θ id).1) (fun _ h=> .inl h) (.inr rfl) hO (k:=m) (cap:=cap) (a:=a) (by rw [hρ',l']; omega) p3 (by
    simp only [fJ] at p4 ⊢;rw [hθ,hκ]
    exact p4)
   exact hh
  grind [T.leaf]
 grind [VH]
theorem rC [bS] {α:Type} {ρ:Nat->Int}: ∀{vs:List AV} {s:St} {E:En} {k:List AV->St->T α} {x:α},E.ρ=ρ->ca E s.h w->cD ρ s.pc->(zd vs s k).leaf ρ=some x->
 ∃PW h' fU E',cD ρ fU/\PO E w s.h E' h'/\(∀us,cL E w.heap vs us->cL E' w.heap PW us)/\(k PW { s with h:=h',pc:=fU }).leaf ρ=some x
 |[],s,E,k,x,hρ,r,hp,h=> ⟨[],s.h,s.pc,E,hp,PO.refl r,fun _ h=>h,h⟩
 |v::vs,s,E,k,x,hρ,r,hp,h=>by simp only [zd] at h;obtain⟨v1,U,j3,E1,jH,f1,q1,g1⟩:=VG hρ r hp h;obtain⟨Zw,Z,qA,E2,pI,f2,q2,g2⟩:=rC (s:={ s with h:=U,pc:=j3 }) (f1.ρ.trans hρ) f1.rel jH g1;refine⟨v1::Zw,Z,qA,E2,pI,f1.trans f2,fun us hu=>?_,g2⟩;rw [bX] at hu ⊢;obtain⟨u,iA,rfl,a,b⟩:=hu;exact⟨u,iA,rfl,VR.dv (f2.eI.keeps f1.rel) _ _ (q1 u a),q2 iA (cL.dv (f1.eI.keeps r) _ _ b)⟩
end
section
variable {P:Program} {E:En} {w:World}
theorem mq: ∀{cs vs l:List AV} {o:Nat},ez cs o vs=some l->l.length=cs.length
 |cs,[],l,0,h=>by simp only [ez,ah] at h; rw [h]
 |[],v::vs,l,0,h=>by simp [ez] at h
 |c::cs,v::vs,l,0,h=>by
  simp only [ez] at h;split at h
  ·rename_i l' hl;simp only [ah] at h;subst h;simp [mq hl]
  grind
 |[],vs,l,o+1,h=>by simp [ez] at h
 |c::cs,vs,l,o+1,h=>by
  simp only [ez] at h;split at h
  ·rename_i l' hl;simp only [ah] at h;subst h;simp [mq hl]
  grind
theorem pz: ∀{cs vs l:List AV} {o:Nat} (m:List AV),ez cs o vs=some l->ez (cs++m) o vs=some (l++m)
 |cs,[],l,0,m,h=>by simp only [ez,ah] at h ⊢; rw [h]
 |[],v::vs,l,0,m,h=>by simp [ez] at h
 |c::cs,v::vs,l,0,m,h=>by
  simp only [ez,aM] at h ⊢;split at h
  ·rename_i l' hl;simp only [ah] at h;subst h;rw [pz m hl];rfl
  grind
 |[],vs,l,o+1,m,h=>by simp [ez] at h
 |c::cs,vs,l,o+1,m,h=>by
  simp only [ez,aM] at h ⊢;split at h
  ·rename_i l' hl;simp only [ah] at h;subst h;rw [pz m hl];rfl
  grind
theorem uu: ∀{cs vs l:List AV} {o:Nat} (p:List AV),ez cs o vs=some l->ez (p++cs) (p.length+o) vs=some (p++l)
 |cs,vs,l,o,[],h=>by simpa using h
 |cs,vs,l,o,x::p,h=>by have:=uu p h;rw [aM,aT,show p.length+1+o=(p.length+o)+1 by omega];simp only [ez,this,aM]
theorem tv: ∀{cs vs l:List AV} {o:Nat},ez cs o vs=some l->∀j:Nat,l[j]?=if o<=j/\j<o+vs.length then vs[j-o]? else cs[j]?
 |cs,[],l,0,h,j=>by
  simp only [ez,ah] at h
  grind
 |[],v::vs,l,0,h,j=>by simp [ez] at h
 |c::cs,v::vs,l,0,h,j=>by
  simp only [ez] at h;split at h
  ·rename_i l' hl;simp only [ah] at h;subst h
   cases j with
   |zero=>simp
   |succ j=>
    have:=tv hl j
    grind
  grind
 |[],vs,l,o+1,h,j=>by simp [ez] at h
 |c::cs,vs,l,o+1,h,j=>by
  simp only [ez] at h;split at h
  ·rename_i l' hl;simp only [ah] at h;subst h
   cases j with
   |zero=>rw [af J]; rfl
   |succ j=>
    have:=tv hl j
    grind
  grind
theorem BP (x:W): ∀(cs:List CK) (j k:Nat),(jX cs j x)[k]?=(cs[k]?).map fun c=>vn c (ly (j+k) x)
 |[],j,k=>by simp [jX]
 |c::cs,j,0=>by simp [jX]
 |c::cs,j,k+1=>by
  simp only [jX,aG,BP x cs (j+1) k]
  grind
theorem DH {ρ:Nat->Int} {ks:List CK}: ∀{vs:List AV} {off:Nat} {x x':W},setCells ks off vs x=some x'->off+vs.length<=(dec (x.den ρ)).l.length->
 (dec (x'.den ρ)).l.length=(dec (x.den ρ)).l.length/\(dec (x.den ρ)=dL (dec (x.den ρ)).l->dec (x'.den ρ)=dL (dec (x'.den ρ)).l)/\
 ∀j,(j<off\/off+vs.length<=j)/\(dec (x'.den ρ)).l[j]?=(dec (x.den ρ)).l[j]?\/∃c v a,off<=j/\vs[j-off]?=some v/\ks[j]?=some c/\oU c v=some a/\(dec (x'.den ρ)).l[j]?=some (dec (a.den ρ))
 |[],off,x,x',h,_=>by
  simp only [setCells,ah] at h
  grind
 |v::vs,off,x,x',h,hle=>by
  simp only [setCells] at h;split at h
  ·rename_i c hc;split at h
   ·rename_i a ha;simp only [aT] at hle
    have hs:dec ((W.op .set x (gD (.fk (.i (Int.ofNat off))) a)).den ρ)=dL ((dec (x.den ρ)).l.set off (dec (a.den ρ))):=by simp only [gD,W.den,gT.den,bA,D.n];rfl
    obtain⟨U,Z,h3⟩:=DH (ρ:=ρ) h (by rw [hs,bz,asK]; omega);rw [hs,bz,asK] at U;rw [hs] at Z h3;simp only [bz] at Z h3;rw [dI] at hc
    grind
   grind
  grind
theorem eD.mk {ro:Nat->Prop} {h:Array Obj} {d:D}: ∀{cs:List CK} {j:Nat} {us:List Value},us.length=cs.length->(∀k c u,cs[k]?=some c->us[k]?=some u->jZ ro h c (d.V (j+k)) u)->eD ro h cs j d us
 |[],j,us,hl,_=>by
  simp only [eD]
  grind
 |c::cs,j,[],hl,_=>by simp at hl
 |c::cs,j,u::us,hl,hh=>by
  simp only [eD];refine⟨u,us,rfl,by simpa using hh 0 c u rfl rfl,eD.mk (by simpa using hl) fun k c' u' U Z=>?_⟩;have:=hh (k+1) c' u' (by simpa using U) (by simpa using Z)
  grind
theorem TG {r:Row} {e e' i:W} {off k:Nat} {vs:List AV} {x:D} (hc:MP r e i off vs=some e') (hi:i.den E.ρ=(k:Int)) (Y:(dec (e.den E.ρ)).l[k]?=some x) (yF:rS r x) (hle:off+vs.length<=r.es) :
 ∃x',dec (e'.den E.ρ)=dL ((dec (e.den E.ρ)).l.set k x')/\rS r x'/\∀(h:Array Obj) (iA:List Value),iA.length=r.es->(∀j v u,off<=j->vs[j-off]?=some v->iA[j]?=some u->VR E h v u)->
  (∀j a u,(j<off\/off+vs.length<=j)->(iE r (.op .at e i))[j]?=some a->iA[j]?=some u->VR E h a u)->yL E.ro h r x' iA:=by
 unfold MP at hc;split at hc
 ·rename_i c;split at hc
  ·split at hc
   ·rename_i v;split at hc
    ·rename_i a ha;simp only [ah] at hc;subst hc;refine⟨dec (a.den E.ρ),?_,qW ha,?_⟩
     ·simp only [gD,W.den,gT.den,bA,mr,D.n,hi,pA]
     ·intro h iA U Z _
      cases iA with
      |nil=>simp [Row.es] at U
      |cons y ys=>
       have:ys= []:=by
        grind [Row.es]
       subst this;exact⟨y,rfl,nv (Z 0 v y (ax _) rfl rfl) ha⟩
    grind
   grind
  grind
 ·rename_i ks;split at hc
  ·rename_i x' YJ;simp only [ah] at hc;subst hc;have gz:=Dr E.ρ e i hi Y;obtain⟨w1,w2,w3⟩:=yF;obtain⟨g1,g2,g3⟩:=DH (ρ:=E.ρ) YJ (by rw [gz,w2]; exact hle);rw [gz] at g1 g2 g3;refine⟨dec (x'.den E.ρ),?_,⟨g2 w1,by rw [g1,w2],?_⟩,?_⟩
   ·simp only [gD,W.den,gT.den,bA,mr,D.n,hi,pA]
   ·intro j c y hj hy;rcases g3 j with ⟨_,q2⟩|⟨c',v',a',_,_,q3,q4,q5⟩
    ·grind
    ·rw [q5] at hy;rw [hj] at q3;simp only [ah] at hy q3;subst hy q3;exact qW q4
   ·intro h iA U Z h3;show eD E.ro h ks 0 (dec (x'.den E.ρ)) iA;refine eD.mk U fun j c u hj hu=>?_;rw [aK];rcases g3 j with ⟨q1,q2⟩|⟨c',v',a',q1,q2,q3,q4,q5⟩
    ·have p2:=h3 j (vn c (ly j (.op .at e i))) u q1 (by simp only [iE,BP,hj,arB,aK]) hu;rw [qX,uz,gz] at p2;have:(dec (x'.den E.ρ)).V j=x.V j:=by simp only [D.V,q2]
     grind
    ·rw [hj] at q3;simp only [ah] at q3;subst q3;have:(dec (x'.den E.ρ)).V j=dec (a'.den E.ρ):=by simp only [D.V,q5,ay]
     rw [this];exact nv (Z j v' u q1 q2 hu) q4
  grind
theorem lL {ρ:Nat->Int} {r:Row} {ov rZ:List (W×List AV)}: ∀(ds:List D) (i:Nat),(∀j,i<=j->j<i+ds.length->eE ρ j ov=eE ρ j rZ)->bJ ρ r ov ds i=bJ ρ r rZ ds i
 |[],_,_=>rfl
 |d::ds,i,h=>by simp only [bJ];rw [h i (ax _) ad,lL ds (i+1) fun j U Z=>h j J (by simp only [aT]; omega)]
theorem Ge {ρ:Nat->Int} {pc:List (SB×Bool)} (hp:cD ρ pc) {i:W} {k:Nat} (hi:i.den ρ=(k:Int)) {mM:List AV} {r:Row} (X?:mM.length=r.es): ∀{ov rZ:List (W×List AV)},Jm pc i mM ov=some rZ->wI r ov->
 wI r rZ/\eE ρ k rZ=some mM/\∀j:Nat,j≠k->eE ρ j rZ=eE ρ j ov
 |[],rZ,h,_=>by simp [Jm] at h
 |(j,c)::l,rZ,h,ho=>by
  simp only [Jm] at h;split at h
  ·rename_i he;have he:=dy _ _ he;subst he;simp only [ah] at h;subst h;refine⟨?_,by simp [eE,hi],?_⟩
   ·intro p gQ;rcases aH.1 gQ with rfl|gQ
    ·grind
    ·exact ho p (by simp [gQ])
   ·intro m hm;simp only [eE,hi]
    grind
  ·split at h
   ·rename_i b V;split at h
    ·have V:=iz hp V;rw [jQ,beq_iff_eq,hi] at V;simp only [ah] at h;subst h;refine⟨?_,by simp [eE,V],?_⟩
     ·intro p gQ;rcases aH.1 gQ with rfl|gQ
      ·grind
      ·exact ho p (by simp [gQ])
     ·intro m hm;simp only [eE,<- V]
      grind
    split at h
    ·rename_i l' hl;simp only [ah] at h;subst h;have V:=iz hp V;rw [jQ,beq_eq_false_iff_ne,hi] at V;obtain⟨g1,g2,g3⟩:=Ge hp hi X? hl fun p gQ=>ho p (by simp [gQ]);refine⟨?_,?_,?_⟩
     ·intro p gQ;rcases aH.1 gQ with rfl|gQ
      ·exact ho _ ad
      ·exact g1 p gQ
     ·simp only [eE]
      grind
     ·intro m hm;simp only [eE]
      grind
    grind
   grind
theorem KC {ρ:Nat->Int} {pc:List (SB×Bool)} (hp:cD ρ pc) {i:W} {k:Nat} (hi:i.den ρ=(k:Int)): ∀{ov:List (W×List AV)},xG pc i ov=true->eE ρ k ov=none
 |[],_=>rfl
 |(j,c)::l,h=>by
  simp only [xG] at h;split at h
  ·rename_i V;have V:=iz hp V;rw [jQ,beq_eq_false_iff_ne,hi] at V;simp only [eE];rw [af (fun q=>V q.symm)];exact KC hp hi h
  grind
theorem OR.congr {h:Array Obj} {id:Nat} {a b:List AV} {ty:TypeId} (ho:OR E h id (.cells a ty)) (hl:b.length=a.length) (hv: ∀us,cL E h a us->cL E h b us):OR E h id (.cells b ty):=by
 simp only [OR] at ho ⊢
 grind
set_option maxHeartbeats 800000 in
theorem O4 [bS] {E1:En} {tt:TT} (db:fj P tt) {s s':St} (r1:ca E1 s.h w) (hp:cD E1.ρ s.pc) {ty id es:Nat} {i:W} {off:Nat} {one:Bool} {vs:List AV} {v':AV} {u x:Value} (Y:VR E1 w.heap (.BF id es i off) u)
 (P7:one=true->cL E1 w.heap vs x.cells.toList/\∀u∈x.cells.toList,u.oneCell'=true) (h:(Hj tt s ty id es i off one vs).leaf E1.ρ=some (v',s')) :
 s'.bH=s.bH/\cD E1.ρ s'.pc/\v'=AV.undef/\∃w' E',(Instr.storeAt ty u x).run P w= .ok () w'/\fP E1 s.h w E' s'.h w'/\ca E' s'.h w':=by
 unfold Hj at h;split at h
 ·rename_i o hl;split at h
  ·rename_i e t Cf ov;split at h
   ·rename_i ti iI;split at h
    ·rename_i j7;obtain⟨me,hvl,vQ⟩:=j7;obtain⟨pc0,hp0,t1,t2,h3⟩:=oY hp h;obtain⟨fU,gQ,h3⟩:=xO (s:={ s with pc:=pc0 }) hp0 h3;split at h3
     ·rename_i cs hc;split at h3
      ·rename_i mM hs;obtain⟨P4,V!⟩:=P7 vQ;have vP:=Y;simp only [VR] at vP;obtain⟨hid,k,hk,rfl⟩:=vP;obtain⟨rc,ho,yF⟩:=r1.rK hl;rw [cW] at t2;have gy:k<(dec (e.den E1.ρ)).l.length:=J
       have V:(dec (e.den E1.ρ)).l[k]?=some (dec (e.den E1.ρ)).l[k]:=aN gy;generalize hxk:(dec (e.den E1.ρ)).l[k]=xk at V;obtain⟨c1,c2⟩:=j8 (ρ:=E1.ρ) ho (j:=0) V;rw [aK] at c1;generalize aef:bJ E1.ρ (rowOf t) ov ((dec (e.den E1.ρ)).l.take k) 0=pre at c1 c2;generalize Vu:bJ E1.ρ (rowOf t) ov ((dec (e.den E1.ρ)).l.drop (k+1)) (k+1)=post at c1
       have jt:(∀h us,cL E1 h (match eE E1.ρ k ov with |some cs=>cs|none=>iE (rowOf t) (.fk xk)) us↔cL E1 h cs us)/\cs.length=(rowOf t).es:=by
        rcases pB gQ hk hc with g|⟨g,rfl⟩
        ·rw [g];obtain⟨p,p1,p2,_⟩:=lQ g;have:=ho p p1;rw [p2] at this;exact⟨fun _ _=>Iff.rfl,this⟩
        ·rw [g];refine⟨fun h us=>zD ?_,iM _ _⟩;rw [Dr E1.ρ e i hk V];simp only [W.den,bA]
       obtain⟨hrv,B5⟩:=jt;have LR:mM.length=(rowOf t).es:=by rw [mq hs,B5]
       have hor:OR E1 w.heap id (.cells (pre++(cs++post)) Cf):=by
        have:=(rc.live id _ (by rw [Hp.bV,ag rfl])).2.1;unfold cU at this;rw [c1] at this;refine OR.congr this ?_ ?_
        ·simp only [bc,B5];congr 2;split
         ·rename_i cs0 h0;obtain⟨p,p1,p2,_⟩:=lQ h0;have:=ho p p1;rw [p2] at this;exact this.symm
         ·rw [iM]
        ·intro us q2;obtain⟨a,b,rfl,a1,a2⟩:=q2.split;obtain⟨a',b',rfl,b1,b2⟩:=a2.split;exact a1.append (((hrv _ _).1 b1).append b2)
       have r2:=r1.swap (H2:=s.h.put id (.cells (pre++(cs++post)) Cf)) hl hor (by rw [Hp.bV,ag rfl]) (fun j hj=>by rw [Hp.bV,af hj]) rfl rfl
       have Ap:ez (pre++(cs++post)) (k*es+off) vs=some (pre++(mM++post)):=by rw [<- me,<- c2];exact uu pre (pz post hs)
       obtain⟨w',g1,g2,g3⟩:=mP (P:=P) r2 (by rw [Hp.bV,ag rfl]) Ap P4 V!;have hlen:x.cells.size=ti.size:=by have:=P4.length; simp only [bn] at this; omega
       have mR:(Instr.storeAt ty (.pointer (some ⟨(E1.θ id).1,(E1.θ id).2+(k*es+off),none⟩)) x).run P w= .ok () w':=by simp [Instr.storeAt,Instr.sureAddr,storeVar,eV (db ty ti iI),hlen,g1]
       have fin: ∀(o':eL),OR E1 w'.heap id o'->∃w' E',(Instr.storeAt ty (.pointer (some ⟨(E1.θ id).1,(E1.θ id).2+(k*es+off),none⟩)) x).run P w= .ok () w'/\fP E1 s.h w E' (s.h.put id o') w'/\ca E' (s.h.put id o') w':=by
        intro o' GV;have al1:II (s.h.put id (.cells (pre++(cs++post)) Cf)) s.h:=(II.put hl).symm
        have al2:II ((s.h.put id (.cells (pre++(cs++post)) Cf)).put id (.cells (pre++(mM++post)) Cf)) (s.h.put id o'):=by
         refine⟨fun j y hj=>?_,fun j y hj=>?_,rfl,rfl⟩
         ·rw [Hp.bV];split
          ·exact⟨o',rfl⟩
          ·rename_i jK;rw [Hp.bV,af jK,Hp.bV,af jK] at hj;exact⟨y,hj⟩
         ·rw [Hp.bV] at hj ⊢;split
          ·exact⟨_,rfl⟩
          ·rename_i jK;rw [af jK] at hj;rw [Hp.bV,af jK];exact⟨y,hj⟩
        refine⟨w',E1,mR,(g2.left al1).right al2,?_⟩;exact g3.swap (id:=id) (by rw [Hp.bV,ag rfl]) GV (by rw [Hp.bV,ag rfl]) (fun j hj=>by rw [Hp.bV,af hj,Hp.bV,af hj,Hp.bV,af hj]) rfl rfl
       have C5:=(g3.live id _ (by rw [Hp.bV,ag rfl])).2.1
       have apart: ∀rZ:List (W×List AV),wI (rowOf t) rZ->eE E1.ρ k rZ=some mM->(∀j:Nat,j≠k->eE E1.ρ j rZ=eE E1.ρ j ov)->OR E1 w'.heap id (.vec e t Cf rZ):=by
        intro rZ q1 q2 q3;refine OR.rK.2 ⟨⟨q1,yF⟩,?_⟩
        have:cU E1.ρ e t rZ=pre++(mM++post):=by
         unfold cU;obtain⟨d1,_⟩:=j8 (ρ:=E1.ρ) q1 (j:=0) V;rw [aK,q2] at d1;rw [d1,<- aef,<- Vu];congr 1
         ·refine lL _ _ fun j _ hj=>q3 j ?_;rw [a8] at hj;omega
         ·congr 1;exact lL _ _ fun j hj _=>q3 j J
        rw [this];exact C5
       split at h3
       ·rename_i rZ P5;have:=bC h3;simp only [ak] at this;obtain⟨rfl,rfl⟩:=this;refine⟨rfl,gQ,rfl,?_⟩;obtain⟨q1,q2,q3⟩:=Ge gQ hk LR P5 ho;exact fin _ (apart rZ q1 q2 q3)
       ·split at h3
        ·rename_i aod;have Vx:=KC gQ hk aod;split at h3
         ·rename_i e' aed;have:=bC h3;simp only [ak] at this;obtain⟨rfl,rfl⟩:=this;refine⟨rfl,gQ,rfl,fin _ ?_⟩;have hxm:xk∈(dec (e.den E1.ρ)).l:=arq V
          have hle:off+vs.length<=(rowOf t).es:=by
           rw [<- B5];rcases ar9 vs.length with hz|hz
           ·have anK:=arL hz;subst anK
            have: ∀(l c:List AV) (o:Nat),ez c o []=some l->o<=c.length:=by
             intro l c
             induction c generalizing l with
             |nil=>intro o ho; cases o with |zero=>exact arZ _|succ o=>simp [ez] at ho
             |cons a c ih=>
              intro o ho
              cases o with
              |zero=>exact arZ _
              |succ o=>
               simp only [ez] at ho;split at ho
               ·rename_i l' Nd;have:=ih l' o Nd;simp; omega
               ·simp at ho
            have:=this _ _ _ hs;simpa using this
           ·have:=tv hs (off+vs.length-1);rw [ag J] at this
            have D5:(vs[off+vs.length-1-off]?).isSome=true:=by rw [aN J]; rfl
            rw [<- this] at D5;obtain⟨y,hy⟩:=ar0.1 D5;have:=(bg.1 hy).1;rw [mq hs] at this;omega
          obtain⟨x',z1,z2,z3⟩:=TG aed hk V (yF.2.1 xk hxm) hle;refine OR.rK.2 ⟨⟨ho,?_⟩,?_⟩
          ·rw [z1];refine⟨by rw [bz],fun y hy=>?_,by rw [bz]; intro q; have:=congrArg List.length q; simp at this; exact yF.2.2 this⟩;rw [bz] at hy;rcases List.mem_or_eq_of_mem_set hy with hy|rfl
           ·exact yF.2.1 y hy
           ·exact z2
          ·have Ng:(dec (e'.den E1.ρ)).l[k]?=some x':=by
            rw [z1,bz,List.getElem?_set_self gy]
           obtain⟨d1,d2⟩:=j8 (ρ:=E1.ρ) ho (j:=0) Ng;rw [aK,Vx] at d1
           have VB:cU E1.ρ e' t ov=pre++(iE (rowOf t) (.fk x')++post):=by
            unfold cU;rw [d1,<- aef,<- Vu,z1,bz];congr 1
            ·rw [as2 (ax _)]
            ·congr 1;rw [as3 J]
           rw [VB];refine OR.congr C5 (by simp only [bc,iM,LR]) fun us q2=>?_;obtain⟨a,b,rfl,a1,a2⟩:=q2.split;obtain⟨a',b',rfl,b1,b2⟩:=a2.split;refine a1.append (cL.append ?_ b2);rw [gW];simp only [W.den,bA]
           have an6:cs=iE (rowOf t) (.op .at e i):=by
            rcases pB gQ hk hc with g|⟨g,g'⟩
            ·rw [Vx] at g; simp at g
            ·exact g'
           refine z3 _ a' (by rw [b1.length,LR]) ?_ ?_
           ·intro j vj uj hj1 hj2 hj3;have hjl:=(bg.1 hj2).1;have:=tv hs j;rw [ag J,hj2] at this;obtain⟨y,y1,y2⟩:=b1.nth (by rw [dI]; exact this);rw [hj3] at y1;simp only [ah] at y1;subst y1;exact y2
           ·intro j aj uj hj1 hj2 hj3;have:=tv hs j;rw [af J,an6,hj2] at this;obtain⟨y,y1,y2⟩:=b1.nth (by rw [dI]; exact this);rw [hj3] at y1;simp only [ah] at y1;subst y1;exact y2
         ·have:=bC h3;simp only [ak] at this;obtain⟨rfl,rfl⟩:=this;refine⟨rfl,gQ,rfl,fin _ (apart _ ?_ ?_ ?_)⟩
          ·intro p gQ;rcases aH.1 gQ with rfl|gQ
           ·exact LR
           ·exact ho p gQ
          ·simp only [eE];rw [ag hk]
          ·intro j hj;simp only [eE];rw [af J]
        ·simp [T.leaf] at h3
      ·simp [T.leaf] at h3
     ·simp [T.leaf] at h3
    ·simp [T.leaf] at h
   ·simp [T.leaf] at h
  ·simp [T.leaf] at h
 ·simp [T.leaf] at h
theorem aep {E1:En} {h:Array Obj} {c:CK} {v:AV} {u:Value} (hv:VR E1 h v u):VR E1 h (akG c v) u:=by
 unfold akG;split
 ·split
  ·simp only [VR] at hv ⊢;subst hv;exact⟨⟨none,rfl⟩,by simp only [W.den,bA]; exact .nil _⟩
  ·split
   ·split
    ·split
     ·simp only [VR] at hv ⊢;obtain⟨_,a,cap,rfl,_,hc⟩:=hv;simp only [fJ] at hc;obtain⟨rfl,_⟩:=hc;exact⟨⟨some a,rfl⟩,by simp only [W.den,bA]; exact .xZ _ _ _⟩
     grind
    grind
   grind
  grind
 grind
theorem J6 {E1:En} {h:Array Obj}: ∀(cs:List CK) {vs:List AV} {us:List Value},cL E1 h vs us->cL E1 h (OV cs vs) us
 |[],vs,us,hv=>hv
 |_::_,[],us,hv=>hv
 |c::cs,v::vs,us,hv=>by rw [bX] at hv;obtain⟨u,iA,rfl,U,Z⟩:=hv;simp only [OV];rw [bX];exact⟨u,iA,rfl,aep U,J6 cs Z⟩
set_option maxHeartbeats 800000 in
theorem O3 [bS] {E1:En} {tt:TT} (db:fj P tt) {s s':St} (r1:ca E1 s.h w) (hp:cD E1.ρ s.pc) {ty id es:Nat} {i j0:W} {off:Nat} {one:Bool} {vs:List AV} {v':AV} {u x:Value} (Y:VR E1 w.heap (.BF id es i off) u)
 (P7:one=true->cL E1 w.heap vs x.cells.toList/\∀u∈x.cells.toList,u.oneCell'=true) (h:(Hi tt s ty id es i j0 off one vs).leaf E1.ρ=some (v',s')) :
 s'.bH=s.bH/\cD E1.ρ s'.pc/\v'=AV.undef/\∃w' E',(Instr.storeAt ty u x).run P w= .ok () w'/\fP E1 s.h w E' s'.h w'/\ca E' s'.h w':=by
 unfold Hi at h;split at h
 ·rename_i o hl;split at h
  ·rename_i e t Cf ov;split at h
   ·rename_i ti iI;split at h
    ·rename_i j7;obtain⟨me,hvl,vQ⟩:=j7;obtain⟨pc0,hp0,t1,t2,h3⟩:=oY hp h;obtain⟨fU,gQ,h3⟩:=xO (s:={ s with pc:=pc0 }) hp0 h3;split at h3
     ·rename_i hdb;have hij:=iz gQ hdb;split at h3
      ·rename_i cs hc;split at h3
       ·rename_i mM hs;obtain⟨anJ,V!⟩:=P7 vQ;have P4:=J6 ((Rw (rowOf t)).drop off) anJ;have vP:=Y;simp only [VR] at vP;obtain⟨hid,k,hk,rfl⟩:=vP;simp only [SB.den,beq_iff_eq] at hij;have D7:j0.den E1.ρ=(k:Int):=by rw [<- hij]; exact hk
        obtain⟨rc,ho,yF⟩:=r1.rK hl;rw [cW] at t2;have gy:k<(dec (e.den E1.ρ)).l.length:=J
        have V:(dec (e.den E1.ρ)).l[k]?=some (dec (e.den E1.ρ)).l[k]:=aN gy;generalize hxk:(dec (e.den E1.ρ)).l[k]=xk at V;obtain⟨c1,c2⟩:=j8 (ρ:=E1.ρ) ho (j:=0) V;rw [aK] at c1;generalize aef:bJ E1.ρ (rowOf t) ov ((dec (e.den E1.ρ)).l.take k) 0=pre at c1 c2;generalize Vu:bJ E1.ρ (rowOf t) ov ((dec (e.den E1.ρ)).l.drop (k+1)) (k+1)=post at c1
        have jt:(∀h us,cL E1 h (match eE E1.ρ k ov with |some cs=>cs|none=>iE (rowOf t) (.fk xk)) us↔cL E1 h cs us)/\cs.length=(rowOf t).es:=by
         rcases pB gQ D7 hc with g|⟨g,rfl⟩
         ·rw [g];obtain⟨p,p1,p2,_⟩:=lQ g;have:=ho p p1;rw [p2] at this;exact⟨fun _ _=>Iff.rfl,this⟩
         ·rw [g];refine⟨fun h us=>zD ?_,iM _ _⟩;rw [Dr E1.ρ e j0 D7 V];simp only [W.den,bA]
        obtain⟨hrv,B5⟩:=jt;have LR:mM.length=(rowOf t).es:=by rw [mq hs,B5]
        have hor:OR E1 w.heap id (.cells (pre++(cs++post)) Cf):=by
         have:=(rc.live id _ (by rw [Hp.bV,ag rfl])).2.1;unfold cU at this;rw [c1] at this;refine OR.congr this ?_ ?_
         ·simp only [bc,B5];congr 2;split
          ·rename_i cs0 h0;obtain⟨p,p1,p2,_⟩:=lQ h0;have:=ho p p1;rw [p2] at this;exact this.symm
          ·rw [iM]
         ·intro us q2;obtain⟨a,b,rfl,a1,a2⟩:=q2.split;obtain⟨a',b',rfl,b1,b2⟩:=a2.split;exact a1.append (((hrv _ _).1 b1).append b2)
        have r2:=r1.swap (H2:=s.h.put id (.cells (pre++(cs++post)) Cf)) hl hor (by rw [Hp.bV,ag rfl]) (fun j hj=>by rw [Hp.bV,af hj]) rfl rfl
        have Ap:ez (pre++(cs++post)) (k*es+off) (OV ((Rw (rowOf t)).drop off) vs)=some (pre++(mM++post)):=by rw [<- me,<- c2];exact uu pre (pz post hs)
        obtain⟨w',g1,g2,g3⟩:=mP (P:=P) r2 (by rw [Hp.bV,ag rfl]) Ap P4 V!;have hlen:x.cells.size=ti.size:=by have:=anJ.length; simp only [bn] at this; omega
        have mR:(Instr.storeAt ty (.pointer (some ⟨(E1.θ id).1,(E1.θ id).2+(k*es+off),none⟩)) x).run P w= .ok () w':=by simp [Instr.storeAt,Instr.sureAddr,storeVar,eV (db ty ti iI),hlen,g1]
        have fin: ∀(o':eL),OR E1 w'.heap id o'->∃w' E',(Instr.storeAt ty (.pointer (some ⟨(E1.θ id).1,(E1.θ id).2+(k*es+off),none⟩)) x).run P w= .ok () w'/\fP E1 s.h w E' (s.h.put id o') w'/\ca E' (s.h.put id o') w':=by
         intro o' GV;have al1:II (s.h.put id (.cells (pre++(cs++post)) Cf)) s.h:=(II.put hl).symm
         have al2:II ((s.h.put id (.cells (pre++(cs++post)) Cf)).put id (.cells (pre++(mM++post)) Cf)) (s.h.put id o'):=by
          refine⟨fun j y hj=>?_,fun j y hj=>?_,rfl,rfl⟩
          ·rw [Hp.bV];split
           ·exact⟨o',rfl⟩
           ·rename_i jK;rw [Hp.bV,af jK,Hp.bV,af jK] at hj;exact⟨y,hj⟩
          ·rw [Hp.bV] at hj ⊢;split
           ·exact⟨_,rfl⟩
           ·rename_i jK;rw [af jK] at hj;rw [Hp.bV,af jK];exact⟨y,hj⟩
         refine⟨w',E1,mR,(g2.left al1).right al2,?_⟩;exact g3.swap (id:=id) (by rw [Hp.bV,ag rfl]) GV (by rw [Hp.bV,ag rfl]) (fun j hj=>by rw [Hp.bV,af hj,Hp.bV,af hj,Hp.bV,af hj]) rfl rfl
        have C5:=(g3.live id _ (by rw [Hp.bV,ag rfl])).2.1
        have apart: ∀rZ:List (W×List AV),wI (rowOf t) rZ->eE E1.ρ k rZ=some mM->(∀j:Nat,j≠k->eE E1.ρ j rZ=eE E1.ρ j ov)->OR E1 w'.heap id (.vec e t Cf rZ):=by
         intro rZ q1 q2 q3;refine OR.rK.2 ⟨⟨q1,yF⟩,?_⟩
         have:cU E1.ρ e t rZ=pre++(mM++post):=by
          unfold cU;obtain⟨d1,_⟩:=j8 (ρ:=E1.ρ) q1 (j:=0) V;rw [aK,q2] at d1;rw [d1,<- aef,<- Vu];congr 1
          ·refine lL _ _ fun j _ hj=>q3 j ?_;rw [a8] at hj;omega
          ·congr 1;exact lL _ _ fun j hj _=>q3 j J
         rw [this];exact C5
        split at h3
        ·rename_i rZ P5;have:=bC h3;simp only [ak] at this;obtain⟨rfl,rfl⟩:=this;refine⟨rfl,gQ,rfl,?_⟩;obtain⟨q1,q2,q3⟩:=Ge gQ D7 LR P5 ho;exact fin _ (apart rZ q1 q2 q3)
        ·split at h3
         ·rename_i aod;have:=bC h3;simp only [ak] at this;obtain⟨rfl,rfl⟩:=this;refine⟨rfl,gQ,rfl,fin _ (apart _ ?_ ?_ ?_)⟩
          ·intro p gQ;rcases aH.1 gQ with rfl|gQ
           ·exact LR
           ·exact ho p gQ
          ·simp only [eE];rw [ag D7]
          ·intro j hj;simp only [eE];rw [af J]
         ·simp [T.leaf] at h3
       ·simp [T.leaf] at h3
      ·simp [T.leaf] at h3
     ·simp [T.leaf] at h3
    ·simp [T.leaf] at h
   ·simp [T.leaf] at h
  ·simp [T.leaf] at h
 ·simp [T.leaf] at h
theorem O5 [bS] {tt:TT} (db:fj P tt) {s s':St} (r:ca E s.h w) (hp:cD E.ρ s.pc) {ty id es:Nat} {i:W} {off:Nat} {v v':AV} {u x:Value} (Y:VR E w.heap (.BF id es i off) u) (hv:VR E w.heap v x) (h:(Hk tt s ty id es i off v).leaf E.ρ=some (v',s')) :
 s'.bH=s.bH/\cD E.ρ s'.pc/\v'=AV.undef/\∃w' E',(Instr.storeAt ty u x).run P w= .ok () w'/\fP E s.h w E' s'.h w'/\ca E' s'.h w':=by
 unfold Hk at h;split at h
 ·exact O3 db r hp Y (fun vQ=> ⟨hv.cells vQ,(hv.cells vQ).tI vQ⟩) h
 ·obtain⟨vs,U,j3,E1,jH,f,q,g⟩:=rC rfl r hp h;have hρ:=f.ρ;rw [<- hρ] at jH g;obtain⟨a1,a2,a3,w',E',a4,a5,a6⟩:=O4 db (s:={ s with h:=U,pc:=j3 }) f.rel jH (VR.dv (f.eI.keeps r) _ _ Y) (fun vQ=> ⟨q _ (hv.cells vQ),(hv.cells vQ).tI vQ⟩) g;exact⟨a1,by rw [<- hρ]; exact a2,a3,w',E',a4,f.eI.trans a5,a6⟩
end
section
variable {P:Program} {E:En} {w:World}
theorem yL.length {ro:Nat->Prop} {h:Array Obj} {r:Row} {d:D} {us:List Value} (hh:yL ro h r d us):us.length=r.es:=by
 cases r with
 |one c=>obtain⟨u,rfl,_⟩:=hh; rfl
 |many cs=>exact eD.length hh
theorem gJ.append {h:Array Obj} {b o:Nat} {us vs:List Value} (U:gJ h b o us) (Z:gJ h b (o+us.length) vs):gJ h b o (us++vs):=by
 intro i u hi;rw [asW] at hi;split at hi
 ·exact U i u hi
 ·rename_i gy;have:=Z _ u hi
  grind
theorem F2 {ro:Nat->Prop} (pH:ro=E.ro) {h:Array Obj} {r:Row} {b o:Nat}: ∀(L:List D) (j:Nat),(∀i x,L[i]?=some x->∃us,yL ro h r x us/\gJ h b (o+(j+i)*r.es) us)->
 ∃us,cL E h (bJ E.ρ r [] L j) us/\gJ h b (o+j*r.es) us/\us.length=L.length*r.es/\∀u∈us,u.oneCell'=true
 |[],j,_=> ⟨[],by simp [bJ,cL],fun i u hi=>by simp at hi,ad,ad⟩
 |d::L,j,hh=>by
  subst pH;obtain⟨a,a1,a2⟩:=hh 0 d rfl
  obtain⟨b',b1,b2,b3,b4⟩:=F2 rfl L (j+1) fun i x hi=>by have:=hh (i+1) x (by simpa using hi);rw [show j+(i+1)=j+1+i by omega] at this;exact this
  have hal:=a1.length;refine⟨a++b',?_,?_,?_,?_⟩
  ·simp only [bJ,eE];refine cL.append ?_ b1;rw [gW];simpa only [W.den,bA] using a1
  ·rw [arA] at a2;refine a2.append ?_
   grind
  ·grind
  ·intro u hu;rcases arG.1 hu with hu|hu
   ·exact a1.tI u hu
   grind
theorem aeN {t:Nat} {d:D} {u:Value} (hr:Rd E.ro w.heap (.sl t) d u) (jK:d.l≠[]): ∃us,Src P E w (rowOf t).es d.l.length (bJ E.ρ (rowOf t) [] d.l 0) u us:=by
 obtain⟨x,Y⟩ : ∃x,d.l[0]?=some x:=by
  cases h:d.l with
  |nil=>exact absurd h jK
  |cons a l=>exact⟨a,rfl⟩
 obtain⟨b,o,cap,us0,rfl,hb,_,_⟩:=hr.row Y
 obtain⟨us,U,Z,h3,h4⟩:=F2 (E:=E) (ro:=E.ro) rfl (h:=w.heap) (r:=rowOf t) (b:=b) (o:=o) d.l 0 fun i x hi=>by
  obtain⟨b',o',rN,iA,he,_,g1,g2⟩:=hr.row hi
  grind
 rw [arD,arA] at Z;exact⟨us.toArray,fun _=>rfl,fun w2 hw=>by simp only [Builtin.firstCells]; exact Z.U0 h3 w2 hw,by simpa using U,by simpa using h3,by simpa using h4⟩
structure Grown (ρ:Nat->Int) (r:Row) (e0 e1:W) (ds:List D) (news:List AV):Prop where
 l:(dec (e1.den ρ)).l=(dec (e0.den ρ)).l++ds
 wf:dec (e1.den ρ)=dL (dec (e1.den ρ)).l
 rows: ∀d∈ds,rS r d
 vr: ∀(E':En) (h:Array Obj) (us:List Value) (j:Nat),E'.ρ=ρ->cL E' h news us->cL E' h (bJ ρ r [] ds j) us
theorem lC (r:Row):wI r []:=fun p hp=>by simp at hp
theorem Fb [bS] {E':En} {H0:Hp} {w':World} {cells:List AV} {e:TypeId} {e1:W} {t:Nat} (r:ca E' (H0.new (.cells cells e)) w') (yF:xH (rowOf t) (dec (e1.den E'.ρ))) (hl:(cU E'.ρ e1 t []).length=cells.length)
 (hv: ∀us,cL E' w'.heap cells us->cL E' w'.heap (cU E'.ρ e1 t []) us):ca E' (H0.new (.vec e1 t e [])) w':=by
 have hg:(H0.new (.cells cells e)).get H0.fresh=some (.cells cells e):=by rw [Hp.hJ,ag rfl]
 refine r.swap hg (OR.rK.2 ⟨⟨lC _,yF⟩,OR.congr (r.live _ _ hg).2.1 hl hv⟩) (by rw [Hp.hJ,ag rfl]) (fun j hj=>by rw [Hp.hJ,af hj,Hp.hJ,af hj]) ?_ ?_
 all_goals grind [Hp.new]
theorem ya {H0 H1:Hp} {o o':eL} (hn:H1.next=H0.next) (hr:H1.res=H0.res) (hg: ∀j,(H0.get j).isSome=(H1.get j).isSome):II (H0.new o) (H1.new o'):=by
 have hf:H1.fresh=H0.fresh:=by unfold Hp.fresh; rw [hn,hr]
 have key: ∀{A B:Option eL} {x:eL},A.isSome=B.isSome->A=some x->∃y,B=some y:=by intro A B x U Z;rw [Z] at U;exact ar0.1 U.symm
 refine⟨fun j x hj=>?_,fun j x hj=>?_,?_,?_⟩
 all_goals grind [Hp.hJ,Hp.new]
set_option maxHeartbeats 800000 in
theorem Aj [bS] {t t2 ty:Nat} {H h0:Hp} (r:ca E H w) {ie:TI} {e m:Nat} {own:Option Nat} {news:List AV} {x:AV} {d2:TypeDesc} {u u2:Value} {us:Array Value} (wW:oq P e ie)
 (ht:P.underlying t=some (.slice e)) (An:P.underlying t2=some d2) (kR: ∀k,d2≠.int k) (yX:ie.size≠0) (pj:ie.bytes≠0) (yh:ie.zero.length=ie.size) (Qi:ie.bytes<=400)
 (src:Src P E w ie.size m news u2 us) (hm:0<m) (Y:VR E w.heap x u) {e0 e1:W} {t':Nat} (hb:rO e own x H=some (e0,t',h0)) (me:(rowOf t').es=ie.size) {ds:List D} (g:Grown E.ρ (rowOf t') e0 e1 ds news) (yi:ds.length=m)
 (akk:((dec (e0.den E.ρ)).l.length+m)*ie.bytes<=140737488355328) :
 ∃y w' E',(Builtin.append_ #[t,t2] ty #[u,u2]).run P w= .ok y w'/\fP E H w E' (h0.new (.vec e1 t' e [])) w'/\ca E' (h0.new (.vec e1 t' e [])) w'/\VR E' w'.heap (.rV h0.fresh (eG e1) t') y:=by
 have hbound: ∀k,k<=(dec (e0.den E.ρ)).l.length->(k+m)*ie.bytes<=140737488355328:=by intro k hk;exact bq (ar6 _ J) akk
 have hnl:news.length=m*ie.size:=by have U:=src.YB.length;have Z:=src.size;simp only [bn] at U;omega
 have uZ: ∀(a:Option Addr),u= .slice a 0 0->h0=H->(dec (e0.den E.ρ)).l= []->
  ∃y w' E',(Builtin.append_ #[t,t2] ty #[u,u2]).run P w= .ok y w'/\fP E H w E' (h0.new (.vec e1 t' e [])) w'/\ca E' (h0.new (.vec e1 t' e [])) w'/\VR E' w'.heap (.rV h0.fresh (eG e1) t') y:=by
  intro a hu he pJ;subst hu he
  have tR:oH ie e 0 m news h0=some (.slice h0.fresh 0 (0+m) (.rest ie.size),h0.new (.cells news e)):=by unfold oH;rw [ag (hbound 0 J)]
  obtain⟨y,w',E',p1,p2,p3,p4⟩:=qT (t:=t) (t2:=t2) (ty:=ty) (cap:=0) r wW ht An kR pj yh src J a (old:=[]) (olds:=#[]) (cs:=news) ad (by simp [cL]) ad ad
   (fun w2 _=>by
    cases a with
    |none=>simp [Builtin.firstCells]
    |some a=>simp only [Builtin.firstCells,arD]; rfl) tR
  have hρ:=p2.ρ;have C2:(dec (e1.den E'.ρ)).l=ds:=by rw [hρ,g.l,pJ,au]
  have yF:xH (rowOf t') (dec (e1.den E'.ρ)):=by refine⟨by rw [hρ]; exact g.wf,fun d V=>?_,by rw [C2]; intro q; rw [q] at yi; simp at yi; omega⟩;rw [C2] at V;exact g.rows d V
  refine⟨y,w',E',p1,p2.right (ya rfl rfl fun _=>rfl),Fb p3 yF ?_ ?_,?_⟩
  ·unfold cU;rw [cX (lC _),C2,yi,me,hnl]
  ·intro iA OB;unfold cU;rw [C2,hρ];exact g.vr E' w'.heap iA 0 hρ OB
  ·simp only [VR] at p4 ⊢;obtain⟨q1,a',rN,q2,q3,q4⟩:=p4;refine⟨q1,0+m,a',rN,?_,q2,q3,?_⟩
   ·rw [cW,C2,yi,aK]
   ·rw [me]; exact q4
 unfold rO at hb;split at hb
 ·rename_i id n t0;split at hb
  ·rename_i o hl;split at hb
   ·rename_i BG t00 ub ov;split at hb
    ·split at hb
     ·rename_i S?;split at hb
      ·rename_i hty;split at hb
       ·rename_i hn;simp only [ah,ak] at hb;obtain⟨rfl,rfl,rfl⟩:=hb;have S?:=az S?;have hty:=az hty;have hn:=dy _ _ hn;subst S? hty hn;obtain⟨r2,_,akf⟩:=r.rK hl;simp only [VR] at Y;obtain⟨hid,k,a,cap,hk,rfl,hkc,lH⟩:=Y;rw [cW] at hk;have hk:k=(dec (BG.den E.ρ)).l.length:=J
        have tP:VR E w.heap (.slice id 0 k (.rest ie.size)) (.slice (some a) k cap):=by simp only [VR];exact⟨hid,a,cap,rfl,hkc,by rw [<- me]; exact lH⟩
        have B5:(cU E.ρ BG t0 []).length=k*ie.size:=by unfold cU;rw [cX (lC _),me,hk]
        have anW:0<m*ie.size:=asu hm J
        have akt:rQ ie ub m news (.slice id 0 k (.rest ie.size)) (H.put id (.cells (cU E.ρ BG t0 []) ub)) =
         some (.slice H.fresh 0 (k+m) (.rest ie.size),((H.put id (.cells (cU E.ρ BG t0 []) ub)).drop id).new (.cells (cU E.ρ BG t0 []++news) ub)):=by
         unfold rQ;simp only [if_true];rw [Hp.bV,ag rfl];simp only;rw [af (by rw [B5,arK]; omega),ag ⟨J,trivial⟩];simp only [fE];unfold oH;rw [ag (hbound k J)];rfl
        obtain⟨y,w',E',p1,p2,p3,p4⟩:=xD (t:=t) (t2:=t2) (ty:=ty) r2 wW ht An kR yX pj yh src tP akt;have hρ:=p2.ρ;have C2:(dec (e1.den E'.ρ)).l=(dec (BG.den E.ρ)).l++ds:=by rw [hρ,g.l]
        have yF:xH (rowOf t0) (dec (e1.den E'.ρ)):=by
         refine⟨by rw [hρ]; exact g.wf,fun d V=>?_,by rw [C2]; intro q; have:=congrArg List.length q; simp at this; rw [this.2] at yi; simp at yi; omega⟩;rw [C2] at V;rcases arG.1 V with V|V
         ·exact akf.2.1 d V
         ·exact g.rows d V
        have VB:cU E'.ρ e1 t0 []=cU E.ρ BG t0 []++bJ E.ρ (rowOf t0) [] ds (0+(dec (BG.den E.ρ)).l.length):=by unfold cU;rw [C2,hρ,mN]
        have GZ: ∀j,(((H.put id (.cells (cU E.ρ BG t0 []) ub)).drop id).get j)=(H.drop id).get j:=by
         intro j;rw [Hp.pU,Hp.pU];split
         ·rfl
         ·rename_i jK;rw [Hp.bV,af jK]
        have al:II (((H.put id (.cells (cU E.ρ BG t0 []) ub)).drop id).new (.cells (cU E.ρ BG t0 []++news) ub)) ((H.drop id).new (.vec e1 t0 ub [])):=
         ya rfl rfl fun j=>by rw [GZ]
        have p3':ca E' ((H.drop id).new (.cells (cU E.ρ BG t0 []++news) ub)) w':=by
         have hg:(((H.put id (.cells (cU E.ρ BG t0 []) ub)).drop id).new (.cells (cU E.ρ BG t0 []++news) ub)).get H.fresh=some (.cells (cU E.ρ BG t0 []++news) ub):=by rw [Hp.hJ];exact ag rfl
         refine p3.swap hg (p3.live _ _ hg).2.1 (by rw [Hp.hJ]; exact ag rfl) (fun j hj=>?_) ?_ ?_
         ·rw [Hp.hJ,Hp.hJ];show (if j=H.fresh then _ else _)=(if j=H.fresh then _ else _);rw [af hj,af hj,GZ]
         ·unfold Hp.new;simp only [Hp.drop,Hp.put];split<;>rfl
         ·unfold Hp.new;simp only [Hp.drop,Hp.put];split<;>rfl
        refine⟨y,w',E',p1,(p2.left (II.put hl).symm).right al,Fb p3' yF ?_ ?_,?_⟩
        ·rw [VB,bc,bc,cX (lC _),yi,me,hnl]
        ·intro iA OB;obtain⟨a1,a2,rfl,b1,b2⟩:=OB.split;rw [VB];exact b1.append (g.vr E' w'.heap a2 _ hρ b2)
        ·simp only [VR] at p4 ⊢;obtain⟨q1,a',rN,q2,q3,q4⟩:=p4;refine⟨q1,k+m,a',rN,?_,q2,q3,?_⟩
         ·rw [cW,C2,bc,yi,hk]
         ·rw [me]; exact q4
       ·simp at hb
      ·simp at hb
     ·simp at hb
    ·simp at hb
   ·simp at hb
  ·simp at hb
 ·split at hb
  ·simp only [ah,ak] at hb;obtain⟨rfl,rfl,rfl⟩:=hb;simp only [VR] at Y;exact uZ none Y rfl (by simp only [W.den,bA,D.l])
  ·simp at hb
 ·split at hb
  ·simp only [ah,ak] at hb;obtain⟨rfl,rfl,rfl⟩:=hb;simp only [VR] at Y;obtain⟨x,Y⟩:=Y;exact uZ x Y rfl (by simp only [W.den,bA,D.l])
  ·simp at hb
 ·split at hb
  ·simp only [ah,ak] at hb;obtain⟨rfl,rfl,rfl⟩:=hb;simp only [VR] at Y;obtain⟨⟨x,Y⟩,_⟩:=Y;exact uZ x Y rfl (by simp only [W.den,bA,D.l])
  ·simp at hb
 ·split at hb
  ·split at hb
   ·split at hb
    ·split at hb
     ·simp only [ah,ak] at hb;obtain⟨rfl,rfl,rfl⟩:=hb;simp only [VR] at Y;obtain⟨_,a,cap,rfl,_,hc⟩:=Y;simp only [fJ] at hc;obtain⟨rfl,_⟩:=hc;exact uZ (some a) rfl rfl (by simp only [W.den,bA,D.l])
     ·simp at hb
    ·simp at hb
   ·simp at hb
  ·simp at hb
 ·simp at hb
end
noncomputable def KA (e:Nat) (own:Option Nat) (x:AV) (h:Hp):Option (W×Nat×List (W×List AV)×Hp):=match x with
 | .rV id n t=>match h.get id with
   |some o=>match o with
    | .vec e0 t0 ty ov=>match Nat.beq t t0 with
     |true=>match Nat.beq ty e with
      |true=>match ga n (eG e0) with
       |true=>some (e0,t,ov,h.drop id)
       |false=>none
      |false=>none
     |false=>none
    |_=>none
   |none=>none
 | .fA=>match own with
   |some t=>some (.fk (.i 0),t,[],h)
   |none=>none
 | .emp=>match own with
   |some t=>some (.fk (.i 0),t,[],h)
   |none=>none
 | .At _ _=>match own with
   |some t=>some (.fk (.i 0),t,[],h)
   |none=>none
 | .slice _ _ n c=>match n with
   |0=>match c with
    | .exact k=>match k with
      |0=>match own with
       |some t=>some (.fk (.i 0),t,[],h)
       |none=>none
      |_=>none
    |_=>none
   |_=>none
 |_=>none
section
variable {P:Program} {E:En} {w:World}
structure Ua (ρ:Nat->Int) (r:Row) (e0 e1:W) (ov0 ov1:List (W×List AV)) (ds:List D) (news:List AV):Prop where
 l:(dec (e1.den ρ)).l=(dec (e0.den ρ)).l++ds
 wf:dec (e1.den ρ)=dL (dec (e1.den ρ)).l
 rows: ∀d∈ds,rS r d
 vr: ∀(E':En) (h:Array Obj) (us0 us:List Value),E'.ρ=ρ->cL E' h (bJ ρ r ov0 (dec (e0.den ρ)).l 0) us0->cL E' h news us->cL E' h (bJ ρ r ov1 (dec (e1.den ρ)).l 0) (us0++us)
theorem Od [bS] {E':En} {H0:Hp} {w':World} {cells:List AV} {e:TypeId} {e1:W} {t:Nat} {ov:List (W×List AV)} (r:ca E' (H0.new (.cells cells e)) w') (ho:wI (rowOf t) ov) (yF:xH (rowOf t) (dec (e1.den E'.ρ))) (hl:(cU E'.ρ e1 t ov).length=cells.length)
 (hv: ∀us,cL E' w'.heap cells us->cL E' w'.heap (cU E'.ρ e1 t ov) us):ca E' (H0.new (.vec e1 t e ov)) w':=by
 have hg:(H0.new (.cells cells e)).get H0.fresh=some (.cells cells e):=by rw [Hp.hJ,ag rfl]
 refine r.swap hg (OR.rK.2 ⟨⟨ho,yF⟩,OR.congr (r.live _ _ hg).2.1 hl hv⟩) (by rw [Hp.hJ,ag rfl]) (fun j hj=>by rw [Hp.hJ,af hj,Hp.hJ,af hj]) ?_ ?_
 all_goals grind [Hp.new]
set_option maxHeartbeats 800000 in
theorem Er [bS] {t t2 ty:Nat} {H h0:Hp} (r:ca E H w) {ie:TI} {e m:Nat} {own:Option Nat} {news:List AV} {x:AV} {d2:TypeDesc} {u u2:Value} {us:Array Value} (wW:oq P e ie)
 (ht:P.underlying t=some (.slice e)) (An:P.underlying t2=some d2) (kR: ∀k,d2≠.int k) (yX:ie.size≠0) (pj:ie.bytes≠0) (yh:ie.zero.length=ie.size) (Qi:ie.bytes<=400)
 (src:Src P E w ie.size m news u2 us) (hm:0<m) (Y:VR E w.heap x u) {e0 e1:W} {t':Nat} {ov0 ov1:List (W×List AV)} (hb:KA e own x H=some (e0,t',ov0,h0)) (me:(rowOf t').es=ie.size) {ds:List D} (g:Ua E.ρ (rowOf t') e0 e1 ov0 ov1 ds news) (yi:ds.length=m)
 (P5:wI (rowOf t') ov1) (akk:((dec (e0.den E.ρ)).l.length+m)*ie.bytes<=140737488355328) :
 ∃y w' E',(Builtin.append_ #[t,t2] ty #[u,u2]).run P w= .ok y w'/\fP E H w E' (h0.new (.vec e1 t' e ov1)) w'/\ca E' (h0.new (.vec e1 t' e ov1)) w'/\VR E' w'.heap (.rV h0.fresh (eG e1) t') y:=by
 have hbound: ∀k,k<=(dec (e0.den E.ρ)).l.length->(k+m)*ie.bytes<=140737488355328:=by intro k hk;exact bq (ar6 _ J) akk
 have hnl:news.length=m*ie.size:=by have U:=src.YB.length;have Z:=src.size;simp only [bn] at U;omega
 have uZ: ∀(a:Option Addr),u= .slice a 0 0->h0=H->(dec (e0.den E.ρ)).l= []->
  ∃y w' E',(Builtin.append_ #[t,t2] ty #[u,u2]).run P w= .ok y w'/\fP E H w E' (h0.new (.vec e1 t' e ov1)) w'/\ca E' (h0.new (.vec e1 t' e ov1)) w'/\VR E' w'.heap (.rV h0.fresh (eG e1) t') y:=by
  intro a hu he pJ;subst hu he
  have tR:oH ie e 0 m news h0=some (.slice h0.fresh 0 (0+m) (.rest ie.size),h0.new (.cells news e)):=by unfold oH;rw [ag (hbound 0 J)]
  obtain⟨y,w',E',p1,p2,p3,p4⟩:=qT (t:=t) (t2:=t2) (ty:=ty) (cap:=0) r wW ht An kR pj yh src J a (old:=[]) (olds:=#[]) (cs:=news) ad (by simp [cL]) ad ad
   (fun w2 _=>by
    cases a with
    |none=>simp [Builtin.firstCells]
    |some a=>simp only [Builtin.firstCells,arD]; rfl) tR
  have hρ:=p2.ρ;have C2:(dec (e1.den E'.ρ)).l=ds:=by rw [hρ,g.l,pJ,au]
  have yF:xH (rowOf t') (dec (e1.den E'.ρ)):=by refine⟨by rw [hρ]; exact g.wf,fun d V=>?_,by rw [C2]; intro q; rw [q] at yi; simp at yi; omega⟩;rw [C2] at V;exact g.rows d V
  refine⟨y,w',E',p1,p2.right (ya rfl rfl fun _=>rfl),Od p3 P5 yF ?_ ?_,?_⟩
  ·unfold cU;rw [cX P5,C2,yi,me,hnl]
  ·intro iA OB;unfold cU;rw [hρ];have:=g.vr E' w'.heap [] iA hρ (by rw [pJ]; simp [bJ,cL]) OB;simpa using this
  ·simp only [VR] at p4 ⊢;obtain⟨q1,a',rN,q2,q3,q4⟩:=p4;refine⟨q1,0+m,a',rN,?_,q2,q3,?_⟩
   ·rw [cW,C2,yi,aK]
   ·rw [me]; exact q4
 unfold KA at hb;split at hb
 ·rename_i id n t0;split at hb
  ·rename_i o hl;split at hb
   ·rename_i BG t00 ub ov
    ·split at hb
     ·rename_i S?;split at hb
      ·rename_i hty;split at hb
       ·rename_i hn;simp only [ah,ak] at hb;obtain⟨rfl,rfl,rfl,rfl⟩:=hb;have S?:=az S?;have hty:=az hty;have hn:=dy _ _ hn;subst S? hty hn;obtain⟨r2,anS,akf⟩:=r.rK hl;simp only [VR] at Y;obtain⟨hid,k,a,cap,hk,rfl,hkc,lH⟩:=Y;rw [cW] at hk;have hk:k=(dec (BG.den E.ρ)).l.length:=J
        have tP:VR E w.heap (.slice id 0 k (.rest ie.size)) (.slice (some a) k cap):=by simp only [VR];exact⟨hid,a,cap,rfl,hkc,by rw [<- me]; exact lH⟩
        have B5:(cU E.ρ BG t0 ov).length=k*ie.size:=by unfold cU;rw [cX anS,me,hk]
        have anW:0<m*ie.size:=asu hm J
        have akt:rQ ie ub m news (.slice id 0 k (.rest ie.size)) (H.put id (.cells (cU E.ρ BG t0 ov) ub)) =
         some (.slice H.fresh 0 (k+m) (.rest ie.size),((H.put id (.cells (cU E.ρ BG t0 ov) ub)).drop id).new (.cells (cU E.ρ BG t0 ov++news) ub)):=by
         unfold rQ;simp only [if_true];rw [Hp.bV,ag rfl];simp only;rw [af (by rw [B5,arK]; omega),ag ⟨J,trivial⟩];simp only [fE];unfold oH;rw [ag (hbound k J)];rfl
        obtain⟨y,w',E',p1,p2,p3,p4⟩:=xD (t:=t) (t2:=t2) (ty:=ty) r2 wW ht An kR yX pj yh src tP akt;have hρ:=p2.ρ;have C2:(dec (e1.den E'.ρ)).l=(dec (BG.den E.ρ)).l++ds:=by rw [hρ,g.l]
        have yF:xH (rowOf t0) (dec (e1.den E'.ρ)):=by
         refine⟨by rw [hρ]; exact g.wf,fun d V=>?_,by rw [C2]; intro q; have:=congrArg List.length q; simp at this; rw [this.2] at yi; simp at yi; omega⟩;rw [C2] at V;rcases arG.1 V with V|V
         ·exact akf.2.1 d V
         ·exact g.rows d V
        have GZ: ∀j,(((H.put id (.cells (cU E.ρ BG t0 ov) ub)).drop id).get j)=(H.drop id).get j:=by
         intro j;rw [Hp.pU,Hp.pU];split
         ·rfl
         ·rename_i jK;rw [Hp.bV,af jK]
        have al:II (((H.put id (.cells (cU E.ρ BG t0 ov) ub)).drop id).new (.cells (cU E.ρ BG t0 ov++news) ub)) ((H.drop id).new (.vec e1 t0 ub ov1)):=
         ya rfl rfl fun j=>by rw [GZ]
        have p3':ca E' ((H.drop id).new (.cells (cU E.ρ BG t0 ov++news) ub)) w':=by
         have hg:(((H.put id (.cells (cU E.ρ BG t0 ov) ub)).drop id).new (.cells (cU E.ρ BG t0 ov++news) ub)).get H.fresh=some (.cells (cU E.ρ BG t0 ov++news) ub):=by rw [Hp.hJ];exact ag rfl
         refine p3.swap hg (p3.live _ _ hg).2.1 (by rw [Hp.hJ]; exact ag rfl) (fun j hj=>?_) ?_ ?_
         ·rw [Hp.hJ,Hp.hJ];show (if j=H.fresh then _ else _)=(if j=H.fresh then _ else _);rw [af hj,af hj,GZ]
         ·unfold Hp.new;simp only [Hp.drop,Hp.put];split<;>rfl
         ·unfold Hp.new;simp only [Hp.drop,Hp.put];split<;>rfl
        refine⟨y,w',E',p1,(p2.left (II.put hl).symm).right al,Od p3' P5 yF ?_ ?_,?_⟩
        ·unfold cU;rw [cX P5,C2,bc,bc,cX anS,yi,me,hnl,arK]
        ·intro iA OB;obtain⟨a1,a2,rfl,b1,b2⟩:=OB.split;unfold cU at b1 ⊢;rw [hρ];exact g.vr E' w'.heap a1 a2 hρ b1 b2
        ·simp only [VR] at p4 ⊢;obtain⟨q1,a',rN,q2,q3,q4⟩:=p4;refine⟨q1,k+m,a',rN,?_,q2,q3,?_⟩
         ·rw [cW,C2,bc,yi,hk]
         ·rw [me]; exact q4
       ·simp at hb
      ·simp at hb
     ·simp at hb
   ·simp at hb
  ·simp at hb
 ·split at hb
  ·simp only [ah,ak] at hb;obtain⟨rfl,rfl,rfl,rfl⟩:=hb;simp only [VR] at Y;exact uZ none Y rfl (by simp only [W.den,bA,D.l])
  ·simp at hb
 ·split at hb
  ·simp only [ah,ak] at hb;obtain⟨rfl,rfl,rfl,rfl⟩:=hb;simp only [VR] at Y;obtain⟨x,Y⟩:=Y;exact uZ x Y rfl (by simp only [W.den,bA,D.l])
  ·simp at hb
 ·split at hb
  ·simp only [ah,ak] at hb;obtain⟨rfl,rfl,rfl,rfl⟩:=hb;simp only [VR] at Y;obtain⟨⟨x,Y⟩,_⟩:=Y;exact uZ x Y rfl (by simp only [W.den,bA,D.l])
  ·simp at hb
 ·split at hb
  ·split at hb
   ·split at hb
    ·split at hb
     ·simp only [ah,ak] at hb;obtain⟨rfl,rfl,rfl,rfl⟩:=hb;simp only [VR] at Y;obtain⟨_,a,cap,rfl,_,hc⟩:=Y;simp only [fJ] at hc;obtain⟨rfl,_⟩:=hc;exact uZ (some a) rfl rfl (by simp only [W.den,bA,D.l])
     ·simp at hb
    ·simp at hb
   ·simp at hb
  ·simp at hb
 ·simp at hb
end
section
variable {ρ:Nat->Int} {r:Row}
theorem rJ {p:W} {cs:List AV}: ∀(ds:List D) (j:Nat),(∀i,j<=i->i<j+ds.length->p.den ρ≠(i:Int))->bJ ρ r [(p,cs)] ds j=bJ ρ r [] ds j
 |[],_,_=>rfl
 |d::ds,j,h=>by have h0:=h j (ax _) (by simp only [aT]; omega);simp only [bJ,eE,af h0];rw [rJ ds (j+1) fun i U Z=>h i J (by simp only [aT]; omega)]
theorem ant {e0 e1 p:W} {cs news:List AV} {ds:List D} (g:Grown ρ r e0 e1 ds news) (hp:p.den ρ<((dec (e0.den ρ)).l.length:Int)):Ua ρ r e0 e1 [(p,cs)] [(p,cs)] ds news:=by refine⟨g.l,g.wf,g.rows,fun E' h us0 us hρ h0 U=>?_⟩;rw [g.l,mN];refine h0.append ?_;rw [rJ ds _ fun i U _=>by omega];exact g.vr E' h us _ hρ U
theorem amn {e0 e1 p:W} {news zs:List AV} {d:D} (g:Grown ρ r e0 e1 [d] zs) (hp:p.den ρ=((dec (e0.den ρ)).l.length:Int)):Ua ρ r e0 e1 [] [(p,news)] [d] news:=by
 refine⟨g.l,g.wf,g.rows,fun E' h us0 us hρ h0 U=>?_⟩;rw [g.l,mN,rJ _ _ fun i _ Z=>by omega];refine h0.append ?_;simp only [bJ,eE,aK]
 grind
theorem alf {e:Nat} {own:Option Nat} {x:AV} {h h0:Hp} {e0:W} {t:Nat} (hb:rO e own x h=some (e0,t,h0)):KA e own x h=some (e0,t,[],h0):=by
 unfold rO at hb;unfold KA
 repeat' split at hb
 all_goals first
  |(simp at hb; done)
  |(simp only [ah,ak] at hb; obtain⟨rfl,rfl,rfl⟩:=hb; simp_all)
theorem apH {e:Nat} {own:Option Nat} {x:AV} {h h0:Hp} {e0 p:W} {cs:List AV} {t:Nat} (hb:CG e x h=some (e0,t,p,cs,h0)):KA e own x h=some (e0,t,[(p,cs)],h0):=by
 unfold CG at hb;unfold KA
 repeat' split at hb
 all_goals first
  |(simp at hb; done)
  |(simp only [ah,ak] at hb; obtain⟨rfl,rfl,rfl,rfl,rfl⟩:=hb; simp_all)
end
section
variable {P:Program} {E:En} {w:World}
theorem Src.frz {E1:En} {s m:Nat} {news DX:List AV} {u:Value} {us:Array Value} (src:Src P E w s m news u us) (h:cL E1 w.heap DX us.toList):Src P E1 w s m DX u us:=
 ⟨src.len,src.first,h,src.size,src.tI⟩
theorem room_le {bytes n m:Nat} (pj:bytes≠0) (Qi:bytes<=400) (hm:(m:Int)<sO bytes 1000000) (hn:n<1000000):(n+m)*bytes<=140737488355328:=by
 have YL:(m:Int)<((140737488355328 / bytes-1000000:Nat):Int):=hm;have U:m<140737488355328 / bytes-1000000:=J
 have Z:n+m<=140737488355328 / bytes:=J
 exact bq (ar6 _ Z) (as4 _ _)
theorem z_ {bytes m:Nat} (hm:(m:Int)<sO bytes 0):(([]:List D).length+m)*bytes<=140737488355328:=by
 have YL:(m:Int)<((140737488355328 / bytes-0:Nat):Int):=hm;have Z:([]:List D).length+m<=140737488355328 / bytes:=by simp only [bj]; omega
 exact bq (ar6 _ Z) (as4 _ _)
theorem F3 {bytes n m:Nat} (hn:(n:Int)<sO bytes (m+1)) {k:Nat} (hk:k=m+1):(n+k)*bytes<=140737488355328:=by
 have XH:(n:Int)<((140737488355328 / bytes-(m+1):Nat):Int):=hn;have Z:n+k<=140737488355328 / bytes:=J
 exact bq (ar6 _ Z) (as4 _ _)
theorem rL {ρ:Nat->Int} {r:Row} {m:Nat} {e e1:W} {news:List AV} (h:mH r e m news=some e1) (hw:dec (e.den ρ)=dL (dec (e.den ρ)).l): ∃ds,ds.length=m/\Grown ρ r e e1 ds news:=by obtain⟨ds,U,Z,h3,h4,h5⟩:=xw (ρ:=ρ) m h;exact⟨ds,U,Z,h3 hw,h4,h5⟩
theorem MV [bS] {H h0:Hp} (r:ca E H w) {e:Nat} {own:Option Nat} {x:AV} {e0:W} {t:Nat} (h:rO e own x H=some (e0,t,h0)):dec (e0.den E.ρ)=dL (dec (e0.den E.ρ)).l:=by
 have hz:dec ((W.fk (.i 0)).den E.ρ)=dL (dec ((W.fk (.i 0)).den E.ρ)).l:=by simp only [W.den,bA]; rfl
 unfold rO at h;split at h
 ·split at h
  ·rename_i o hl;split at h
   ·split at h
    ·split at h
     ·split at h
      ·split at h
       ·simp only [ah,ak] at h;obtain⟨rfl,_⟩:=h;exact (r.rK hl).2.2.1
       grind
      grind
     grind
    grind
   grind
  grind
 all_goals grind
theorem Es [bS] {t t2 ty:Nat} {ie:TI} {e:Nat} {d2:TypeDesc} {u u2:Value} {us:Array Value} {news:List AV} (wW:oq P e ie) (ht:P.underlying t=some (.slice e)) (An:P.underlying t2=some d2) (kR: ∀k,d2≠.int k)
 (src:Src P E w ie.size 0 news u2 us) (ho: ∃a n cap,u= .slice a n cap/\n<=cap):(Builtin.append_ #[t,t2] ty #[u,u2]).run P w= .ok u w:=by
 obtain⟨inf,d,z,U,Z,h3,h4,h5,h6,h7,h8⟩:=wW.all;obtain⟨a,n,cap,rfl,hn⟩:=ho;have OB:us.toList= []:=arL (by rw [bn,src.size,arD])
 have:=lM (t:=t) (t2:=t2) (ty:=ty) (n:=n) (cap:=cap) (a:=a) (w':=w) ht An kR U h5 src J (by
  cases a with
  |none=>rfl
  |some a=>rw [OB]; rfl)
 grind
theorem Xk {x:AV} {u:Value} {H h0:Hp} {e t:Nat} {own:Option Nat} {e0:W} (Y:VR E w.heap x u) (hb:rO e own x H=some (e0,t,h0)): ∃a n cap,u= .slice a n cap/\n<=cap:=by
 unfold rO at hb;split at hb
 ·simp only [VR] at Y
  grind
 ·simp only [VR] at Y
  grind
 ·simp only [VR] at Y
  grind
 ·simp only [VR] at Y
  grind
 ·simp only [VR] at Y
  grind
 grind
theorem Ow {x:AV} {u:Value} {own:Option Nat} (Y:VR E w.heap x u) (hb:O? own x=true): ∃a n cap,u= .slice a n cap/\n<=cap:=by
 unfold O? at hb;split at hb
 ·simp only [VR] at Y
  grind
 ·simp only [VR] at Y
  grind
 ·simp only [VR] at Y
  grind
 ·simp only [VR] at Y
  grind
 ·simp only [VR] at Y
  grind
 ·simp only [VR] at Y
  grind
 grind
theorem Ee [bS] {s s':St} (r:ca E s.h w) (hp:cD E.ρ s.pc) {t t2 ty e m':Nat} {own:Option Nat} {ie:TI} {news:List AV} {x v:AV} {d2:TypeDesc} {u u2:Value} {us:Array Value} (wW:oq P e ie) (hu:P.underlying t=some (.slice e)) (kR:P.underlying t2=some d2) (wZ: ∀k,d2≠.int k)
 (yX:ie.size≠0) (pj:ie.bytes≠0) (yh:ie.zero.length=ie.size) (Qi:ie.bytes<=400) (src:Src P E w ie.size (m'+1) news u2 us) (Y:VR E w.heap x u) (h:(BE e own x ie m' news s).leaf E.ρ=some (v,s')) :
 s'.bH=s.bH/\cD E.ρ s'.pc/\∃z w' E',(Builtin.append_ #[t,t2] ty #[u,u2]).run P w= .ok z w'/\fP E s.h w E' s'.h w'/\ca E' s'.h w'/\VR E' w'.heap v z:=by
 unfold BE at h;obtain⟨DX,U,pcF,E1,hpF,f,P4,h⟩:=rC rfl r hp h;split at h
 ·rename_i e0 t' h0 hb;split at h
  ·rename_i hc;obtain⟨me,hm⟩:=hc;have hρ:=f.ρ;obtain⟨j3,jH,Z⟩:=du (s:={ s with h:=U,pc:=pcF }) hpF h;split at Z
   ·rename_i t3;rw [eA,decide_eq_true_eq,cW] at t3;simp only [W.den] at t3;split at Z
    ·rename_i e1 hcr;have:=bC Z;simp only [ak] at this;obtain⟨rfl,rfl⟩:=this;obtain⟨ds,yi,g⟩:=rL (ρ:=E1.ρ) hcr (MV f.rel hb);obtain⟨z,w',E',p1,p2,p3,p4⟩:=Aj (t:=t) (t2:=t2) (ty:=ty) f.rel wW hu kR wZ yX pj yh Qi (src.frz (P4 _ src.YB)) J (VR.dv (f.eI.keeps r) _ _ Y) hb me g yi (F3 (by rw [hρ]; exact t3) J);exact⟨rfl,jH,z,w',E',p1,f.eI.trans p2,p3,p4⟩
    grind [T.leaf]
   grind [T.leaf]
  grind [T.leaf]
 grind [T.leaf]
theorem am8 [bS] {H h0:Hp} (r:ca E H w) {e:Nat} {x:AV} {e0 p:W} {cs:List AV} {t:Nat} (h:CG e x H=some (e0,t,p,cs,h0)):dec (e0.den E.ρ)=dL (dec (e0.den E.ρ)).l/\wI (rowOf t) [(p,cs)]:=by
 unfold CG at h;split at h
 ·split at h
  ·rename_i hl;split at h
   ·split at h
    ·grind
    ·split at h
     ·split at h
      ·rename_i ht;split at h
       ·split at h
        ·simp only [ah,ak] at h;obtain⟨rfl,rfl,rfl,rfl,_⟩:=h;have ht:=az ht;subst ht;exact⟨(r.rK hl).2.2.1,(r.rK hl).2.1⟩
        grind
       grind
      grind
     grind
   grind
  grind
 grind
theorem Mq [bS] {s s':St} (r:ca E s.h w) (hp:cD E.ρ s.pc) {t t2 ty e m':Nat} {own:Option Nat} {ie:TI} {news:List AV} {x v:AV} {d2:TypeDesc} {u u2:Value} {us:Array Value} (wW:oq P e ie) (hu:P.underlying t=some (.slice e)) (kR:P.underlying t2=some d2) (wZ: ∀k,d2≠.int k)
 (yX:ie.size≠0) (pj:ie.bytes≠0) (yh:ie.zero.length=ie.size) (Qi:ie.bytes<=400) (src:Src P E w ie.size (m'+1) news u2 us) (Y:VR E w.heap x u) (h:(De e x ie m' news s).leaf E.ρ=some (v,s')) :
 s'.bH=s.bH/\cD E.ρ s'.pc/\∃z w' E',(Builtin.append_ #[t,t2] ty #[u,u2]).run P w= .ok z w'/\fP E s.h w E' s'.h w'/\ca E' s'.h w'/\VR E' w'.heap v z:=by
 unfold De at h;obtain⟨DX,U,pcF,E1,hpF,f,P4,h⟩:=rC rfl r hp h;split at h
 ·rename_i e0 t' p cs h0 hb;split at h
  ·rename_i hc;obtain⟨me,hm⟩:=hc;have hρ:=f.ρ;obtain⟨j3,jH,Z⟩:=du (s:={ s with h:=U,pc:=pcF }) hpF h;split at Z
   ·rename_i t3;rw [eA,decide_eq_true_eq,cW] at t3;simp only [W.den] at t3;obtain⟨qA,pI,h3⟩:=du (s:={ s with h:=U,pc:=j3 }) jH Z;split at h3
    ·rename_i t4;rw [eA,decide_eq_true_eq,cW] at t4;split at h3
     ·rename_i e1 hcr;have:=bC h3;simp only [ak] at this;obtain⟨rfl,rfl⟩:=this;obtain⟨hw1,hw2⟩:=am8 f.rel hb;obtain⟨ds,yi,g⟩:=rL (ρ:=E1.ρ) hcr hw1;obtain⟨z,w',E',p1,p2,p3,p4⟩:=Er (t:=t) (t2:=t2) (ty:=ty) f.rel wW hu kR wZ yX pj yh Qi (src.frz (P4 _ src.YB)) J (VR.dv (f.eI.keeps r) _ _ Y) (apH (own:=own) hb) me (ant g (by rw [hρ]; exact t4)) yi hw2 (F3 (by rw [hρ]; exact t3) J);exact⟨rfl,pI,z,w',E',p1,f.eI.trans p2,p3,p4⟩
     grind [T.leaf]
    grind [T.leaf]
   grind [T.leaf]
  grind [T.leaf]
 grind [T.leaf]
theorem Mp [bS] {s s':St} (r:ca E s.h w) (hp:cD E.ρ s.pc) {t t2 ty e m':Nat} {own:Option Nat} {ie:TI} {news:List AV} {x v:AV} {d2:TypeDesc} {u u2:Value} {us:Array Value} (wW:oq P e ie) (hu:P.underlying t=some (.slice e)) (kR:P.underlying t2=some d2) (wZ: ∀k,d2≠.int k)
 (yX:ie.size≠0) (pj:ie.bytes≠0) (yh:ie.zero.length=ie.size) (Qi:ie.bytes<=400) (src:Src P E w ie.size (m'+1) news u2 us) (Y:VR E w.heap x u) (h:(Dd e own x ie m' news s).leaf E.ρ=some (v,s')) :
 s'.bH=s.bH/\cD E.ρ s'.pc/\∃z w' E',(Builtin.append_ #[t,t2] ty #[u,u2]).run P w= .ok z w'/\fP E s.h w E' s'.h w'/\ca E' s'.h w'/\VR E' w'.heap v z:=by
 unfold Dd at h;split at h
 ·rename_i e0 t' h0 hb;split at h
  ·rename_i hc;obtain⟨me,rfl⟩:=hc;obtain⟨j3,jH,Z⟩:=du hp h;split at Z
   ·rename_i t3;obtain⟨qA,pI,h3⟩:=du (s:={ s with pc:=j3 }) jH Z;split at h3
    ·rename_i t4;rw [eA,decide_eq_true_eq,cW] at t4;simp only [W.den] at t4;split at h3
     ·rename_i e1 hcr;have:=bC h3;simp only [ak] at this;obtain⟨rfl,rfl⟩:=this;obtain⟨ds,yi,g⟩:=rL (ρ:=E.ρ) hcr (MV r hb)
      obtain⟨d,rfl⟩ : ∃d,ds= [d]:=by
       cases ds with
       |nil=>simp at yi
       |cons d l=>cases l with
        |nil=>exact⟨d,rfl⟩
        |cons a b=>simp at yi
      have hnl:news.length=(rowOf t').es:=by
       have U:=src.YB.length;have Z:=src.size
       grind
      obtain⟨z,w',E',p1,p2,p3,p4⟩:=Er (t:=t) (t2:=t2) (ty:=ty) r wW hu kR wZ yX pj yh Qi src J Y (alf hb) me (amn (p:=.dP 0) g (by rw [jQ,cW] at t3; simp only [beq_iff_eq] at t3; exact t3.symm)) yi (fun q hq=>by simp only [as5] at hq; subst hq; exact hnl) (F3 t4 J)
      grind
     grind [T.leaf]
    grind [T.leaf]
   ·obtain⟨q1,q2,q3⟩:=Ee (s:={ s with pc:=j3 }) r jH (ty:=ty) wW hu kR wZ yX pj yh Qi src Y Z
    grind
  grind [T.leaf]
 grind [T.leaf]
set_option maxHeartbeats 800000 in
theorem Mn [bS] {tt:TT} (db:fj P tt) {s s':St} (r:ca E s.h w) (hp:cD E.ρ s.pc) {t t2 ty:Nat} {x y v:AV} {u u2:Value} (Y:VR E w.heap x u) (hy:VR E w.heap y u2) (hsl:agm y=false->∃a n cap,u= .slice a n cap/\n<=cap) (h:(Dc tt t t2 x y s).leaf E.ρ=some (v,s')) :
 s'.bH=s.bH/\cD E.ρ s'.pc/\∃z w' E',(Builtin.append_ #[t,t2] ty #[u,u2]).run P w= .ok z w'/\fP E s.h w E' s'.h w'/\ca E' s'.h w'/\VR E' w'.heap v z:=by
 unfold Dc at h;split at h
 ·rename_i ti iI;split at h
  ·rename_i e hk;split at h
   ·rename_i ie mL;split at h
    ·simp [T.leaf] at h
    ·rename_i Ui S!;obtain⟨d2,kR,D7⟩:=tO (db t2 Ui S!);split at h
     ·simp [T.leaf] at h
     ·rename_i k2 jK
      have wZ: ∀k,d2≠.int k:=by intro k V;subst V;cases zT:Ui.kind<;>rw [zT] at D7<;>simp only [KG] at D7;exact jK _ zT
      split at h
      ·simp [T.leaf] at h
      ·rename_i j7;simp only [not_or,Classical.not_not] at j7;obtain⟨yX,pj,yh,Qi⟩:=j7;have wW:=db e ie mL;have hu:=fT (db t ti iI) hk;split at h
       ·
        rename_i e2 ty2;split at h
        ·rename_i e0 t' h0 hb;split at h
         ·rename_i hc;obtain⟨me,jt⟩:=hc;obtain⟨j3,jH,U⟩:=du hp h;rw [mY,cW] at U;simp only [VR] at hy;obtain⟨xa,aqN,hu2,_⟩:=hy.slice;split at U
          ·rename_i hz;simp only [W.den,beq_iff_eq] at hz;have:=bC U;simp only [ak] at this;obtain⟨rfl,rfl⟩:=this;have Bc:(dec (e2.den E.ρ)).l.length=0:=J
           rw [Bc] at hu2;subst hu2
           have src:Src P E w ie.size 0 [] (.slice xa 0 aqN) #[]:=⟨fun _=>rfl,fun w2 _=>by
            cases xa with
            |none=>simp [Builtin.firstCells]
            |some a=>simp only [Builtin.firstCells,arD]; rfl,by simp [cL],ad,ad⟩
           exact⟨rfl,jH,u,w,E,Es wW hu kR wZ src (Xk Y hb),fP.refl _ _ _,r,Y⟩
          ·rename_i hz;simp only [W.den,beq_eq_false_iff_ne,ne_eq] at hz;obtain⟨qA,pI,Z⟩:=du (s:={ s with pc:=j3 }) jH U;split at Z
           ·rename_i M9;obtain⟨pc3,OC,h3⟩:=du (s:={ s with pc:=qA }) pI Z;split at h3
            ·rename_i t3;rw [eA,decide_eq_true_eq,cW] at M9 t3;simp only [W.den] at M9 t3;have anV:(dec (e2.den E.ρ)).l≠[]:=by intro q; rw [q] at hz; simp at hz
             obtain⟨us,src⟩:=aeN (P:=P) (w:=w) hy anV;rw [jt] at src;rw [me] at src
             have nz:0<(dec (e2.den E.ρ)).l.length:=by
              rcases ar9 (dec (e2.den E.ρ)).l.length with q|q
              ·omega
              ·exact q
             have ake:dec (e2.den E.ρ)=dL (dec (e2.den E.ρ)).l/\∀d∈(dec (e2.den E.ρ)).l,rS (rowOf ty2) d:=by
              have key: ∀{d:D} {v:Value},Rd E.ro w.heap (.sl ty2) d v->d.l≠[]->d=dL d.l/\∀x∈d.l,rS (rowOf ty2) x:=by
               intro d v hr jK
               have acD: ∀{c:CK} {d:D} {v:Value},Rd E.ro w.heap c d v->rT c d:=by
                intro c d v hr
                cases hr with
                |int k n=>rfl
                |bool b=>cases b<;>simp [rT]
                |str s=>trivial
                |nil t=>trivial
                |xZ t a cap=>trivial
                |one t c b o cap ds f hr hc hb U Z=>trivial
                |many t cs b o cap rows f hr hc hb hl U Z=>trivial
               generalize hc:CK.sl ty2=c at hr
               cases hr with
               |int k n=>simp at hc
               |bool b=>simp at hc
               |str s=>simp at hc
               |nil t=>exact absurd rfl jK
               |xZ t a cap=>exact absurd rfl jK
               |one t c b o cap ds f hr eM hb U Z=> simp only [CK.sl.injEq] at hc;subst hc;refine⟨by rw [bz],fun x Y=>?_⟩;rw [bz] at Y;obtain⟨i,hi⟩:=asm.1 Y;rw [hr];exact acD (Z i x hi)
               |many t cs b o cap rows f hr eM hb hl U Z=> simp only [CK.sl.injEq] at hc;subst hc;refine⟨by rw [bz],fun x Y=>?_⟩;rw [bz,aR] at Y;obtain⟨row,hrm,rfl⟩:=Y;obtain⟨i,hi⟩:=asm.1 hrm;rw [hr];refine⟨by rw [bz],by rw [bz]; exact hl row hrm,fun j c y hj hy=>?_⟩;rw [bz] at hy;exact acD (Z i row j y c hi hy hj)
              exact key hy anV
             rw [jt] at ake
             have grown: ∀e1:W,(dec (e1.den E.ρ)).l=(dec (e0.den E.ρ)).l++(dec (e2.den E.ρ)).l->dec (e1.den E.ρ)=dL (dec (e1.den E.ρ)).l->Grown E.ρ (rowOf t') e0 e1 (dec (e2.den E.ρ)).l (bJ E.ρ (rowOf t') [] (dec (e2.den E.ρ)).l 0):=by
              intro e1 q1 q2;refine⟨q1,q2,ake.2,fun E' h us j hρ hv=>?_⟩
              have:bJ E.ρ (rowOf t') [] (dec (e2.den E.ρ)).l j=bJ E.ρ (rowOf t') [] (dec (e2.den E.ρ)).l 0:=by
               generalize (dec (e2.den E.ρ)).l=L;clear hv q1 q2
               have gen: ∀(L:List D) (a b:Nat),bJ E.ρ (rowOf t') [] L a=bJ E.ρ (rowOf t') [] L b:=by
                intro L
                induction L with
                |nil=>intro a b; rfl
                |cons d L ih=>intro a b; simp only [bJ,eE]; rw [ih (a+1) (b+1)]
               exact gen L j 0
              rw [this];exact hv
             have hbw:=MV r hb;split at h3
             ·rename_i pJ
              have aob:(dec (e0.den E.ρ)).l= []:=by
               unfold R9 at pJ;split at pJ
               ·split at pJ
                ·simp only [W.den,bA,D.l]
                ·simp at pJ
               ·simp at pJ
              have:=bC h3;simp only [ak] at this;obtain⟨rfl,rfl⟩:=this;obtain⟨z,w',E',p1,p2,p3,p4⟩:=Aj (t:=t) (t2:=t2) (ty:=ty) r wW hu kR wZ yX pj yh Qi src nz Y hb me (grown e2 (by rw [aob,au]) ake.1) rfl (by rw [aob]; refine z_ (bytes:=ie.bytes) ?_; have q:=M9; unfold z! at q; rw [pJ] at q; exact q);exact⟨rfl,OC,z,w',E',p1,p2,p3,p4⟩
             ·rename_i pJ;have:=bC h3;simp only [ak] at this;obtain⟨rfl,rfl⟩:=this;obtain⟨z,w',E',p1,p2,p3,p4⟩:=Aj (t:=t) (t2:=t2) (ty:=ty) r wW hu kR wZ yX pj yh Qi src nz Y hb me (grown (.op .cat e0 e2) (by simp only [W.den,gT.den,bA,bz]) (by simp only [W.den,gT.den,bA,bz])) rfl (room_le pj Qi (by have q:=M9; unfold z! at q; rw [pJ] at q; exact q) J);exact⟨rfl,OC,z,w',E',p1,p2,p3,p4⟩
            ·simp [T.leaf] at h3
           ·simp [T.leaf] at Z
         ·simp [T.leaf] at h
        ·simp [T.leaf] at h
       ·
        split at h
        ·rename_i m news Sj;obtain⟨us,src⟩:=sq (P:=P) r hy Sj;split at h
         ·have:=bC h;simp only [ak] at this;obtain⟨rfl,rfl⟩:=this
          exact⟨rfl,hp,u,w,E,Es wW hu kR wZ src (hsl (by
           cases y<;>first |rfl|(rename_i hnd _ _ _; exact absurd rfl (hnd _ _))|(rename_i hnd; exact absurd rfl (hnd _ _)))),fP.refl _ _ _,r,Y⟩
         ·rename_i m';split at h
          ·exact Mq (own:=ti.own) r hp wW hu kR wZ yX pj yh Qi src Y h
          ·split at h
           ·exact Mp r hp wW hu kR wZ yX pj yh Qi src Y h
           ·exact Ee r hp wW hu kR wZ yX pj yh Qi src Y h
        ·simp [T.leaf] at h
   ·simp [T.leaf] at h
  ·simp [T.leaf] at h
 ·simp [T.leaf] at h
end
section
variable {P:Program} {E:En} {w:World}
theorem Uf {h:Array Obj} {id t:Nat} {n:W} {u:Value} (hv:VR E h (.rV id n t) u):VR E h (.vT id (.lit 0) n t) u:=by simp only [VR] at hv ⊢;obtain⟨U,k,a,cap,Z,h3,h4,h5⟩:=hv;exact⟨U,0,k,a,cap,rfl,Z,h3,h4,by rw [arD]; exact h5⟩
theorem SJ {tt:TT} (db:fj P tt) {s s':St} (hp:cD E.ρ s.pc) {ty t id:Nat} {lo n:W} {ix v:AV} {u ui:Value} (Y:VR E w.heap (.vT id lo n t) u) (Be:VR E w.heap ix ui) (h:(L3 tt s ty id t lo n ix).leaf E.ρ=some (v,s')) :
 s'.bH=s.bH/\s'.h=s.h/\cD E.ρ s'.pc/\∃r,(Instr.indexAt ty u ui).run P w= .ok r w/\VR E w.heap v r:=by
 unfold L3 at h;split at h
 ·rename_i kd i;split at h
  ·rename_i z hz;split at h
   ·rename_i me;obtain⟨fU,gQ,U,Z,h3⟩:=oY hp h;have:=bC h3;simp only [ak] at this;obtain⟨rfl,rfl⟩:=this;refine⟨rfl,rfl,gQ,?_⟩;simp only [VR] at Y Be;subst Be;obtain⟨hid,l,m,a,cap,hl,hn,rfl,lH,hc⟩:=Y;obtain⟨el,ie,hu,mL,rfl⟩:=oT db hz;obtain⟨k,hk⟩ : ∃k:Nat,i.den E.ρ=(k:Int):=⟨(i.den E.ρ).toNat,J⟩;have gy:k<m:=J
    have ha:a=⟨(E.θ id).1,(E.θ id).2+l*ie.size,none⟩:=by
     simp only [fJ] at hc
     grind
    subst ha;refine⟨.pointer (some ⟨(E.θ id).1,(E.θ id).2+l*ie.size+k*ie.size,none⟩),?_,?_⟩
    ·rw [hk];simp [Instr.indexAt,asIntOf,run_underlying hu,eV (db el ie mL),gy,fL]
    ·simp only [VR];exact⟨hid,l+k,by rw [qY,hl,hk]; rfl,by rw [arA,arK,arz]⟩
   ·simp [T.leaf] at h
  ·simp [T.leaf] at h
 ·simp [T.leaf] at h
theorem L! {lo:Option AV} {Am:Option Value} {l:W} {n:Nat} (h:loE lo=some l) (qC:ij E w.heap lo Am) (hn:l.den E.ρ=(n:Int)) :
 ∃YF,ij E w.heap YF Am/\∀y,n<=y->pr YF 0 y=some n:=by
 unfold loE at h;split at h
 ·simp only [ah] at h;subst h;simp only [W.den] at hn
  grind [pr]
 ·split at h
  ·rename_i v k q;simp only [ah] at h;subst h;obtain⟨y,rfl,hy⟩:=qC;refine⟨some (.int k (.lit (Int.ofNat n))),⟨y,rfl,?_⟩,fun y hy=>by simp [pr,lF,hy]⟩;simp only [VR,W.den] at hy ⊢
   grind
  grind
theorem Ff {k:IntKind} {q:W} {n:Nat} {o:Option Value} (hq:q.den E.ρ=(n:Int)) (ho:ij E w.heap (some (.int k q)) o):ij E w.heap (some (.int k (.lit (Int.ofNat n)))) o:=by
 obtain⟨y,rfl,hy⟩:=ho;refine⟨y,rfl,?_⟩;simp only [VR,W.den] at hy ⊢
 grind
theorem Fv {k:IntKind} {n d y:Nat} (hn:n<=y):pr (some (.int k (.lit (Int.ofNat n)))) d y=some n:=by simp [pr,lF,hn]
theorem Hh [bS] {tt:TT} (db:fj P tt) {s s':St} (r:ca E s.h w) (hp:cD E.ρ s.pc) {ty id t:Nat} {lo0 n0:W} {lo hi mx:Option AV} {Am hi' mx':Option Value} {v:AV} {u:Value} (Y:VR E w.heap (.vT id lo0 n0 t) u)
 (qC:ij E w.heap lo Am) (Aq:ij E w.heap hi hi') (zS:ij E w.heap mx mx') (h:(Fm tt s ty id t lo0 n0 lo hi mx).leaf E.ρ=some (v,s')) :
 s'.bH=s.bH/\s'.h=s.h/\cD E.ρ s'.pc/\∃r,(Instr.sliceAt ty u Am hi' mx').run P w= .ok r w/\VR E w.heap v r:=by
 unfold Fm at h;split at h
 ·simp [T.leaf] at h
 ·rename_i z hz;split at h
  ·rename_i j7;obtain⟨me,hz0⟩:=j7;obtain⟨el,ie,hu,mL,rfl⟩:=oT db hz;have iY:=eV (db el ie mL);simp only [VR] at Y;obtain⟨hid,l0,m0,a,cap,g1,g2,rfl,lH,hc⟩:=Y
   have fin: ∀(l k:Nat) (e1 e2:W),(Instr.sliceBounds true m0 cap Am hi' none).run P w= .ok (l,k,cap) w->l<=k->k<=cap->e1.den E.ρ=(l:Int)->e2.den E.ρ=(k:Int)->
    ∃r,(Instr.sliceAt ty (.slice (some a) m0 cap) Am hi' none).run P w= .ok r w/\VR E w.heap (.vT id (ua lo0 e1) (FR e2 e1) t) r:=by
    intro l k e1 e2 hb hlk hk Ss he2;refine⟨.slice (some (if cap=l then a else a.add (l*ie.size))) (k-l) (cap-l),?_,?_⟩
    ·simp [Instr.sliceAt,run_underlying hu,Instr.slice,hb,iY]<;>split<;>rfl
    ·simp only [VR];refine⟨hid,l0+l,k-l,_,_,by rw [qY,g1,Ss]; rfl,by rw [WU,Ss,he2]; omega,rfl,J,?_⟩;rw [arK];have q:=rM (l:=l) (h:=k) (m:=cap) (es:=(rowOf t).es) hc lH hlk hk (ax _) (.inr (.inr ⟨rfl,rfl,rfl⟩)) (rowOf t).es (fun _=>rfl);rw [me];exact q
   split at h
   ·simp [T.leaf] at h
   ·rename_i ql hql;obtain⟨j3,jH,U⟩:=du hp h;split at U
    ·simp [T.leaf] at U
    ·rename_i t1;rw [eA,decide_eq_false_iff_not] at t1;simp only [W.den,ar7] at t1;obtain⟨l,hl⟩ : ∃l:Nat,ql.den E.ρ=(l:Int):=⟨(ql.den E.ρ).toNat,J⟩;obtain⟨YF,W?,od⟩:=L! hql qC hl;split at U
     ·
      simp only [ij] at Aq;subst Aq;split at U
      ·simp [T.leaf] at U
      ·simp only [ij] at zS;subst zS;obtain⟨qA,pI,Z⟩:=du (s:={ s with pc:=j3 }) jH U;split at Z
       ·simp [T.leaf] at Z
       ·rename_i t2;have:=bC Z;simp only [ak] at this;obtain⟨rfl,rfl⟩:=this;rw [eA,decide_eq_false_iff_not] at t2;have hlm:l<=m0:=J
        obtain⟨e1,e2⟩:=gK (P:=P) (w:=w) (isSlice:=true) (len:=m0) (cap:=cap) (m0:=cap) (d:=0) (m:=cap) (h0:=cap) (h:=m0) (l:=l) W? (hi:=none) (hi':=none) (by simp [ij]) (mx:=none) (mx':=none) (by simp [ij]) ad (.inl ⟨rfl,rfl,ax _⟩) (by simp [pr,lH]) ⟨fun _=>ax _,ad⟩ (od _ hlm);exact⟨rfl,rfl,pI,fin l m0 _ _ e1 hlm lH hl g2⟩
     ·rename_i hv;split at U
      ·rename_i kh qh;obtain⟨qA,pI,Z⟩:=du (s:={ s with pc:=j3 }) jH U;split at Z
       ·simp [T.leaf] at Z
       ·rename_i t2;rw [eA,decide_eq_false_iff_not] at t2;obtain⟨k,hk⟩ : ∃k:Nat,qh.den E.ρ=(k:Int):=⟨(qh.den E.ρ).toNat,J⟩;have hlk:l<=k:=J
        split at Z
        ·rename_i mv;split at Z
         ·rename_i km qm;obtain⟨pc3,OC,h3⟩:=du (s:={ s with pc:=qA }) pI Z;split at h3
          ·simp [T.leaf] at h3
          ·rename_i t3;obtain⟨pc4,hp4,h4⟩:=du (s:={ s with pc:=pc3 }) OC h3;split at h4
           ·simp [T.leaf] at h4
           ·rename_i t4;have:=bC h4;simp only [ak] at this;obtain⟨rfl,rfl⟩:=this;rw [eA,decide_eq_false_iff_not] at t3 t4;obtain⟨m,hm⟩ : ∃m:Nat,qm.den E.ρ=(m:Int):=⟨(qm.den E.ρ).toNat,J⟩;obtain⟨e1,e2⟩:=gK (P:=P) (w:=w) (isSlice:=true) (len:=m0) (cap:=cap) (m0:=cap) (d:=0) (m:=m) (h0:=m) (h:=k) (l:=l) W? (Ff hk Aq) (Ff hm zS) ad (.inr ⟨_,rfl,Fv J,ax _⟩) (Fv J) ⟨ad,fun _=>rfl⟩ (od _ hlk);refine⟨rfl,rfl,hp4,.slice (some (if m=l then a else a.add (l*ie.size))) (k-l) (m-l),?_,by simp only [VR]⟩;simp [Instr.sliceAt,run_underlying hu,Instr.slice,e1,iY]<;>split<;>rfl
         ·simp [T.leaf] at Z
        ·simp only [ij] at zS;subst zS
         have go:k<=cap->∃r,(Instr.sliceAt ty (.slice (some a) m0 cap) Am hi' none).run P w= .ok r w/\VR E w.heap (.vT id (ua lo0 ql) (FR qh ql) t) r:=by intro hkc;obtain⟨e1,e2⟩:=gK (P:=P) (w:=w) (isSlice:=true) (len:=m0) (cap:=cap) (m0:=cap) (d:=0) (m:=cap) (h0:=cap) (h:=k) (l:=l) W? (Ff hk Aq) (mx:=none) (mx':=none) (by simp [ij]) ad (.inl ⟨rfl,rfl,ax _⟩) (Fv hkc) ⟨fun _=>ax _,ad⟩ (od _ hlk);exact fin l k _ _ e1 hlk hkc hl hk
         obtain⟨pc3,OC,h3⟩:=du (s:={ s with pc:=qA }) pI Z;split at h3
         ·rename_i t3;have:=bC h3;simp only [ak] at this;obtain⟨rfl,rfl⟩:=this;rw [eA,decide_eq_false_iff_not] at t3;exact⟨rfl,rfl,OC,go J⟩
         ·split at h3
          ·simp [T.leaf] at h3
          ·rename_i hz1;split at h3
           ·simp [T.leaf] at h3
           ·rename_i e Cf hva;obtain⟨pc4,hp4,h4⟩:=du (s:={ s with pc:=pc3 }) OC h3;split at h4
            ·simp [T.leaf] at h4
            ·rename_i t4;have:=bC h4;simp only [ak] at this;obtain⟨rfl,rfl⟩:=this;rw [eA,decide_eq_false_iff_not,cW] at t4;refine⟨rfl,rfl,hp4,go ?_⟩;have hlv:=uo hva;obtain⟨ho,q0⟩:=OR.rK.1 (r.live id _ hlv).2.1;have aqj:=GN hz1;subst aqj;simp only [W.den] at g1;have P6:l0=0:=J
             subst P6;simp only [OR] at q0;obtain⟨arr,lo1,hi1,us,q1,q2,q3,q4,q5,q6,q7⟩:=q0;unfold cU at q4;rw [cX ho.1] at q4;have jK:0<(dec (e.den E.ρ)).l.length:=arY.2 ho.2.2.2;have nz:0<(rowOf t).es:=J
             simp only [fJ] at hc
             have hκ:(dec (e.den E.ρ)).l.length<=cap:=by
              rcases hc with hc|hc
              ·have:(dec (e.den E.ρ)).l.length*(rowOf t).es<=cap*(rowOf t).es:=J
               exact as0 this nz
              ·have:=asu jK nz;omega
             omega
      ·simp [T.leaf] at U
  ·simp [T.leaf] at h
theorem S3 [bS] {tt:TT} (db:fj P tt) {s s':St} (hp:cD E.ρ s.pc) {ty t:Nat} {z:W} {lo hi mx:Option AV} {Am hi' mx':Option Value} {v:AV} {u:Value} (Y:VR E w.heap (.At z t) u)
 (qC:ij E w.heap lo Am) (Aq:ij E w.heap hi hi') (zS:ij E w.heap mx mx') (h:(Mg tt s ty z t lo hi mx).leaf E.ρ=some (v,s')) :
 s'.bH=s.bH/\s'.h=s.h/\cD E.ρ s'.pc/\∃r,(Instr.sliceAt ty u Am hi' mx').run P w= .ok r w/\VR E w.heap v r:=by
 unfold Mg at h;split at h
 ·grind [T.leaf]
 ·simp only [ij] at zS;subst zS;split at h
  ·grind [T.leaf]
  ·rename_i zz hz;obtain⟨el,ie,hu,mL,rfl⟩:=oT db hz;have iY:=eV (db el ie mL);split at h
   ·rename_i B6;split at h
    ·rename_i od;have:=bC h;simp only [ak] at this;obtain⟨rfl,rfl⟩:=this;have hx0:=Y;simp only [VR] at Y;obtain⟨⟨x,rfl⟩,hr⟩:=Y;obtain⟨e1,e2⟩:=gK (P:=P) (w:=w) (isSlice:=true) (len:=0) (cap:=0) (m0:=0) (d:=0) (m:=0) qC Aq (mx:=none) (mx':=none) (by simp [ij]) ad (.inl ⟨rfl,rfl,ax _⟩) B6 ⟨fun _=>ax _,ad⟩ od;refine⟨rfl,rfl,hp,.slice x 0 0,?_,hx0⟩;simp [Instr.sliceAt,run_underlying hu,Instr.slice,e1,iY]
    grind [T.leaf]
   grind [T.leaf]
end
theorem FX: ∀{B Z?:List AV},Z?.length=B.length->ez B 0 Z?=some Z?
 |[],[],_=>rfl
 |[],_::_,h=>by simp at h
 |_::_,[],h=>by simp at h
 |b::B,v::Z?,h=>by simp only [ez];rw [FX (by simpa using h)]
theorem Rn {A B C Z?:List AV} (h:Z?.length=B.length):ez (A++(B++C)) A.length Z?=some (A++(Z?++C)):=by
 have:=uu A (pz C (FX h))
 grind
theorem IP {α:Type}: ∀{a b:List α},jk a.length (a++b)=some a
 |[],b=>rfl
 |x::a,b=>by simp only [aT,aM,jk,IP]
theorem lK {ρ:Nat->Int} {r:Row}: ∀(L:List D) (a b:Nat),bJ ρ r [] L a=bJ ρ r [] L b
 |[],_,_=>rfl
 |d::L,a,b=>by simp only [bJ,eE]; rw [lK L (a+1) (b+1)]
theorem kr {ρ:Nat->Int} {r:Row}: ∀(A B:List D),bJ ρ r [] (A++B) 0=bJ ρ r [] A 0++bJ ρ r [] B 0
 |[],B=>rfl
 |d::A,B=>by simp only [aM,bJ,eE,bp];rw [lK (A++B) 1 0,lK A 1 0,kr A B]
section
variable {P:Program} {E:En} {w:World}
theorem Zx [bS] {H:Hp} (r:ca E H w) {id t:Nat} {e0:W} {ub:TypeId} (hl:H.get id=some (.vec e0 t ub [])) (yX:(rowOf t).es≠0) {k cap:Nat} {a:Addr} (hc:fJ E id 0 k a cap (.rest (rowOf t).es)) :
 a=⟨(E.θ id).1,(E.θ id).2,none⟩/\(dec (e0.den E.ρ)).l.length<=cap:=by
 obtain⟨ho,q0⟩:=OR.rK.1 (r.live id _ hl).2.1;simp only [OR] at q0;obtain⟨arr,lo1,hi1,us,q1,q2,q3,q4,q5,q6,q7⟩:=q0;unfold cU at q4;rw [cX ho.1] at q4;have jK:0<(dec (e0.den E.ρ)).l.length:=arY.2 ho.2.2.2;have nz:0<(rowOf t).es:=J
 simp only [fJ] at hc;rcases hc with hc|hc
 ·refine⟨by simpa using hc.1,?_⟩;have:(dec (e0.den E.ρ)).l.length*(rowOf t).es<=cap*(rowOf t).es:=J
  exact as0 this nz
 ·have:=asu jK nz;omega
theorem FA [bS] {H:Hp} (r:ca E H w) {id t:Nat} {e0:W} {ub:TypeId} (hl:H.get id=some (.vec e0 t ub [])) {n mm:Nat} (hle:n+mm<=(dec (e0.den E.ρ)).l.length) {ds:List D} (yi:ds.length=mm) (yF: ∀d∈ds,rS (rowOf t) d)
 {us:List Value} (hv:cL E w.heap (bJ E.ρ (rowOf t) [] ds 0) us) (U: ∀u∈us,u.oneCell'=true) {e1:W} (Ss:dec (e1.den E.ρ)=dL ((dec (e0.den E.ρ)).l.take n++ds++(dec (e0.den E.ρ)).l.drop (n+mm))) :
 ∃w',(storeCells ⟨(E.θ id).1,(E.θ id).2+n*(rowOf t).es,none⟩ us).run P w= .ok () w'/\fP E H w E (H.put id (.vec e1 t ub [])) w'/\ca E (H.put id (.vec e1 t ub [])) w':=by
 obtain⟨rc,ho,hw⟩:=r.rK hl;generalize hL:(dec (e0.den E.ρ)).l=L at *
 have hsp:L=L.take n++((L.drop n).take mm++L.drop (n+mm)):=by
  conv=>lhs; rw [<- ar8 n L]
  congr 1
  conv=>lhs; rw [<- ar8 mm (L.drop n)]
  simp_all
 have hc:cU E.ρ e0 t []=bJ E.ρ (rowOf t) [] (L.take n) 0++(bJ E.ρ (rowOf t) [] ((L.drop n).take mm) 0++bJ E.ρ (rowOf t) [] (L.drop (n+mm)) 0):=by
  unfold cU;rw [hL]
  conv=>lhs; rw [hsp]
  rw [kr,kr]
 have hlA:(bJ E.ρ (rowOf t) [] (L.take n) 0).length=n*(rowOf t).es:=by
  rw [cX (lC _),a8]
  grind
 have hsl:ez (cU E.ρ e0 t []) (n*(rowOf t).es) (bJ E.ρ (rowOf t) [] ds 0)=some (cU E.ρ e1 t []):=by
  have:cU E.ρ e1 t []=bJ E.ρ (rowOf t) [] (L.take n) 0++(bJ E.ρ (rowOf t) [] ds 0++bJ E.ρ (rowOf t) [] (L.drop (n+mm)) 0):=by unfold cU;rw [Ss,bz,kr,kr,bp]
  rw [this,hc,<- hlA];refine Rn ?_;rw [cX (lC _),cX (lC _),a8,bo,yi]
  grind
 obtain⟨w',g1,g2,g3⟩:=mP (P:=P) rc (by rw [Hp.bV,ag rfl]) hsl hv U;have al1:II (H.put id (.cells (cU E.ρ e0 t []) ub)) H:=(II.put hl).symm
 have al2:II ((H.put id (.cells (cU E.ρ e0 t []) ub)).put id (.cells (cU E.ρ e1 t []) ub)) (H.put id (.vec e1 t ub [])):=by
  refine⟨fun j y hj=>?_,fun j y hj=>?_,rfl,rfl⟩
  ·rw [Hp.bV];split
   ·grind
   ·rename_i jK;rw [Hp.bV,af jK,Hp.bV,af jK] at hj
    grind
  ·rw [Hp.bV] at hj ⊢;split
   ·grind
   ·rename_i jK;rw [af jK] at hj;rw [Hp.bV,af jK];exact⟨y,hj⟩
 have C5:=(g3.live id _ (by rw [Hp.bV,ag rfl])).2.1
 have hor:OR E w'.heap id (.vec e1 t ub []):=by
  refine OR.rK.2 ⟨⟨lC _,?_⟩,C5⟩;rw [Ss];refine⟨by rw [bz],?_,?_⟩
  ·rw [bz];intro d V;rcases arG.1 V with V|V
   ·rcases arG.1 V with V|V
    ·exact hw.2.1 d (by rw [hL]; exact arx V)
    ·exact yF d V
   ·exact hw.2.1 d (by rw [hL]; exact arv V)
  ·rw [bz];intro q;have:=congrArg List.length q;simp only [bc,a8,bo,bj,yi] at this;have jK:=arY.2 hw.2.2;rw [hL] at jK;omega
 refine⟨w',g1,(g2.left al1).right al2,?_⟩;exact g3.swap (id:=id) (by rw [Hp.bV,ag rfl]) hor (by rw [Hp.bV,ag rfl]) (fun j hj=>by rw [Hp.bV,af hj,Hp.bV,af hj,Hp.bV,af hj]) rfl rfl
theorem PG [bS] {s s':St} (r:ca E s.h w) (hp:cD E.ρ s.pc) {id t t1 t2 ty e:Nat} {e0 n1 m sd lo:W} {ub:TypeId} {ie:TI} {d2:TypeDesc} (wW:oq P e ie) (ht:P.underlying t1=some (.slice e)) (An:P.underlying t2=some d2) (kR: ∀k,d2≠.int k)
 (me:(rowOf t).es=ie.size) (yX:ie.size≠0) (hl:s.h.get id=some (.vec e0 t ub [])) (qC:isZ lo=true) {u u2:Value} {us:Array Value} {ds:List D} (Y:VR E w.heap (.vT id lo n1 t) u) {mm:Nat} (hm:m.den E.ρ=(mm:Int))
 (yi:ds.length=mm) (hsd:(dec (sd.den E.ρ)).l=ds) (yF: ∀d∈ds,rS (rowOf t) d) {news:List AV} (src:Src P E w ie.size mm news u2 us) (hv:cL E w.heap (bJ E.ρ (rowOf t) [] ds 0) us.toList) {v:AV} (h:(Wt id t ub e0 n1 m sd s).leaf E.ρ=some (v,s')) :
 s'.bH=s.bH/\cD E.ρ s'.pc/\∃z w' E',(Builtin.append_ #[t1,t2] ty #[u,u2]).run P w= .ok z w'/\fP E s.h w E' s'.h w'/\ca E' s'.h w'/\VR E' w'.heap v z:=by
 unfold Wt at h;obtain⟨fU,gQ,g1,g2,g3,g4⟩:=CH hp h;have:=bC g4;simp only [ak] at this;obtain⟨rfl,rfl⟩:=this;have qC:=GN qC;subst qC;have hx0:=Y;simp only [VR] at Y;obtain⟨hid,l0,k,a,cap,q1,q2,rfl,q4,q5⟩:=Y;simp only [W.den] at q1;have P6:l0=0:=J
 subst P6;rw [arD] at q5;obtain⟨rfl,jG⟩:=Zx r hl (by rw [me]; exact yX) q5;have hle:k+mm<=(dec (e0.den E.ρ)).l.length:=J
 obtain⟨inf,d,z,U,Z,h3,h4,h5,h6,h7,h8⟩:=wW.all
 obtain⟨w',f1,f2,f3⟩:=FA (P:=P) r hl (n:=k) hle yi yF hv src.tI (e1:=.op .cat (.op .cat (.op .take e0 n1) sd) (.op .drop e0 (ua n1 m))) (by
  have hn:((k:Int)+(mm:Int)).toNat=k+mm:=J
  simp only [W.den,gT.den,bA,bz,qY,bB,q2,hm,hn,hsd,aW])
 refine⟨rfl,gQ,.slice (some ⟨(E.θ id).1,(E.θ id).2,none⟩) (k+mm) cap,w',E,?_,f2,f3,?_⟩
 ·exact lM (s:=ie.size) ht An kR U h5 src J (by simp only [fL]; rw [<- me]; exact f1)
 ·simp only [VR];refine⟨hid,0,k+mm,_,_,rfl,by rw [qY,q2,hm]; rfl,rfl,J,?_⟩;rw [arD];simp only [fJ] at q5 ⊢
  grind
theorem Pc [bS] {tt:TT} (db:fj P tt) {s s':St} (r:ca E s.h w) (hp:cD E.ρ s.pc) {t t2 ty id t':Nat} {lo n1:W} {y v:AV} {u u2:Value} (qC:isZ lo=true) (Y:VR E w.heap (.vT id lo n1 t') u) (hy:VR E w.heap y u2) (h:(Hu tt t t2 id n1 t' y s).leaf E.ρ=some (v,s')) :
 s'.bH=s.bH/\cD E.ρ s'.pc/\∃z w' E',(Builtin.append_ #[t,t2] ty #[u,u2]).run P w= .ok z w'/\fP E s.h w E' s'.h w'/\ca E' s'.h w'/\VR E' w'.heap v z:=by
 unfold Hu at h;split at h
 ·rename_i ti iI;split at h
  ·rename_i e hk;split at h
   ·rename_i ie mL;split at h
    ·grind [T.leaf]
    ·rename_i Ui S!;obtain⟨d2,kR,D7⟩:=tO (db t2 Ui S!);split at h
     ·grind [T.leaf]
     ·rename_i k2 jK
      have wZ: ∀k,d2≠.int k:=by
       intro k V;subst V;cases zT:Ui.kind<;>rw [zT] at D7<;>simp only [KG] at D7
       grind
      split at h
      ·grind [T.leaf]
      ·rename_i j7;simp only [not_or,Classical.not_not] at j7;obtain⟨yX,pj,yh,me⟩:=j7;have wW:=db e ie mL;have hu:=fT (db t ti iI) hk;split at h
       ·grind [T.leaf]
       ·rename_i e0 ub hva;have hl:=uo hva;split at h
        ·rename_i id2 YF n2 M9;split at h
         ·rename_i LP;split at h
          ·rename_i An;have LP:=az LP;have An:=az An;subst LP An;obtain⟨j3,jH,g1,g2,g3,g4⟩:=CH hp h;have hy0:=hy;simp only [VR] at hy;obtain⟨hid,l,k,a,cap,q1,q2,rfl,q4,q5⟩:=hy;obtain⟨rc,ho,hw⟩:=r.rK hl;generalize hL:(dec (e0.den E.ρ)).l=L at *;have hlk:l+k<=L.length:=J
           have hsp:L=L.take l++((L.take (l+k)).drop l++L.drop (l+k)):=by
            conv=>lhs; rw [<- ar8 (l+k) L]
            grind
           have Su:cU E.ρ e0 M9 []=bJ E.ρ (rowOf M9) [] (L.take l) 0++(bJ E.ρ (rowOf M9) [] ((L.take (l+k)).drop l) 0++bJ E.ρ (rowOf M9) [] (L.drop (l+k)) 0):=by
            unfold cU;rw [hL]
            conv=>lhs; rw [hsp]
            rw [kr,kr]
           have hlA:(bJ E.ρ (rowOf M9) [] (L.take l) 0).length=l*(rowOf M9).es:=by rw [cX (lC _),a8];congr 1;omega
           have hlen:((L.take (l+k)).drop l).length=k:=by rw [bo,a8]; omega
           have hlB:(bJ E.ρ (rowOf M9) [] ((L.take (l+k)).drop l) 0).length=k*(rowOf M9).es:=by rw [cX (lC _),hlen]
           have hy1:VR E w.heap (.slice id2 (l*(rowOf M9).es) k (.rest (rowOf M9).es)) (.slice (some a) k cap):=by simp only [VR];exact⟨hid,a,cap,rfl,q4,q5⟩
           obtain⟨us,src⟩:=sq (P:=P) rc hy1 (s:=ie.size) (m:=k) (news:=bJ E.ρ (rowOf M9) [] ((L.take (l+k)).drop l) 0) (by
            simp only [tu,nH,Hp.bV,if_true];rw [Su,<- hlA,ve];simp only;rw [<- me,<- hlB,IP]
            rfl)
           refine PG (s:={ s with pc:=j3 }) r jH wW hu kR wZ me yX hl qC Y q2 hlen (by rw [Gj q1 q2,bB,hL]) (fun d V=>hw.2.1 d ?_) src src.YB g4;rw [hL];exact arx (arv V)
          grind [T.leaf]
         grind [T.leaf]
        ·split at h
         ·grind [T.leaf]
         ·rename_i m news Sj;obtain⟨us,src⟩:=sq (P:=P) r hy Sj;split at h
          ·grind [T.leaf]
          ·rename_i m';split at h
           ·split at h
            ·rename_i sd hcr;obtain⟨ds,c1,c2,c3,c4,c5⟩:=xw (ρ:=E.ρ) _ hcr;simp only [W.den,bA,D.l,au] at c2;exact PG r hp wW hu kR wZ me yX hl qC Y (mm:=m'+1) (by simp only [W.den]; rfl) c1 c2 c4 src (c5 E w.heap _ 0 rfl src.YB) h
            grind [T.leaf]
           grind [T.leaf]
   grind [T.leaf]
  grind [T.leaf]
 grind [T.leaf]
theorem Ed [bS] {tt:TT} (db:fj P tt) {s s':St} (r:ca E s.h w) (hp:cD E.ρ s.pc) {t ty id t':Nat} {lo n:W} {v:AV} {u:Value} (Y:VR E w.heap (.vT id lo n t') u) (h:(BD tt t id lo n t' s).leaf E.ρ=some (v,s')) :
 s'.bH=s.bH/\cD E.ρ s'.pc/\v=AV.undef/\∃w' E',(Builtin.clear_ #[t] ty #[u]).run P w= .ok (.tuple #[]) w'/\fP E s.h w E' s'.h w'/\ca E' s'.h w':=by
 unfold BD at h;split at h
 ·rename_i ti iI;split at h
  ·rename_i e hk;have hu:=fT (db t ti iI) hk;split at h
   ·rename_i ie mL;obtain⟨inf,d,z,U,Z,h3,h4,h5,h6,h7,h8⟩:=(db e ie mL).all;have hz:=fH (E:=E) (h:=w.heap) h4;split at h
    ·rename_i j7;obtain⟨me,yX⟩:=j7;split at h
     ·grind [T.leaf]
     ·rename_i e0 Cf hva;have hl:=uo hva;split at h
      ·grind [T.leaf]
      ·rename_i zz hzz;obtain⟨j3,jH,g1⟩:=du hp h;split at g1
       ·grind [T.leaf]
       ·rename_i t1;obtain⟨qA,pI,g2⟩:=du (s:={ s with pc:=j3 }) jH g1;split at g2
        ·grind [T.leaf]
        ·rename_i t2;obtain⟨pc3,OC,g3⟩:=du (s:={ s with pc:=qA }) pI g2;split at g3
         ·grind [T.leaf]
         ·rename_i t3;have:=bC g3;simp only [ak] at this;obtain⟨rfl,rfl⟩:=this;rw [eA,decide_eq_false_iff_not] at t1 t2;rw [jQ,beq_iff_eq,qY,cW] at t3;simp only [VR] at Y;obtain⟨hid,l,k,a,cap,q1,q2,rfl,q4,q5⟩:=Y;have hlk:l+k=(dec (e0.den E.ρ)).l.length:=J
          have hn0:(dec (e0.den E.ρ)).l.length-l=k:=J
          have hwz:=vk (ρ:=E.ρ) hzz;have hrz:yL E.ro w.heap (rowOf t') (dec (zz.den E.ρ)) z.cells.toList:=vm hz.1 hzz
          have arb:cL E w.heap (iE (rowOf t') (.fk (dec (zz.den E.ρ)))) z.cells.toList:=by
           rw [gW];simp only [W.den,bA]
           grind
          have akh: ∀m:Nat,bJ E.ρ (rowOf t') [] (List.replicate m (dec (zz.den E.ρ))) 0=eb (iE (rowOf t') (.fk (dec (zz.den E.ρ)))) m:=by
           intro m
           induction m with
           |zero=>rfl
           |succ m ih=>
            simp only [as6,bJ,eE,eb]
            grind [lK]
          have hv:cL E w.heap (bJ E.ρ (rowOf t') [] (List.replicate k (dec (zz.den E.ρ))) 0) (eb z.cells.toList k):=by
           grind [ng]
          obtain⟨w',f1,f2,f3⟩:=FA (P:=P) r hl (n:=l) (mm:=k) J (asa) (fun d V=>by rw [atl V]; exact hwz) hv (fun u hu=>hz.2 u (mZ hu)) (e1:=.op .fill e0 (gD (Cw lo) zz)) (by
           simp only [gD,W.den,gT.den,bA,mr,D.n,q1,aW,hn0,hlk]
           rw [List.drop_length,bh])
          refine⟨rfl,OC,rfl,w',E,?_,f2,f3⟩;rcases ar9 k with hk0|hk0
          ·subst hk0;simp only [eb] at f1
           have:w'=w:=by
            simp [storeCells] at f1
            grind
           subst this;simp [Builtin.clear_,run_underlying hu]
          ·have ha:a=⟨(E.θ id).1,(E.θ id).2+l*(rowOf t').es,none⟩:=by
            simp only [fJ] at q5
            grind
           have akd:z.cells.toList≠[]:=by
            intro Y;have:=yL.length hrz
            grind
           have hzc:(Builtin.zeroCells z.cells k).toList=eb z.cells.toList k:=vY z.cells akd k;subst ha;obtain⟨j,rfl⟩ : ∃j,k=j+1:=⟨k-1,J⟩;simp [Builtin.clear_,run_underlying hu,zeroValue,typeInfo,U,h3,hzc,f1]
    grind [T.leaf]
   grind [T.leaf]
  grind [T.leaf]
 grind [T.leaf]
end
theorem nu (l:List Nat):(l9 l).l.length=l.length:=by simp [l9]
theorem X7 {a b:List Nat} (h:l9 a=l9 b):a=b:=by
 have:=HK h
 induction a generalizing b with
 |nil=>cases b with
  |nil=>rfl
  |cons y b=>simp at this
 |cons x a ih=>cases b with
  |nil=>simp at this
  |cons y b=> simp only [aA,List.cons.injEq,D.i.injEq,Int.ofNat_eq_natCast,asj] at this;rw [this.1,ih (b:=b) (by unfold l9; exact congrArg dL (by simpa using this.2)) (by simpa using this.2)]
theorem HJ: ∀(x y:List Nat),Pp (x.map fun b=>D.i (Int.ofNat b)) (y.map fun b=>D.i (Int.ofNat b))=bytesLess x y
 |[],[]=>rfl
 |[],_::_=>rfl
 |_::_,[]=>rfl
 |a::x,b::y=>by
  simp only [aA,Pp,bytesLess,D.n,HJ x y];have i1:(Int.ofNat a<Int.ofNat b)=(a<b):=propext asL;have i2:(Int.ofNat b<Int.ofNat a)=(b<a):=propext asL;simp only [i1,i2];rcases as7 a b with h|h|h
  ·simp_all
  ·simp_all
  ·have Z:a.blt b=false:=by rw [ase]; simp [Nat.blt]; omega
   have h3:a.beq b=false:=by rw [ase]; simp; omega
   grind
section
variable {P:Program} {E:En} {w:World}
theorem VR.ad2 {h:Array Obj} {e:W} {v:Value} (hv:VR E h (.kU e) v): ∃l:List Nat,v= .string (dF l)/\(∀b∈l,b<256)/\dec (e.den E.ρ)=l9 l:=by
 simp only [VR] at hv;obtain⟨s,rfl,hs⟩:=hv.string;refine⟨bytesOf s,by rw [lO],Ah s,?_⟩
 grind [BJ,Ah,lO,vS,dF]
theorem VR.F? {h:Array Obj} {e:W} {l:List Nat} (hl: ∀b∈l,b<256) (he:dec (e.den E.ρ)=l9 l):VR E h (.kU e) (.string (dF l)):=by
 simp only [VR];rw [he,BJ _ hl];have:=Rd.str (ro:=E.ro) (h:=h) (dF l)
 grind [vS,dF]
theorem FT {h:Array Obj} {x:AV} {u:Value} {e:W} (Y:VR E h x u) (hs:vu x=some e): ∃l:List Nat,u= .string (dF l)/\(∀b∈l,b<256)/\dec (e.den E.ρ)=l9 l:=by
 unfold vu at hs;split at hs
 ·simp only [ah] at hs;subst hs;simp only [VR] at Y;exact⟨_,Y.1,Y.2,by simp only [W.den,bA]⟩
 ·simp only [ah] at hs;subst hs;exact Y.ad2
 grind
theorem SM {tt:TT} (db:fj P tt) {s s':St} (hp:cD E.ρ s.pc) {ty:Nat} {e:W} {ix v:AV} {u ui:Value} (Y:VR E w.heap (.kU e) u) (Be:VR E w.heap ix ui) (h:(L6 tt s ty e ix).leaf E.ρ=some (v,s')) :
 s'.bH=s.bH/\s'.h=s.h/\cD E.ρ s'.pc/\∃r,(Instr.index ty u ui).run P w= .ok r w/\VR E w.heap v r:=by
 unfold L6 at h;split at h
 ·rename_i kd i;split at h
  ·rename_i ti iI;split at h
   ·rename_i hk;obtain⟨fU,gQ,U,Z,h3⟩:=oY hp h;have:=bC h3;simp only [ak] at this;obtain⟨rfl,rfl⟩:=this;refine⟨rfl,rfl,gQ,?_⟩;obtain⟨l,rfl,hb,V⟩:=Y.ad2;simp only [VR] at Be;subst Be;rw [cW,V,nu] at Z;obtain⟨k,D7⟩ : ∃k:Nat,i.den E.ρ=(k:Int):=⟨(i.den E.ρ).toNat,J⟩;have gy:k<l.length:=J
    have hg:(dF l)[k]?=some (UInt8.ofNat l[k]):=by rw [FV,aN gy]; rfl
    have aqD:=hb l[k] (aq gy);rw [D7];refine⟨_,by simp [Instr.index,asIntOf,run_underlying (gC (db ty ti iI) hk),hg]; rfl,?_⟩
    have hdk:(dec (e.den E.ρ)).l[k]?=some (.i (Int.ofNat l[k])):=by rw [V];simp only [l9,bz,bk,aN gy,arB]
    simp only [VR,Cv,Dr E.ρ e i D7 hdk,D.n]
    grind
   grind [T.leaf]
  grind [T.leaf]
 grind [T.leaf]
theorem SL {tt:TT} (db:fj P tt) {s s':St} (hp:cD E.ρ s.pc) {ty:Nat} {e:W} {lo hi mx:Option AV} {Am hi' mx':Option Value} {v:AV} {u:Value} (Y:VR E w.heap (.kU e) u)
 (qC:ij E w.heap lo Am) (Aq:ij E w.heap hi hi') (zS:ij E w.heap mx mx') (h:(L5 tt s ty e lo hi mx).leaf E.ρ=some (v,s')) :
 s'.bH=s.bH/\s'.h=s.h/\cD E.ρ s'.pc/\∃r,(Instr.sliceAt ty u Am hi' mx').run P w= .ok r w/\VR E w.heap v r:=by
 unfold L5 at h;split at h
 ·grind [T.leaf]
 ·simp only [ij] at zS;subst zS;split at h
  ·grind [T.leaf]
  ·rename_i ti iI;split at h
   ·rename_i hk;have hu:=gC (db ty ti iI) hk;split at h
    ·grind [T.leaf]
    ·rename_i ql hql;split at h
     ·grind [T.leaf]
     ·rename_i qh hqh;obtain⟨j3,jH,U⟩:=du hp h;split at U
      ·grind [T.leaf]
      ·rename_i t1;obtain⟨qA,pI,Z⟩:=du (s:={ s with pc:=j3 }) jH U;split at Z
       ·grind [T.leaf]
       ·rename_i t2;obtain⟨pc3,OC,h3⟩:=du (s:={ s with pc:=qA }) pI Z;split at h3
        ·grind [T.leaf]
        ·rename_i t3;have:=bC h3;simp only [ak] at this;obtain⟨rfl,rfl⟩:=this;refine⟨rfl,rfl,OC,?_⟩;obtain⟨l,rfl,hb,V⟩:=Y.ad2;rw [eA,decide_eq_false_iff_not] at t1 t2 t3;rw [cW,V,nu] at t3;simp only [W.den,ar7] at t1;obtain⟨a,ha⟩ : ∃a:Nat,ql.den E.ρ=(a:Int):=⟨(ql.den E.ρ).toNat,J⟩;obtain⟨b,P9⟩ : ∃b:Nat,qh.den E.ρ=(b:Int):=⟨(qh.den E.ρ).toNat,J⟩;have hle:b<=l.length:=J
         have Sy:a<=b:=J
         obtain⟨YF,W?,od⟩:=L! hql qC ha
         have akl: ∃LP,ij E w.heap LP hi'/\pr LP l.length l.length=some b:=by
          unfold hiE at hqh;split at hqh
          ·simp only [ah] at hqh;subst hqh;rw [cW,V,nu] at P9;have:b=l.length:=J
           grind [pr]
          ·split at hqh
           ·simp only [ah] at hqh;subst hqh;exact⟨_,Ff P9 Aq,Fv hle⟩
           grind
         obtain⟨LP,akl,B6⟩:=akl;obtain⟨e1,e2⟩:=gK (P:=P) (w:=w) (isSlice:=false) (len:=l.length) (cap:=l.length) (m0:=l.length) (d:=0) W? akl (mx:=none) (mx':=none) rfl ad (.inl ⟨rfl,rfl,ax _⟩) B6 ⟨fun _=>ax _,ad⟩ (od b Sy);refine⟨.string ((dF l).extract a b),?_,?_⟩
         ·rw [<- lN] at e1;simp [Instr.sliceAt,run_underlying hu,Instr.slice,e1]
         ·rw [ur];refine VR.F? (fun c hc=>hb c (arx (arv hc))) ?_;simp only [gD,W.den,gT.den,bA,mr,D.V,D.l,aF,aG,ay,D.n,ha,P9,aW,V];simp only [l9,bz,asr,asE]
   grind [T.leaf]
theorem K5 {x y:AV} {a b:W} (h:EX x y=some (a,b)):vu x=some a/\vu y=some b:=by
 grind [EX]
theorem I3 (ρ:Nat->Int) {a b:W} {x y:List Nat} (ha:dec (a.den ρ)=l9 x) (hb:dec (b.den ρ)=l9 y):(I4 a b).den ρ=bytesLess x y:=by
 simp only [I4,SB.den,W.den,gT.den,ha,hb,l9,bz]
 grind [HJ]
theorem BR: ∀(x y:List Nat),(bytesLess x y||iK x y)=!(bytesLess y x)
 |[],[]=>rfl
 |[],_::_=>rfl
 |_::_,[]=>rfl
 |a::x,b::y=>by
  have ih:=BR x y;simp only [bytesLess,iK];rcases as7 a b with h|h|h
  ·have U:a.blt b=true:=by simp [Nat.blt]; omega
   have Z:b.blt a=false:=by rw [ase]; simp [Nat.blt]; omega
   have h3:b.beq a=false:=by rw [ase]; simp; omega
   grind
  ·simp_all
  ·have U:b.blt a=true:=by simp [Nat.blt]; omega
   have Z:a.blt b=false:=by rw [ase]; simp [Nat.blt]; omega
   have h3:a.beq b=false:=by rw [ase]; simp; omega
   grind
theorem XU {s s':St} (hp:cD E.ρ s.pc) {t:Nat} {op:BinOp} {x y v:AV} {a b:W} {u u':Value} (Y:VR E w.heap x u) (hy:VR E w.heap y u') (hs:EX x y=some (a,b)) (h:(SN op a b s).leaf E.ρ=some (v,s')) :
 s'.bH=s.bH/\s'.h=s.h/\cD E.ρ s'.pc/\(∃r,(binOp op t u u').run P w= .ok r w/\VR E w.heap v r)/\(∀cs ds,¬(u= .agg cs/\u'= .agg ds))/\¬(u= .nilIface/\u'= .nilIface):=by
 obtain⟨hsx,hsy⟩:=K5 hs;obtain⟨l,rfl,od,hdl⟩:=FT Y hsx;obtain⟨m,rfl,G4,Bf⟩:=FT hy hsy
 have heq:((wB (oD a) (oD b)).den E.ρ)=iK l m:=by
  grind [mY,rb,mT,X7,eQ]
 have jK:(∀cs ds,¬(Value.string (dF l)= .agg cs/\Value.string (dF m)= .agg ds))/\¬(Value.string (dF l)= .nilIface/\Value.string (dF m)= .nilIface):=⟨ad,ad⟩
 have fin: ∀(c:AV) (o:BinOp),NJ o l m=some c->(∀q,VR E w.heap c q->VR E w.heap v q)->(∀q,(Op.stringOp o (dF l) (dF m)).run P w= .ok q w->(binOp o t (.string (dF l)) (.string (dF m))).run P w= .ok q w)->
  ∃r,(binOp o t (.string (dF l)) (.string (dF m))).run P w= .ok r w/\VR E w.heap v r:=by
  intro c o ho hc hq;obtain⟨r,U,Z⟩:=NI (P:=P) (E:=E) (w:=w) od G4 ho;exact⟨r,hq _ U,hc r Z⟩
 unfold SN at h;split at h
 ·obtain⟨j3,jH,U⟩:=du hp h;split at U
  ·grind [T.leaf]
  ·rename_i t1;obtain⟨qA,pI,Z⟩:=du (s:={ s with pc:=j3 }) jH U;split at Z
   ·grind [T.leaf]
   ·rename_i t2;have:=bC Z;simp only [ak] at this;obtain⟨rfl,rfl⟩:=this;rw [eA,decide_eq_true_eq,cW,hdl,nu] at t1;rw [eA,decide_eq_true_eq,cW,Bf,nu] at t2;simp only [W.den] at t1 t2;refine⟨rfl,rfl,pI,⟨.string (dF (l++m)),?_,?_⟩,jK⟩
    ·have hm:IntKind.i64.max=9223372036854775807:=ae
     have:(Op.stringOp .add (dF l) (dF m)).run P w= .ok (.string (dF l++dF m)) w:=by simp only [Op.stringOp,lN,hm];rw [af J];rfl
     have e:dF l++dF m=dF (l++m):=by apply ByteArray.ext;simp [dF]
     rw [e] at this;simpa [binOp] using this
    ·refine VR.F? (fun c hc=>?_) ?_
     ·grind
     ·simp only [W.den,gT.den,bA,hdl,Bf];simp only [l9,bz,asM]
 all_goals first
  |(simp [T.leaf] at h; done)
  |(have:=bC h
    simp only [ak] at this;obtain⟨rfl,rfl⟩:=this;refine⟨rfl,rfl,hp,?_,jK⟩;refine fin _ _ rfl (fun q hq=>?_) (fun q hq=>by simpa [binOp] using hq);simp only [VR,SB.den,oE] at hq ⊢
    first
     |(rw [heq]; exact hq)
     |(rw [I3 E.ρ hdl Bf]; exact hq)
     |(rw [I3 E.ρ Bf hdl]; rw [BR] at hq; simpa using hq))
theorem S8 [bS] {tt:TT} (db:fj P tt) {s s':St} (r:ca E s.h w) (hp:cD E.ρ s.pc) {sT dT:Nat} {e:W} {v:AV} {u:Value} (Y:VR E w.heap (.kU e) u) (h:(Fp tt sT dT e s).leaf E.ρ=some (v,s')) :
 s'.bH=s.bH/\cD E.ρ s'.pc/\∃y w' E',(convert sT dT u).run P w= .ok y w'/\fP E s.h w E' s'.h w'/\ca E' s'.h w'/\VR E' w'.heap v y:=by
 unfold Fp at h;split at h
 ·grind [T.leaf]
 ·rename_i j hj;split at h
  ·rename_i hjk;split at h
   ·grind [T.leaf]
   ·rename_i i hi;split at h
    ·rename_i el hik;split at h
     ·rename_i ie mL;split at h
      ·rename_i k arj;split at h
       ·obtain⟨l,rfl,hb,V⟩:=Y.ad2
        have P7:qU tt sT dT (.str l) s.h=some (.slice s.h.fresh 0 l.length (.rest 1),s.h.new (.cells (l.map fun c=> .int .u8 (.lit (Int.ofNat c))) el)):=by
         grind [qU]
        obtain⟨y,w',E',g1,g2,g3,g4⟩:=BC (P:=P) db r (x:=.str l) (u:=.string (dF l)) (by simp only [VR]; exact⟨trivial,hb⟩) P7;obtain⟨j3,jH,U⟩:=du hp h;rw [mY,cW,V,nu] at U;split at U
        ·rename_i hz;have:=bC U;simp only [ak] at this;obtain⟨rfl,rfl⟩:=this;simp only [W.den,beq_iff_eq] at hz
         grind
        ·rename_i hz;have:=bC U;simp only [ak] at this;obtain⟨rfl,rfl⟩:=this;simp only [W.den,beq_eq_false_iff_ne,ne_eq] at hz;have Ng:dec (e.den E'.ρ)=l9 l:=by rw [g2.ρ]; exact V
         have Su:cU E'.ρ e 14 []=l.map fun c=>AV.int .u8 (.lit (Int.ofNat c)):=by
          unfold cU;rw [Ng];simp only [l9,bz]
          have: ∀(l:List Nat) (i:Nat),bJ E'.ρ (rowOf 14) [] (l.map fun b=>D.i (Int.ofNat b)) i=l.map fun c=>AV.int .u8 (.lit (Int.ofNat c)):=by
           intro l
           induction l with
           |nil=>intro i; rfl
           |cons a l ih=> intro i;simp only [aA,bJ,eE,ih];rfl
          grind
         have r2:=Fb (e1:=e) (t:=14) g3 (by
          rw [Ng];refine⟨by simp only [l9,bz],fun x Y=>?_,fun q=>?_⟩
          ·simp only [l9,bz,aR] at Y;obtain⟨b,_,rfl⟩:=Y;rfl
          ·have:=congrArg List.length q;rw [nu] at this
           exact hz (by simp at this; simp [this])) (by rw [Su]) (fun us hu=>by rw [Su]; exact hu)
         refine⟨rfl,jH,y,w',E',g1,g2.right (ya rfl rfl fun _=>rfl),r2,?_⟩;simp only [VR] at g4 ⊢;obtain⟨q1,a,cap,q2,q3,q4⟩:=g4;exact⟨q1,l.length,a,cap,by rw [cW,Ng,nu],q2,q3,q4⟩
       grind [T.leaf]
      grind [T.leaf]
     grind [T.leaf]
    grind [T.leaf]
  grind [T.leaf]
end
section
variable {P:Program} {E:En} {w:World}
def Vg (c:CK):Prop:=(∃k,c= .int k)\/c= .str
theorem JL (t:Nat):Vg (mapOf t).1:=by
 unfold mapOf;split<;>first |exact .inl ⟨_,rfl⟩|exact .inr rfl
theorem bytes_beq (p q:ByteArray):(p == q)=decide (p=q):=by
 rw [arM,decide_eq_true_eq];have e:(p == q)=(p.data == q.data):=rfl;rw [e,beq_iff_eq];constructor
 ·intro h; cases p; cases q; simp only at h; rw [h]
 grind
theorem N' {ro:Nat->Prop} {h:Array Obj} {c:CK} (hc:Vg c) {dt:TypeDesc} (V:Dv dt (D3 c)) {d d':D} {u u':Value} (r:Rd ro h c d u) (r':Rd ro h c d' u') :
 Instr.sameNow dt u u'=some (decide (d=d'))/\(d=d'->∀n,Instr.sameBits (n+1) u' u=true):=by
 rcases hc with ⟨k,rfl⟩|rfl
 ·simp only [D3] at V;obtain⟨k',rfl⟩:=V
  cases r with
  |int _ n=>
   cases r' with
   |int _ m=>
    refine⟨?_,fun hh n=>?_⟩
    ·simp only [Instr.sameNow,D.i.injEq]
     grind
    ·simp only [D.i.injEq] at hh;subst hh;simp [Instr.sameBits]
 ·simp only [D3] at V;simp only [Dv] at V;subst V;obtain⟨a,rfl,rfl⟩:=r.string;obtain⟨b,rfl,rfl⟩:=r'.string;refine⟨?_,fun hh n=>?_⟩
  ·simp only [Instr.sameNow,bytes_beq];congr 1
   grind [HH]
  ·have:=HH hh;subst this;simp [Instr.sameBits,bytes_beq]
theorem Bu {ro:Nat->Prop} {h:Array Obj} {t:Nat} {dt:TypeDesc} (V:Dv dt (D3 (mapOf t).1)) {kd:D} {u:Value} (hk:Rd ro h (mapOf t).1 kd u): ∀{ds:List D} {cO:List MapEntry} {i:Nat},
 mj ro h t ds cO->
 (lE ds kd=none/\Instr.findNow dt u cO i=some none/\(∀v,vM ds kd v=ds++ [.p kd v])/\Ly ds kd=ds)\/
 (∃j x e,lE ds kd=some x/\cO[j]?=some e/\Rd ro h (mapOf t).2 x e.val/\Instr.findNow dt u cO i=some (some (i+j,e.val))/\(∀n,Instr.sameBits (n+1) e.key u=true)/\(∀v,vM ds kd v=ds.set j (.p kd v))/\Ly ds kd=ds.eraseIdx j)
 |[],cO,i,he=>by simp only [mj] at he;subst he;exact .inl ⟨rfl,by simp [Instr.findNow],fun _=>rfl,rfl⟩
 |d::ds,cO,i,he=>by
  obtain⟨e,r,rfl,U,Z,h3,h4⟩:=he;obtain⟨g1,g2⟩:=N' (JL t) V hk Z;by_cases pg:TD d=kd
  ·have g1':Instr.sameNow dt u e.key=some true:=by rw [g1,decide_eq_true pg.symm]
   refine .inr ⟨0,aci d,e,by simp only [lE,ag pg],rfl,h3,by simp [Instr.findNow,g1'],g2 pg.symm,fun v=>by simp only [vM,ag pg,asF],by simp only [Ly,ag pg,List.eraseIdx_cons_zero]⟩
  ·have g1':Instr.sameNow dt u e.key=some false:=by rw [g1,decide_eq_false (fun q=>pg q.symm)]
   rcases Bu (i:=i+1) V hk h4 with ⟨q1,q2,q3,q4⟩|⟨j,x,e',q1,q2,q3,q4,q5,q6,q7⟩
   ·exact .inl ⟨by simp only [lE,af pg,q1],by simp [Instr.findNow,g1',q2],fun v=>by simp only [vM,af pg,q3,aM],by simp only [Ly,af pg,q4]⟩
   ·refine .inr ⟨j+1,x,e',by simp only [lE,af pg,q1],by simpa using q2,q3,?_,q5,fun v=>by simp only [vM,af pg,q6,asG],by simp only [Ly,af pg,q7,asY]⟩;simp only [Instr.findNow,g1',q4]; congr 3; omega
theorem mj.set {ro:Nat->Prop} {h:Array Obj} {t:Nat} {kd vd:D} {uk uv:Value} (hk:Rd ro h (mapOf t).1 kd uk) (hv:Rd ro h (mapOf t).2 vd uv): ∀{ds:List D} {cO:List MapEntry} {i:Nat} {e:MapEntry},mj ro h t ds cO->cO[i]?=some e->
 mj ro h t (ds.set i (.p kd vd)) (cO.set i { e with key:=uk,val:=uv })
 |[],cO,i,e,he,hi=>by simp only [mj] at he; subst he; simp at hi
 |d::ds,cO,0,e,he,hi=>by obtain⟨e0,r,rfl,U,Z,h3,h4⟩:=he;simp at hi;subst hi;simp only [asF];exact⟨_,r,rfl,rfl,hk,hv,h4⟩
 |d::ds,cO,i+1,e,he,hi=>by obtain⟨e0,r,rfl,U,Z,h3,h4⟩:=he;simp only [asG];exact⟨e0,_,rfl,U,Z,h3,mj.set hk hv h4 (by simpa using hi)⟩
theorem mj.push {ro:Nat->Prop} {h:Array Obj} {t:Nat} {kd vd:D} {uk uv:Value} {c:Nat} (hk:Rd ro h (mapOf t).1 kd uk) (hv:Rd ro h (mapOf t).2 vd uv): ∀{ds:List D} {cO:List MapEntry},mj ro h t ds cO->
 mj ro h t (ds++ [.p kd vd]) (cO++ [{ key:=uk,val:=uv,born:=c }])
 |[],cO,he=>by simp only [mj] at he;subst he;exact⟨_,[],rfl,rfl,hk,hv,rfl⟩
 |d::ds,cO,he=>by obtain⟨e0,r,rfl,U,Z,h3,h4⟩:=he;simp only [aM];exact⟨e0,_,rfl,U,Z,h3,mj.push hk hv h4⟩
theorem mj.erase {ro:Nat->Prop} {h:Array Obj} {t:Nat}: ∀{ds:List D} {cO:List MapEntry} {i:Nat},mj ro h t ds cO->mj ro h t (ds.eraseIdx i) (cO.eraseIdx i)
 |[],cO,i,he=>by simp only [mj] at he; subst he; simp [mj]
 |d::ds,cO,0,he=>by
  obtain⟨e0,r,rfl,U,Z,h3,h4⟩:=he
  grind
 |d::ds,cO,i+1,he=>by obtain⟨e0,r,rfl,U,Z,h3,h4⟩:=he;simp only [asY];exact⟨e0,_,rfl,U,Z,h3,mj.erase h4⟩
theorem zO {m:AV} {h:Hp} {id t:Nat} {e:W} (hm:yT m h=some (id,e,t)):m= .map id/\h.get id=some (.mw e t):=by
 unfold yT at hm
 grind
theorem CT {tt:TT} (db:fj P tt) {h:Array Obj} {ty t:Nat} {k:AV} {uk:Value} {a:W} {ie:TI} (hk:VR E h k uk) (hm:mapKey tt ty t k=some (a,ie)) :
 ∃kt et dt,P.underlying ty=some (.map kt et)/\P.underlying kt=some dt/\Dv dt (D3 (mapOf t).1)/\oq P et ie/\Rd E.ro h (mapOf t).1 (dec (a.den E.ρ)) uk:=by
 unfold mapKey at hm;split at hm
 ·grind
 ·rename_i ti iI;split at hm
  ·rename_i kt et GX;split at hm
   ·grind
   ·rename_i ki hki;split at hm
    ·rename_i zT;split at hm
     ·grind
     ·rename_i ie' mL;split at hm
      ·grind
      ·rename_i a0 ha0;simp only [ah,ak] at hm;obtain⟨rfl,rfl⟩:=hm;have hu:=Ax (db ty ti iI) GX
       have pg: ∃dt,P.underlying kt=some dt/\Dv dt (D3 (mapOf t).1):=by
        rcases JL t with ⟨q,hq⟩|hq
        ·rw [hq] at zT ⊢;exact⟨_,xR (db kt ki hki) zT,q,rfl⟩
        ·rw [hq] at zT ⊢;exact⟨_,gC (db kt ki hki) zT,rfl⟩
       obtain⟨dt,U,Z⟩:=pg;refine⟨kt,et,dt,hu,U,Z,db et ie' mL,?_⟩;rw [rb,bA];exact (nv hk ha0).rd (qW ha0)
    grind
  grind
theorem CR [bS] {H:Hp} (r:ca E H w) {id t:Nat} {e:W} (hl:H.get id=some (.mw e t)): ∃cO c',w.heap[(E.θ id).1]?=some (.map cO c')/\mj E.ro w.heap t (dec (e.den E.ρ)).l cO.toList:=
 (r.live id _ hl).2.1
theorem ny {t:Nat} {c:CK} {d:TypeDesc} (hu:P.underlying t=some d) (V:Dv d (D3 c)) (b:Bool) (v:Value):(Instr.checkKey b 10000 t v).run P w= .ok () w:=hU hu V b v
theorem XK {ρ:Nat->Int} (e a:W):(Y! e a).den ρ=((W.op .EB e a).den ρ == (W.lit 0).den ρ):=by
 unfold Y!;split
 ·split
  ·simp only [SB.den,W.den,gT.den,bA]
   grind
  ·rfl
 ·rfl
theorem SX [bS] {tt:TT} (db:fj P tt) {s s':St} (r:ca E s.h w) (hp:cD E.ρ s.pc) {ty id t:Nat} {m k v:AV} {e:W} {um uk:Value} {ok:Bool} (hm:VR E w.heap m um) (hk:VR E w.heap k uk) (gz:yT m s.h=some (id,e,t)) (h:(By tt ty k ok e t s).leaf E.ρ=some (v,s')) :
 s'.bH=s.bH/\s'.h=s.h/\cD E.ρ s'.pc/\∃x,(Instr.lookup ty um uk ok).run P w= .ok x w/\VR E w.heap v x:=by
 obtain⟨rfl,hl⟩:=zO gz
 unfold By at h;split at h
 ·grind [T.leaf]
 ·rename_i a ie hmk;obtain⟨kt,et,dt,hu,yj,kR,mL,hrk⟩:=CT db hk hmk;split at h
  ·grind [T.leaf]
  ·rename_i z hz;obtain⟨u0,z1,z2⟩:=IL (P:=P) (w:=w) (E:=E) mL hz;obtain⟨cO,c',g1,g2⟩:=CR r hl;have hg:=kj (P:=P) g1 ad;simp only [VR] at hm;obtain⟨rfl,hid⟩:=hm;have hf:=Bu (i:=0) kR hrk g2;obtain⟨j3,jH,U⟩:=du hp h;rw [XK] at U;simp only [W.den,gT.den] at U;rcases hf with ⟨q1,q2,_,_⟩|⟨j,x,en,q1,q2,q3,q4,q5,_,_⟩
   ·rw [q1] at U;have:=bC U;simp only [ak] at this;obtain⟨rfl,rfl⟩:=this;refine⟨rfl,rfl,jH,(if ok then .tuple #[u0,.bool false] else u0),?_,?_⟩
    ·cases ok<;>simp [Instr.lookup,run_underlying hu,hg,ny yj kR,gN yj q2,z1]
    ·cases ok
     ·exact z2
     ·simp only [if_true,VR,cL];simp_all [z2,SB.den]
   ·rw [q1] at U;have:=bC U;simp only [ak] at this;obtain⟨rfl,rfl⟩:=this
    have Ix:VR E w.heap (vn (mapOf t).2 (.op .EC e a)) en.val:=by rw [qX];simp only [W.den,gT.den,bA,q1,ay];exact q3.cell
    refine⟨rfl,rfl,jH,(if ok then .tuple #[en.val,.bool true] else en.val),?_,?_⟩
    ·cases ok<;>simp [Instr.lookup,run_underlying hu,hg,ny yj kR,gN yj q4]
    ·cases ok
     ·grind
     ·simp only [if_true,VR,cL]
      grind [SB.den]
theorem XV [bS] {tt:TT} (db:fj P tt) {s s':St} (r:ca E s.h w) {ty id t:Nat} {m k x v:AV} {e:W} {um uk ux:Value} (hm:VR E w.heap m um) (hk:VR E w.heap k uk) (Y:VR E w.heap x ux) (gz:yT m s.h=some (id,e,t)) (h:(SU tt ty id k x e t s).leaf E.ρ=some (v,s')) :
 s'.bH=s.bH/\s'.pc=s.pc/\v=AV.undef/\∃w',(Instr.mapUpdate ty um uk ux).run P w= .ok () w'/\fP E s.h w E s'.h w'/\ca E s'.h w':=by
 obtain⟨rfl,hl⟩:=zO gz
 unfold SU at h;split at h
 ·grind [T.leaf]
 ·rename_i a ie hmk;obtain⟨kt,et,dt,hu,yj,kR,mL,hrk⟩:=CT db hk hmk;split at h
  ·grind [T.leaf]
  ·rename_i b hb;have:=bC h;simp only [ak] at this;obtain⟨rfl,rfl⟩:=this;have hrx:=(nv Y hb).rd (qW hb);obtain⟨cO,c',g1,g2⟩:=CR r hl;have hg:=kj (P:=P) g1 ad;simp only [VR] at hm;obtain⟨rfl,hid⟩:=hm;refine⟨rfl,rfl,rfl,?_⟩
   have LQ:dec ((W.op .Of e (gD a b)).den E.ρ)=dL (vM (dec (e.den E.ρ)).l (dec (a.den E.ρ)) (dec (b.den E.ρ))):=by simp only [gD,W.den,gT.den,bA]
   rcases Bu (i:=0) kR hrk g2 with ⟨q1,q2,q3,_⟩|⟨j,y,en,q1,q2,q3,q4,q5,q6,_⟩
   ·refine⟨_,?_,jm r hl (.mw (.op .Of e (gD a b)) t) (.map (cO.push { key:=uk,val:=ux,born:=c' }) (c'+1)) ?_⟩
    ·simp [Instr.mapUpdate,run_underlying hu,hg,ny yj kR,gN yj q2,kc (P:=P) g1]
    ·intro h' hh kp;simp only [OR];refine⟨_,_,hh,?_⟩;rw [LQ,bz,q3,Array.toList_push];exact mj.push (hrk.dv kp.ro kp.F4) (hrx.dv kp.ro kp.F4) (g2.dv kp.ro kp.F4)
   ·simp only [aK] at q4
    have hkt:(Instr.keyThatStays (((cO[j]?).map (·.key)).getD uk) uk).run P w= .ok uk w:=by have q2':=q2;rw [ary] at q2';simp only [q2',arB,ay,Instr.keyThatStays];simp_all
    refine⟨_,?_,jm r hl (.mw (.op .Of e (gD a b)) t) (.map (cO.modify j fun e=>{ e with key:=uk,val:=ux }) c') ?_⟩
    ·simp [Instr.mapUpdate,run_underlying hu,hg,ny yj kR,gN yj q4,hkt,kc (P:=P) g1]
    ·intro h' hh kp;simp only [OR];refine⟨_,_,hh,?_⟩;rw [LQ,bz,q6,Gy cO j en _ q2];exact mj.set (hrk.dv kp.ro kp.F4) (hrx.dv kp.ro kp.F4) (g2.dv kp.ro kp.F4) q2
theorem Kc [bS] {tt:TT} (db:fj P tt) {s s':St} (r:ca E s.h w) (hp:cD E.ρ s.pc) {ty:Nat} {m k x v:AV} {um uk ux:Value} (hm:VR E w.heap m um) (hk:VR E w.heap k uk) (Y:VR E w.heap x ux) (h:(Ma tt ty m k x s).leaf E.ρ=some (v,s')) :
 s'.bH=s.bH/\cD E.ρ s'.pc/\v=AV.undef/\∃w' E',(Instr.mapUpdate ty um uk ux).run P w= .ok () w'/\fP E s.h w E' s'.h w'/\ca E' s'.h w':=by
 unfold Ma at h;obtain⟨vs,U,j3,E1,jH,f,q,g⟩:=rC rfl r hp h;have hρ:=f.ρ;rw [<- hρ] at jH g;have hv:=q [ux] (by simp only [cL]; exact⟨ux,[],rfl,Y,rfl⟩);split at g
 ·rename_i x1;simp only [cL] at hv;obtain⟨u1,us1,e1,vP,e2⟩:=hv;subst e2;simp only [List.cons.injEq,and_true] at e1;subst e1;split at g
  ·rename_i id e t gz
   obtain⟨a1,a2,a3,w',a4,a5,a6⟩:=XV db (s:={ s with h:=U,pc:=j3 }) f.rel (VR.dv (f.eI.keeps r) _ _ hm) (VR.dv (f.eI.keeps r) _ _ hk) vP gz g;exact⟨a1,by rw [a2,<- hρ]; exact jH,a3,w',E1,a4,f.eI.trans a5,a6⟩
  grind [T.leaf]
 grind [T.leaf]
theorem X0 [bS] {tt:TT} (db:fj P tt) {s s':St} (r:ca E s.h w) {ty id t ts:Nat} {m k v:AV} {e:W} {um uk:Value} (hm:VR E w.heap m um) (hk:VR E w.heap k uk) (gz:yT m s.h=some (id,e,t)) (h:(S4 tt ty id k e t s).leaf E.ρ=some (v,s')) (tr:Nat) :
 s'.bH=s.bH/\s'.pc=s.pc/\v=AV.undef/\∃w',(Builtin.delete_ #[ty,ts] tr #[um,uk]).run P w= .ok (.tuple #[]) w'/\fP E s.h w E s'.h w'/\ca E s'.h w':=by
 obtain⟨rfl,hl⟩:=zO gz
 unfold S4 at h;split at h
 ·grind [T.leaf]
 ·rename_i a ie hmk;obtain⟨kt,et,dt,hu,yj,kR,mL,hrk⟩:=CT db hk hmk;have:=bC h;simp only [ak] at this;obtain⟨rfl,rfl⟩:=this;obtain⟨cO,c',g1,g2⟩:=CR r hl;have hg:=kj (P:=P) g1 ad;simp only [VR] at hm;obtain⟨rfl,hid⟩:=hm;refine⟨rfl,rfl,rfl,?_⟩
  have LQ:dec ((W.op .RT e a).den E.ρ)=dL (Ly (dec (e.den E.ρ)).l (dec (a.den E.ρ))):=by simp only [W.den,gT.den,bA]
  rcases Bu (i:=0) kR hrk g2 with ⟨q1,q2,_,q3⟩|⟨j,y,en,q1,q2,q3,q4,q5,_,q6⟩
  ·refine⟨_,?_,jm r hl (.mw (.op .RT e a) t) (.map cO c') ?_⟩
   ·simp [Builtin.delete_,run_underlying hu,hg,ny yj kR,gN yj q2,kc (P:=P) g1]
   ·intro h' hh kp;simp only [OR];refine⟨_,_,hh,?_⟩;rw [LQ,bz,q3];exact g2.dv kp.ro kp.F4
  ·simp only [aK] at q4;refine⟨_,?_,jm r hl (.mw (.op .RT e a) t) (.map (cO.eraseIdxIfInBounds j) c') ?_⟩
   ·simp [Builtin.delete_,run_underlying hu,hg,ny yj kR,gN yj q4,kc (P:=P) g1]
   ·intro h' hh kp;simp only [OR];refine⟨_,_,hh,?_⟩;have di:j<cO.size:=by have:=(bg.1 q2).1; simpa using this
    have:(cO.eraseIdxIfInBounds j).toList=cO.toList.eraseIdx j:=by simp_all
    rw [this,LQ,bz,q6];exact mj.erase (g2.dv kp.ro kp.F4)
end
section
variable {P:Program} {E:En} {w:World}
theorem K' [bS] {tt:TT} (db:fj P tt) {H:Hp} (r:ca E H w) {t e k:Nat} {i ie:TI} {k1 k2:IntKind} (hi:tt t=some i) (hk:i.kind= .slice e) (mL:tt e=some ie) (hz0:ie.zero.length=ie.size) (yX:0<ie.size) (pj:ie.bytes≠0) (G4:ie.bytes*k<=140737488355328) (nz:0<k) :
 ∃x w' E',(Instr.makeSlice t (.int k1 k) (.int k2 k)).run P w= .ok x w'/\fP E H w E' (H.new (.cells (eb ie.zero k) e)) w'/\ca E' (H.new (.cells (eb ie.zero k) e)) w'/\VR E' w'.heap (.slice H.fresh 0 k (.rest ie.size)) x:=by
 have iI:=db t i hi;have S_:=db e ie mL;obtain⟨inf,z,g1,g2,g3,g4,g5⟩:=yg S_;have hz:=fH (E:=E) (h:=w.heap) g5;have yh:z.cells.size=ie.size:=by have:=hz.1.length; simp only [bn] at this; omega
 have hkb:k<=140737488355328:=by refine bq ?_ G4;exact Nat.le_mul_of_pos_left _ J
 have wn:IntKind.i64.wrap (k:Int)=(k:Int):=by rw [<- mF]; simp only [vF]; rw [ag (by constructor<;>omega)]
 have ai: ∀(q:IntKind) (x:Int) (w:World),(asInt (Value.int q x)).run P w= .ok x w:=fun _ _ _=>rfl
 have jK:z.cells.toList≠[]:=by
  intro Y;have YJ:z.cells.size=0:=by have:=congrArg List.length Y; simpa using this
  omega
 have hzz:=vY z.cells jK k;rw [yh] at hzz;obtain⟨iA,e1⟩ : ∃iA:Array Value,((Array.range (k*inf.size)).map (z.cells[·% z.cells.size]!))=iA:=⟨_,rfl⟩
 have e1':iA.toList=eb z.cells.toList k:=by
  grind
 have e2:cL E w.heap (eb ie.zero k) iA.toList:=by rw [e1']; exact ng hz.1 k
 have e3: ∀u∈iA.toList,u.oneCell'=true:=by rw [e1']; intro u hu; exact hz.2 u (mZ hu)
 have iY:iA.size=k*ie.size:=by rw [<- bn,e1',jT,bn,yh]
 refine⟨.slice (some ⟨w.heap.size,0,none⟩) k k,{ w with heap:=w.heap.push (.cells iA e) },E.ext H.fresh (w.heap.size,0) iA.size,?_,?_⟩
 ·have t1: ¬((k:Int)<0):=J
  have t2: ¬((inf.bytes:Int)*(k:Int) > 2 ^ 48):=by
   grind
  have t4: ¬((k:Int) > (k:Int)):=J
  have t5:(askRoom (k*inf.bytes)).run P w= .ok () w:=by
   have: ¬(k*inf.bytes > roomBytes):=by
    unfold roomBytes
    grind
   unfold askRoom;rw [af this];rfl
  have t6:(k:Int).toNat=k:=rfl
  have h0: ¬(k*inf.size=0):=by rw [g2];have:=asu nz yX;omega
  simp only [Instr.makeSlice,Sem.run_bind,run_underlying (fT iI hk),Result.andThen_ok,ai,sizeOf,typeInfo,zeroValue,run_program,g1,g4,Sem.run_pure,newRow,Sem.run_ite,wn,t1,t2,t4,t6,h0,decide_false,asD,aQ,if_false];rw [t5,Result.andThen_ok,e1];rfl
 ·obtain⟨s1,s2⟩:=jD r iA 0 0 e e2 e3 (fun i u hu=>by rw [<- ary]; exact hu) J (w':={ w with heap:=w.heap.push (.cells iA e) }) rfl ⟨rfl,rfl,rfl⟩;refine⟨s1,s2,?_⟩;simp only [VR];refine⟨En.iR _ _ _ _,⟨w.heap.size,0,none⟩,k,rfl,ax _,?_⟩;simp only [fJ,En.ext_θ_new,En.ext_κ_new]
  grind
theorem SW [bS] {tt:TT} (db:fj P tt) {s s':St} (r:ca E s.h w) (hp:cD E.ρ s.pc) {t:Nat} {l c v:AV} {lu cu:Value} (hl:VR E w.heap l lu) (hc:VR E w.heap c cu) (h:(Mc tt t l c s).leaf E.ρ=some (v,s')) :
 s'.bH=s.bH/\cD E.ρ s'.pc/\∃x w' E',(Instr.makeSlice t lu cu).run P w= .ok x w'/\fP E s.h w E' s'.h w'/\ca E' s'.h w'/\VR E' w'.heap v x:=by
 unfold Mc at h;split at h
 ·rename_i k n;split at h
  ·rename_i k2 n2;split at h
   ·simp [T.leaf] at h
   ·rename_i hnn;have hnn:=dy _ _ hnn;subst hnn;simp only [VR] at hl hc;subst hl hc;split at h
    ·simp [T.leaf] at h
    ·rename_i i hi;split at h
     ·simp [T.leaf] at h
     ·rename_i o ho;split at h
      ·rename_i e hk;split at h
       ·simp [T.leaf] at h
       ·rename_i ie mL;split at h
        ·simp [T.leaf] at h
        ·rename_i z hz;split at h
         ·rename_i j7;obtain⟨me,yX,pj,yh⟩:=j7;obtain⟨j3,jH,U⟩:=du hp h;split at U
          ·simp [T.leaf] at U
          ·rename_i t1;obtain⟨qA,pI,Z⟩:=du (s:={ s with pc:=j3 }) jH U;split at Z
           ·rename_i t2;split at Z
            ·rename_i v0 h0 hm;have:=bC Z;simp only [ak] at this;obtain⟨rfl,rfl⟩:=this;rw [mY,beq_iff_eq] at t2;simp only [W.den] at t2;rw [t2];obtain⟨x,w',E',q1,q2,q3,q4⟩:=xo (P:=P) db r (lu:=.int k 0) (cu:=.int k2 0) (by simp only [VR,W.den]) (by simp only [VR,W.den]) hm
             grind
            ·simp [T.leaf] at Z
           ·rename_i t2;obtain⟨pc3,OC,h3⟩:=du (s:={ s with pc:=qA }) pI Z;split at h3
            ·rename_i t3;have:=bC h3;simp only [ak] at this;obtain⟨rfl,rfl⟩:=this;rw [eA,decide_eq_false_iff_not] at t1;rw [mY,beq_eq_false_iff_ne] at t2;rw [eA,decide_eq_true_eq] at t3;simp only [W.den] at t1 t2 t3;obtain⟨m,hm⟩ : ∃m:Nat,n.den E.ρ=(m:Int):=⟨(n.den E.ρ).toNat,J⟩;rw [hm] at t2 t3 ⊢;have nz:0<m:=J
             have G4:ie.bytes*m<=140737488355328:=by
              unfold sO at t3
              have U:m<=140737488355328 / ie.bytes:=by
               grind
              exact bq (Nat.mul_le_mul_left _ U) (Nat.mul_div_le _ _)
             obtain⟨x,w',E',q1,q2,q3,q4⟩:=K' (P:=P) (k1:=k) (k2:=k2) db r hi hk mL yh yX pj G4 nz;have hρ:=q2.ρ
             have V:dec ((W.op .rep n z).den E'.ρ)=dL (List.replicate m (dec (z.den E'.ρ))):=by
              have:n.den E'.ρ=(m:Int):=by rw [hρ]; exact hm
              simp only [W.den,gT.den,bA,this,aW]
             have hlen:(dec ((W.op .rep n z).den E'.ρ)).l.length=m:=by rw [V,bz,asa]
             have hwz:rS (rowOf o) (dec (z.den E'.ρ)):=vk hz
             have B5:(cU E'.ρ (.op .rep n z) o []).length=(eb ie.zero m).length:=by unfold cU;rw [cX (lC _),hlen,jT,yh,me]
             have akh: ∀(q:Nat) (us:List Value),cL E' w'.heap (eb ie.zero q) us->cL E' w'.heap (bJ E'.ρ (rowOf o) [] (List.replicate q (dec (z.den E'.ρ))) 0) us:=by
              intro q
              induction q with
              |zero=>intro us h; exact h
              |succ q ih=> intro us h;simp only [eb] at h;obtain⟨us1,us2,rfl,a,b⟩:=cL.split h;simp only [as6,bJ,eE];rw [lK _ 1 0];refine cL.append ?_ (ih _ b);rw [gW];simp only [W.den,bA];exact vm a hz
             have r2:=Fb (e1:=.op .rep n z) (t:=o) q3 ⟨by rw [V,bz],fun d Ng=>by
              rw [V,bz] at Ng;rw [atl Ng]
              exact hwz,fun hq=>by rw [hq] at hlen; simp at hlen; omega⟩ B5 (fun us hu=>by
              unfold cU;rw [V,bz]
              exact akh m us hu)
             refine⟨rfl,OC,x,w',E',q1,q2.right (ya rfl rfl fun _=>rfl),r2,?_⟩;simp only [VR] at q4 ⊢;obtain⟨p1,a,cap,p2,p3,p4⟩:=q4;refine⟨p1,m,a,cap,by rw [cW,hlen],p2,p3,?_⟩
             grind
            ·simp [T.leaf] at h3
         ·simp [T.leaf] at h
      ·simp [T.leaf] at h
  ·simp [T.leaf] at h
 ·simp [T.leaf] at h
end
theorem MX {α β:Type} (f:α->β) (xs:Array α):xs.map f=(xs.toList.map f).toArray:=by
 grind
def p8 (P:Program) (R:Value->World->Prop):Result Next->Prop
 | .ok (.value u) w'=>R u w'
 | .ok (.enter f args) w'=>Calls P f args w' fun e w''=> ∃u,e= .returned u/\R u w''
 |_=>False
def mJ (P:Program) (g:FuncId) (vals:Array Value) (w:World) (R:Value->World->Prop):Prop:=p8 P R ((callFunc g vals).run P w)
def lr [bS] (P:Program) (g:FuncId) (f:List AV->St->T (AV×St)):Prop:=
 ∀(args:List AV) (s:St) (E:En) (w:World) (vals:List Value) (v:AV) (s':St),ca E s.h w->cL E w.heap args vals->cD E.ρ s.pc->(f args s).leaf E.ρ=some (v,s')->
  s'.bH=s.bH/\cD E.ρ s'.pc/\mJ P g vals.toArray w (PU E s w v s')
theorem A9 {E:En} {h:Array Obj} {k:Nat} {e:W} {i:Nat} (he:e.den E.ρ=(i:Int)): ∀(ks:List IntKind) (j:Nat),
 cL E h (wT k e ks j) ((ks.zipIdx j).map fun p=> .int p.1 (E.ρ (1000+i*64+(k*8+p.2))))
 |[],j=>by simp [wT,cL]
 |kd::ks,j=>by simp only [wT,List.zipIdx_cons,aA];rw [bX];refine⟨_,_,rfl,?_,A9 he ks (j+1)⟩;simp only [VR,W.den,he,aW]
theorem SZ {P:Program} {E:En} {w:World} {tt:TT} (db:fj P tt) {pc:List (SB×Bool)} (hp:cD E.ρ pc) {t k:Nat} {ks:List IntKind} {ix v:AV} {u ui:Value} (Y:VR E w.heap (.yU k ks) u) (Be:VR E w.heap ix ui)
 (h:Md tt pc t k ks ix=some v): ∃r,(Instr.indexAt t u ui).run P w= .ok r w/\VR E w.heap v r:=by
 unfold Md at h;split at h
 ·rename_i kd e;split at h
  ·rename_i ti iI;split at h
   ·rename_i el hk;have hu:=fT (db t ti iI) hk;split at h
    ·rename_i s hs;simp only [jl,aO] at hs;obtain⟨ie,mL,rfl⟩:=hs;split at h
     ·rename_i hc;split at h
      ·rename_i U Z;simp at h;subst h;have U:=iz hp U;have Z:=iz hp Z;rw [eA,decide_eq_false_iff_not] at U;rw [eA,decide_eq_true_eq] at Z;simp only [W.den,ar7] at U Z;simp only [VR] at Y Be;subst Be;rcases Y with ⟨⟨x,cap,rfl⟩,h0⟩|⟨b,o,n,cap,rfl,g1,g2,g3,g4⟩
       ·omega
       ·obtain⟨i,hi⟩ : ∃i:Nat,e.den E.ρ=(i:Int):=⟨(e.den E.ρ).toNat,J⟩;have uc:i<n:=J
        refine⟨.pointer (some ⟨b,o+i*ie.size,none⟩),?_,?_⟩
        ·rw [hi];simp [Instr.indexAt,asIntOf,run_underlying hu,eV (db el ie mL),uc,fL]
        ·simp only [VR];refine⟨b,_,_,rfl,g3,A9 hi ks 0,?_,?_⟩
         ·intro j u hj
          grind
         ·intro u hu';rw [aR] at hu';obtain⟨p,_,rfl⟩:=hu';rfl
      grind
     grind
    grind
   grind
  grind
 grind
theorem adK {E:En} {s s':St} {k:IntKind} {e d:W} {v:AV} (hp:cD E.ρ s.pc) (h:(ajG s k e d).leaf E.ρ=some (v,s')) :
 s'.bH=s.bH/\s'.h=s.h/\cD E.ρ s'.pc/\d.den E.ρ≠0/\∀h,VR E h v (.int k ((e.den E.ρ).tmod (d.den E.ρ))):=by
 unfold ajG at h;obtain⟨fU,gQ,h3⟩:=du hp h;rw [jQ] at h3;split at h3
 ·grind [T.leaf]
 ·rename_i he;simp only [T.leaf,ah,ak] at h3;obtain⟨rfl,rfl⟩:=h3;simp only [W.den,beq_eq_false_iff_ne,ne_eq] at he;exact⟨rfl,rfl,gQ,he,fun h=>by simp only [VR,W.den]⟩
theorem W6 {E:En} {h:Array Obj} {op:BinOp} {a b:AV} {k:IntKind} {e d:W} (hr:RB op a b=some (k,e,d)) {u u':Value} (ha:VR E h a u) (hb:VR E h b u') :
 op= .rem/\u= .int k (e.den E.ρ)/\u'= .int k (d.den E.ρ):=by
 unfold RB at hr;split at hr
 ·split at hr
  ·split at hr
   ·split at hr
    ·grind
    ·split at hr
     ·rename_i hc;simp only [ah,ak] at hr;obtain⟨rfl,rfl,rfl⟩:=hr;simp only [VR] at ha hb
      grind
     grind
   grind
  grind
 grind
def jh [bS] (P:Program) (call:eP):Prop:= ∀g,lr P g (call g)
theorem tg.next {P:Program} {o:Oper} {a:Act} {w:World} {R:Value->World->Prop} (h:p8 P R ((execOp a.eval o).run P w)):tg P o a w R:=by
 intro K Q hk;unfold Oper.wp;generalize (execOp a.eval o).run P w=r at h
 cases r with
 |halt x w'=>exact h.elim
 |ok n w'=>
  cases n<;>first
   |exact h.elim
   |exact hk _ _ h
   |(exact Calls.mono h fun e w'' ⟨u,he,hr⟩=>by subst he; exact hk _ _ hr)
theorem HV {tt:TT} {t n:Nat} {ix:AV} {e:W} (h:Wr tt t ix=some (n,e)): ∃k ti el ie,ix= .int k e/\tt t=some ti/\ti.kind= .array n el/\tt el=some ie/\ie.size=1/\ie.agg=false:=by
 unfold Wr at h;split at h
 all_goals grind
section
variable {P:Program} {E:En} {w:World} {s s':St} {o:Oper} {a:Act} {v:AV}
theorem Ml [bS] {tt:TT} (db:fj P tt) (r:ca E s.h w) (hp:cD E.ρ s.pc) {b:Builtin} {ts:List Nat} {args:List AV} {vals:List Value} (hv:cL E w.heap args vals) (ty:Nat) (cs:Array Bool)
 (h:(yq tt s b ts args).leaf E.ρ=some (v,s')):s'.bH=s.bH/\cD E.ρ s'.pc/\∃u w',(builtin b ts.toArray ty cs vals.toArray).run P w= .ok (.value u) w'/\PU E s w v s' u w':=by
 unfold yq at h;split at h
 ·rename_i t x;obtain⟨e1,rfl⟩:=jM h;rw [bX] at hv;obtain⟨u,vs,rfl,Y,pd⟩:=hv;rw [jz] at pd;subst pd;obtain⟨y,U,Z⟩:=aan (ty:=ty) db r Y e1;exact⟨rfl,hp,y,w,by simp [builtin,U],E,fP.refl _ _ _,r,Z⟩
 ·rename_i t t2 id lo n t' y;rw [bX] at hv;obtain⟨u,vs,rfl,Y,pd⟩:=hv;rw [bX] at pd;obtain⟨u2,vs,rfl,hy,JV⟩:=pd;rw [jz] at JV;subst JV;split at h
  ·rename_i hz;obtain⟨q1,q2,z,w',E',U,Z,h3,h4⟩:=Pc (ty:=ty) db r hp hz Y hy h;exact⟨q1,q2,z,w',by simp [builtin,U],E',Z,h3,h4⟩
  grind [T.leaf]
 ·rename_i t t2 x y _;rw [bX] at hv;obtain⟨u,vs,rfl,Y,pd⟩:=hv;rw [bX] at pd;obtain⟨u2,vs,rfl,hy,JV⟩:=pd;rw [jz] at JV;subst JV;split at h
  ·rename_i aeg;obtain⟨q1,q2,z,w',E',U,Z,h3,h4⟩:=Mn (ty:=ty) db r hp Y hy (fun V=>by rw [V,asD] at aeg; exact Ow Y aeg) h;exact⟨q1,q2,z,w',by simp [builtin,U],E',Z,h3,h4⟩
  obtain⟨H,e1,rfl⟩:=rh h;obtain⟨z,w',E',U,Z,h3,h4⟩:=Pb (ty:=ty) db r Y hy e1;exact⟨rfl,hp,z,w',by simp [builtin,U],E',Z,h3,h4⟩
 ·rename_i t ts' m k;rw [bX] at hv;obtain⟨u,vs,rfl,Y,pd⟩:=hv;rw [bX] at pd;obtain⟨u2,vs,rfl,hy,JV⟩:=pd;rw [jz] at JV;subst JV;split at h
  ·rename_i id e t' gz
   obtain⟨q1,q2,rfl,w',U,Z,h3⟩:=X0 (ts:=ts') db r Y hy gz h ty;exact⟨q1,by rw [q2]; exact hp,.tuple #[],w',by simp [builtin,U],E,Z,h3,by simp only [AV.undef,VR,cL]; exact⟨[],rfl,rfl⟩⟩
  obtain⟨fU,gQ,h⟩:=sk hp h;obtain⟨H,e1,rfl,rfl⟩:=AL h;obtain⟨w',U,Z,h3⟩:=Pa (ts:=ts') db gQ r Y hy e1 ty;exact⟨rfl,gQ,.tuple #[],w',by simp [builtin,U],E,Z,h3,by simp only [AV.undef,VR,cL]; exact⟨[],rfl,rfl⟩⟩
 ·rename_i t id n t';rw [bX] at hv;obtain⟨u,vs,rfl,Y,pd⟩:=hv;rw [jz] at pd;subst pd;obtain⟨q1,q2,rfl,w',E',U,Z,h3⟩:=Ed (ty:=ty) db r hp (Uf Y) h;exact⟨q1,q2,.tuple #[],w',by simp [builtin,U],E',Z,h3,by simp only [AV.undef,VR,cL]; exact⟨[],rfl,rfl⟩⟩
 ·rename_i t id lo n t';rw [bX] at hv;obtain⟨u,vs,rfl,Y,pd⟩:=hv;rw [jz] at pd;subst pd;obtain⟨q1,q2,rfl,w',E',U,Z,h3⟩:=Ed (ty:=ty) db r hp Y h;exact⟨q1,q2,.tuple #[],w',by simp [builtin,U],E',Z,h3,by simp only [AV.undef,VR,cL]; exact⟨[],rfl,rfl⟩⟩
 ·rename_i t x _ _;obtain⟨H,e1,rfl,rfl⟩:=AL h;rw [bX] at hv;obtain⟨u,vs,rfl,Y,pd⟩:=hv;rw [jz] at pd;subst pd;obtain⟨w',U,Z,h3⟩:=S7 (ty:=ty) db r Y e1;exact⟨rfl,hp,.tuple #[],w',by simp [builtin,U],E,Z,h3,by simp only [AV.undef,VR,cL]; exact⟨[],rfl,rfl⟩⟩
 ·rename_i k e xs;rw [bX] at hv;obtain⟨u,vs,rfl,Y,pd⟩:=hv;simp only [VR] at Y;subst Y;obtain⟨q1,q2,q3,u,q4,q5⟩:=oS (P:=P) (w:=w) hp pd h;refine⟨q2,q3,u,w,?_,E,by rw [q1]; exact fP.refl _ _ _,by rw [q1]; exact r,q5⟩;simp only [aQ,if_false] at q4;simp [builtin,Builtin.min_,q4]
 ·rename_i k e xs;rw [bX] at hv;obtain⟨u,vs,rfl,Y,pd⟩:=hv;simp only [VR] at Y;subst Y;obtain⟨q1,q2,q3,u,q4,q5⟩:=oS (P:=P) (w:=w) hp pd h;refine⟨q2,q3,u,w,?_,E,by rw [q1]; exact fP.refl _ _ _,by rw [q1]; exact r,q5⟩;simp only [if_true] at q4;simp [builtin,Builtin.max_,q4]
 grind [T.leaf]
theorem X1 [bS] {tt:TT} (db:fj P tt) {call:eP} (hc:jh P call) (r:ca E s.h w) (sr:SR E w.heap s.bH a) (hp:cD E.ρ s.pc) {c:Call} (ho:o.op= .call c)
 (h:(Mk tt call s c).leaf E.ρ=some (v,s')):mi P E s o a w v s':=by
 unfold Mk at h;split at h
 ·grind [T.leaf]
 ·rename_i args agw;have hv:=L2 sr agw;have anX:c.args.map a.eval=(c.args.toList.map a.eval).toArray:=MX _ _;split at h
  ·rename_i b ako;obtain⟨q1,q2,u,w',q3,q4⟩:=Ml db r hp hv o.type (c.args.map fun| .const _=>true|_=>false) h;refine⟨q1,q2,tg.value ?_ q4⟩;simp only [execOp,ho,resolve,ako,Sem.run_bind,Sem.run_pure,Result.andThen_ok,invoke,anX];exact q3
  ·rename_i f ako;split at h
   ·rename_i g fs cs hf;have hfv:=iO sr hf;simp only [VR] at hfv;obtain⟨us,ws,he,U,Z⟩:=hfv;obtain⟨q1,q2,q3⟩:=hc g _ s E w _ v s' r ((U.append hv).append Z) hp h;refine⟨q1,q2,tg.next ?_⟩;unfold mJ at q3;simp only [execOp,ho,resolve,ako,Sem.run_bind,he,Deferred.ofValue,Sem.run_pure,Result.andThen_ok,invoke,anX]
    grind
   grind [T.leaf]
  grind [T.leaf]
theorem acJ [bS] {α:Type} {E:En} {h:Array Obj} {v:AV} {u:Value} {s:St} {k:AV->St->T α} {r:α} (hp:cD E.ρ s.pc) (hv:VR E h v u) (hl:(acK v s k).leaf E.ρ=some r) :
 ∃v' fU,cD E.ρ fU/\VR E h v' u/\(k v' { s with pc:=fU }).leaf E.ρ=some r:=by
 unfold acK at hl;split at hl
 ·split at hl
  ·exact⟨_,s.pc,hp,hv,hl⟩
  ·obtain⟨j3,jH,U⟩:=du hp hl;refine⟨_,j3,jH,?_,U⟩;simp only [VR,SB.den] at *;exact hv
 ·exact⟨_,s.pc,hp,hv,hl⟩
theorem VL [bS] {tt:TT} (db:fj P tt) {call:eP} (hc:jh P call) (r:ca E s.h w) (sr:SR E w.heap s.bH a) (hp:cD E.ρ s.pc) (h:(Mb tt call s o.op).leaf E.ρ=some (v,s')):mi P E s o a w v s':=by
 obtain⟨dst,op,type,pos,after,guard⟩:=o;simp only at h;cases op<;>simp only [Mb] at h<;>first |(simp [T.leaf] at h; done)|skip
 case move x=>
  obtain⟨u,U,Z⟩:=iG sr h;have:=bC Z;simp only [ak] at this;obtain⟨rfl,rfl⟩:=this;exact mi.pure hp r (u:=a.eval x) rfl U
 case assign x=>
  obtain⟨u,U,Z⟩:=iG sr h;have:=bC Z;simp only [ak] at this;obtain⟨rfl,rfl⟩:=this;exact mi.pure hp r (u:=a.eval x) rfl U
 case pick c x y=>
  obtain⟨cv,U,Z⟩:=iG sr h;split at Z
  ·rename_i cb;obtain⟨fU,gQ,h3⟩:=du hp Z;simp only [VR] at U;cases P8:cb.den E.ρ<;>rw [P8] at U h3
   ·simp only [aQ,if_false] at h3;obtain⟨u,h4,h5⟩:=iG (s:={ s with pc:=fU }) sr h3;have:=bC h5;simp only [ak] at this;obtain⟨rfl,rfl⟩:=this;exact⟨rfl,gQ,tg.value (u:=a.eval y) (by simp [execOp,U,asBool]) ⟨E,fP.refl _ _ _,r,h4⟩⟩
   ·simp only [if_true] at h3;obtain⟨u,h4,h5⟩:=iG (s:={ s with pc:=fU }) sr h3;have:=bC h5;simp only [ak] at this;obtain⟨rfl,rfl⟩:=this;exact⟨rfl,gQ,tg.value (u:=a.eval x) (by simp [execOp,U,asBool]) ⟨E,fP.refl _ _ _,r,h4⟩⟩
  ·simp [T.leaf] at Z
 case alloc t=>
  split at h
  ·rename_i i hi;have:=bC h;simp only [ak] at this;obtain⟨rfl,rfl⟩:=this;obtain⟨inf,z,g1,g2,g3,g4,g5⟩:=yg (db t i hi);have hz:=fH (E:=E) (h:=w.heap) g5;obtain⟨s1,s2⟩:=jD r z.cells 0 0 t hz.1 hz.2 (fun i u hu=>by rw [<- ary]; exact hu) J (w':={ w with heap:=w.heap.push (.cells z.cells t) }) rfl ⟨rfl,rfl,rfl⟩;exact mi.heap hp (u:=.pointer (some ⟨w.heap.size,0,none⟩)) (by simp [execOp,Instr.alloc,zeroValue,typeInfo,g1,g4,newVar,newRow]) s1 s2 (Ll r _ _ 0)
  ·simp [T.leaf] at h
 case box t x=>
  obtain⟨u,U,Z⟩:=iG sr h;split at Z
  ·rename_i vQ;have:=bC Z;simp only [ak] at this;obtain⟨rfl,rfl⟩:=this;have P7:=U.cells vQ;obtain⟨s1,s2⟩:=jD r (a.eval x).cells 0 0 t P7 (P7.tI vQ) (fun i u hu=>by rw [<- ary]; exact hu) J (w':={ w with heap:=w.heap.push (.cells (a.eval x).cells t) }) rfl ⟨rfl,rfl,rfl⟩;exact mi.heap hp (u:=.pointer (some ⟨w.heap.size,0,none⟩)) (by simp [execOp,Instr.box,newVar,newRow]) s1 s2 (Ll r _ _ 0)
  ·simp [T.leaf] at Z
 case build t parts=>
  split at h
  ·rename_i ps hps;obtain⟨e1,rfl⟩:=jM h;have hpr:=Aa sr hps;obtain⟨x,U,Z⟩:=S9 (w:=w) (ps:=parts.map fun p=>(p.1,a.eval p.2)) db (by simpa using hpr) e1;exact mi.pure hp r (u:=x) (by simp [execOp,U]) Z
  ·simp [T.leaf] at h
 case buildSlice t len parts=>
  split at h
  ·rename_i ps hps;obtain⟨H,e1,rfl⟩:=rh h;have hpr:=Aa sr hps;obtain⟨x,w',E',U,Z,h3,h4⟩:=EG (ps:=parts.map fun p=>(p.1,a.eval p.2)) db r (by simpa using hpr) e1;exact mi.heap hp (u:=x) (by simp [execOp,U]) Z h3 h4
  ·simp [T.leaf] at h
 case makeSlice t l c=>
  obtain⟨u,U,Z⟩:=iG sr h;split at Z
  ·rename_i cv hc;split at Z
   ·rename_i q hq;obtain⟨H,e1,rfl⟩:=rh Z;simp only [ah] at e1;subst e1;obtain⟨x,w',E',g1,g2,g3,g4⟩:=xo db r U (iO sr hc) hq;exact mi.heap hp (u:=x) (by simp [execOp,g1]) g2 g3 g4
   ·obtain⟨q1,q2,x,w',E',g1,g2,g3,g4⟩:=SW db r hp U (iO sr hc) Z;exact⟨q1,q2,tg.value (by simp [execOp,g1]) ⟨E',g2,g3,g4⟩⟩
  ·simp [T.leaf] at Z
 case insert t m k x=>
  obtain⟨u,U,Z⟩:=iG sr h;split at Z
  ·rename_i kv xv hk Y;split at Z
   ·obtain⟨q1,q2,rfl,w',E',g1,g2,g3⟩:=Kc (P:=P) db r hp U (iO sr hk) (iO sr Y) Z;exact⟨q1,q2,tg.skip (by simp [execOp,g1]) ⟨E',g2,g3,py⟩⟩
   obtain⟨fU,gQ,Z⟩:=sk hp Z;obtain⟨H,e1,rfl,rfl⟩:=AL Z;obtain⟨w',g1,g2,g3⟩:=xn db gQ r U (iO sr hk) (iO sr Y) e1;exact⟨rfl,gQ,tg.skip (by simp [execOp,g1]) ⟨E,g2,g3,py⟩⟩
  ·simp [T.leaf] at Z
 case load t x=>
  obtain⟨u,U,Z⟩:=iG sr h;split at Z
  ·obtain⟨q1,q2,q3,y,b,off,g1,g2,g3⟩:=SY db r hp U Z;exact⟨q1,q3,tg.value (u:=y) (by simp [execOp,Instr.loadAt,g1,Instr.sureAddr,g2]) ⟨E,by rw [q2]; exact fP.refl _ _ _,by rw [q2]; exact r,g3⟩⟩
  obtain⟨e1,rfl⟩:=jM Z;obtain⟨y,b,off,g1,g2,g3⟩:=Da db r U e1;exact mi.pure hp r (u:=y) (by simp [execOp,Instr.loadAt,g1,Instr.sureAddr,g2]) g3
 case store t x y=>
  obtain⟨u,U,Z⟩:=iG sr h;split at Z
  ·rename_i yv hy;obtain⟨yv',fU,gQ,Si,Z⟩:=acJ hp (iO sr hy) Z;split at Z
   ·obtain⟨q1,q2,rfl,w',E',g1,g2,g3⟩:=O5 db (s:={ s with pc:=fU }) r gQ U Si Z;exact⟨q1,q2,tg.skip (by simp [execOp,g1]) ⟨E',g2,g3,py⟩⟩
   obtain⟨H,e1,rfl,rfl⟩:=AL Z;obtain⟨w',g1,g2,g3⟩:=SO db r U Si e1;exact⟨rfl,gQ,tg.skip (by simp [execOp,g1]) ⟨E,g2,g3,py⟩⟩
  ·simp [T.leaf] at Z
 case nilCheck x=>
  obtain⟨u,U,Z⟩:=iG sr h;split at Z
  ·have:=bC Z;simp only [ak] at this;obtain⟨rfl,rfl⟩:=this;have OM:=U;simp only [VR] at U;exact mi.pure hp r (u:=a.eval x) (by simp [execOp,U.1]) OM
  ·have:=bC Z;simp only [ak] at this;obtain⟨rfl,rfl⟩:=this;have OM:=U;simp only [VR] at U;obtain⟨b,off,us,hu,_⟩:=U;exact mi.pure hp r (u:=a.eval x) (by simp [execOp,hu]) OM
  ·have:=bC Z;simp only [ak] at this;obtain⟨rfl,rfl⟩:=this;have OM:=U;simp only [VR] at U;obtain⟨_,k,_,hu⟩:=U;exact mi.pure hp r (u:=a.eval x) (by simp [execOp,hu]) OM
  ·simp [T.leaf] at Z
 case binOp bop t x y yt=>
  obtain⟨u,U,Z⟩:=iG sr h;split at Z
  ·rename_i yv hy;have Si:=iO sr hy;split at Z
   ·rename_i xs;simp only [VR] at U;obtain⟨us,OB,U⟩:=U;split at Z
    ·rename_i ys;simp only [VR] at Si;obtain⟨vs,P4,Si⟩:=Si;split at Z
     ·rename_i c Su;have:=bC Z;simp only [ak] at this;obtain⟨rfl,rfl⟩:=this;obtain⟨g1,g2,g3⟩:=Hr (w:=w) db U Si Su .eql x y;exact mi.pure hp r (u:=.bool (c.den E.ρ)) (by simp [execOp,OB,P4,g1,g2]) (by simp only [VR])
     ·simp [T.leaf] at Z
    ·rename_i ys;simp only [VR] at Si;obtain⟨vs,P4,Si⟩:=Si;split at Z
     ·rename_i c Su;have:=bC Z;simp only [ak] at this;obtain⟨rfl,rfl⟩:=this;obtain⟨g1,g2,g3⟩:=Hr (w:=w) db U Si Su .neq x y;exact mi.pure hp r (u:=.bool (!(c.den E.ρ))) (by simp [execOp,OB,P4,g1,g3]) (by simp only [VR,oE])
     ·simp [T.leaf] at Z
    ·simp [T.leaf] at Z
   ·split at Z
    ·rename_i e hna;obtain⟨q1,q2,q3,y',g1,g2,g3,g4⟩:=ad0 (P:=P) (w:=w) db hna U Si hp Z;exact⟨q1,q3,tg.value (u:=y') (by simp [execOp,xr (P:=P) (w:=w) g3 g4,g1]) ⟨E,by rw [q2]; exact fP.refl _ _ _,by rw [q2]; exact r,g2⟩⟩
    split at Z
    ·rename_i k e d hrl;obtain⟨rfl,hu1,hu2⟩:=W6 hrl U Si;obtain⟨q1,q2,q3,jK,q4⟩:=adK hp Z;refine⟨q1,q3,tg.value (u:=.int k ((e.den E.ρ).tmod (d.den E.ρ))) (w':=w) ?_ ⟨E,by rw [q2]; exact fP.refl _ _ _,by rw [q2]; exact r,q4 _⟩⟩;simp [execOp,hu1,hu2,binOp,Op.intDiv,jK,eqGuard]
    split at Z
    ·rename_i x' y' hsp;obtain⟨q1,q2,q3,⟨y'',g1,g2⟩,g3,g4⟩:=XU (P:=P) (w:=w) (t:=t) hp U Si hsp Z;exact⟨q1,q3,tg.value (u:=y'') (by simp [execOp,xr (P:=P) (w:=w) g3 g4,g1]) ⟨E,by rw [q2]; exact fP.refl _ _ _,by rw [q2]; exact r,g2⟩⟩
    ·obtain⟨e1,rfl⟩:=jM Z;obtain⟨⟨y',g1,g2⟩,g3,g4⟩:=aap (w:=w) db U Si e1;exact mi.pure hp r (u:=y') (by simp [execOp,xr (P:=P) (w:=w) g3 g4,g1]) g2
  ·simp [T.leaf] at Z
 case unOp uop t x=>
  obtain⟨u,U,Z⟩:=iG sr h;obtain⟨e1,rfl⟩:=jM Z;obtain⟨y,g1,g2⟩:=aev (P:=P) (w:=w) U e1;exact mi.pure hp r (u:=y) (by simp [execOp,g1]) g2
 case convert sT dT x=>
  obtain⟨u,U,Z⟩:=iG sr h;split at Z
  ·obtain⟨q1,q2,y,w',E',g1,g2,g3,g4⟩:=S8 (P:=P) db r hp U Z;exact⟨q1,q2,tg.value (u:=y) (by simp [execOp,g1]) ⟨E',g2,g3,g4⟩⟩
  obtain⟨H,e1,rfl⟩:=rh Z;obtain⟨y,w',E',g1,g2,g3,g4⟩:=BC db r U e1;exact mi.heap hp (u:=y) (by simp [execOp,g1]) g2 g3 g4
 case makeFunc fn fs cs=>
  split at h
  ·rename_i f c hf X?;have:=bC h;simp only [ak] at this;obtain⟨rfl,rfl⟩:=this;have U:=L2 sr hf;have Z:=L2 sr X?;refine mi.pure hp r (u:=.func fn (fs.map a.eval) (cs.map a.eval)) (by simp [execOp,Instr.makeFunc]) ?_;simp only [VR];have m1:fs.map a.eval=(fs.toList.map a.eval).toArray:=MX _ _;have m2:cs.map a.eval=(cs.toList.map a.eval).toArray:=MX _ _;exact⟨_,_,by rw [m1,m2],U,Z⟩
  ·simp [T.leaf] at h
 case makeMap t res=>
  split at h
  ·split at h
   ·rename_i m hm;have:=bC h;simp only [ak] at this;obtain⟨rfl,rfl⟩:=this
    obtain⟨s1,s2⟩:=AY r (.map #[] 0) (.mw (.fk (.i 0)) m) 0 (w':={ w with heap:=w.heap.push (.map #[] 0) }) rfl ⟨rfl,rfl,rfl⟩ (by
     simp only [OR,En.ext_θ_new]
     exact⟨#[],0,ad,by simp [mj,W.den,bA,D.l]⟩)
    exact mi.heap hp (u:=.map (some w.heap.size)) (by simp [execOp,Instr.makeMap]) s1 s2 (by simp only [VR,En.ext_θ_new]; exact⟨trivial,En.iR _ _ _ _⟩)
   have:=bC h;simp only [ak] at this;obtain⟨rfl,rfl⟩:=this
   obtain⟨s1,s2⟩:=AY r (.map #[] 0) (.map [] 0) 0 (w':={ w with heap:=w.heap.push (.map #[] 0) }) rfl ⟨rfl,rfl,rfl⟩ (by
    simp only [OR,En.ext_θ_new]
    exact⟨#[],0,ad,by simp [fw]⟩)
   exact mi.heap hp (u:=.map (some w.heap.size)) (by simp [execOp,Instr.makeMap]) s1 s2 (by simp only [VR,En.ext_θ_new]; exact⟨trivial,En.iR _ _ _ _⟩)
  ·simp [T.leaf] at h
 case slice t x lo hi mx=>
  obtain⟨u,U,Z⟩:=iG sr h;split at Z
  ·rename_i l hh m hl hhh hm;split at Z
   ·obtain⟨q1,q2,q3,y,g1,g2⟩:=S5 (w:=w) db hp U (fY sr hl) (fY sr hhh) (fY sr hm) Z;exact⟨q1,q3,tg.value (u:=y) (by simp [execOp,g1]) ⟨E,by rw [q2]; exact fP.refl _ _ _,by rw [q2]; exact r,g2⟩⟩
   ·obtain⟨q1,q2,q3,y,g1,g2⟩:=Hh db r hp (Uf U) (fY sr hl) (fY sr hhh) (fY sr hm) Z;exact⟨q1,q3,tg.value (u:=y) (by simp [execOp,g1]) ⟨E,by rw [q2]; exact fP.refl _ _ _,by rw [q2]; exact r,g2⟩⟩
   ·obtain⟨q1,q2,q3,y,g1,g2⟩:=Hh db r hp U (fY sr hl) (fY sr hhh) (fY sr hm) Z;exact⟨q1,q3,tg.value (u:=y) (by simp [execOp,g1]) ⟨E,by rw [q2]; exact fP.refl _ _ _,by rw [q2]; exact r,g2⟩⟩
   ·obtain⟨q1,q2,q3,y,g1,g2⟩:=SL (w:=w) db hp U (fY sr hl) (fY sr hhh) (fY sr hm) Z;exact⟨q1,q3,tg.value (u:=y) (by simp [execOp,g1]) ⟨E,by rw [q2]; exact fP.refl _ _ _,by rw [q2]; exact r,g2⟩⟩
   ·obtain⟨q1,q2,q3,y,g1,g2⟩:=S3 (w:=w) db hp U (fY sr hl) (fY sr hhh) (fY sr hm) Z;exact⟨q1,q3,tg.value (u:=y) (by simp [execOp,g1]) ⟨E,by rw [q2]; exact fP.refl _ _ _,by rw [q2]; exact r,g2⟩⟩
   split at Z
   ·rename_i v' e1;have:=bC Z;simp only [ak] at this;obtain⟨rfl,rfl⟩:=this;obtain⟨y,g1,g2⟩:=SP (w:=w) db U (fY sr hl) (fY sr hhh) (fY sr hm) e1;exact mi.pure hp r (u:=y) (by simp [execOp,g1]) g2
   ·obtain⟨e1,rfl⟩:=jM Z;obtain⟨y,g1,g2⟩:=O6 (w:=w) db r U (fY sr hl) (fY sr hhh) (fY sr hm) e1;exact mi.pure hp r (u:=y) (by simp [execOp,g1]) g2
  ·simp [T.leaf] at Z
 case fieldAddr t x f=>
  obtain⟨u,U,Z⟩:=iG sr h;obtain⟨e1,rfl⟩:=jM Z;obtain⟨y,g1,g2⟩:=Hq (w:=w) db U e1;exact mi.pure hp r (u:=y) (by simp [execOp,g1]) g2
 case field t x f=>
  obtain⟨u,U,Z⟩:=iG sr h;obtain⟨e1,rfl⟩:=jM Z;obtain⟨y,g1,g2⟩:=S0 (w:=w) db U e1;exact mi.pure hp r (u:=y) (by simp [execOp,g1]) g2
 case indexAddr t x i=>
  obtain⟨u,U,Z⟩:=iG sr h;split at Z
  ·rename_i iv hi;split at Z
   ·obtain⟨e1,rfl⟩:=jM Z;obtain⟨y,g1,g2⟩:=SZ (w:=w) db hp U (iO sr hi) e1;exact mi.pure hp r (u:=y) (by simp [execOp,g1]) g2
   ·obtain⟨q1,q2,q3,y,g1,g2⟩:=S6 (w:=w) db hp U (iO sr hi) Z;exact⟨q1,q3,tg.value (u:=y) (by simp [execOp,g1]) ⟨E,by rw [q2]; exact fP.refl _ _ _,by rw [q2]; exact r,g2⟩⟩
   ·obtain⟨q1,q2,q3,y,g1,g2⟩:=SK (w:=w) db hp U (iO sr hi) Z;exact⟨q1,q3,tg.value (u:=y) (by simp [execOp,g1]) ⟨E,by rw [q2]; exact fP.refl _ _ _,by rw [q2]; exact r,g2⟩⟩
   ·obtain⟨q1,q2,q3,y,g1,g2⟩:=SJ (w:=w) db hp U (iO sr hi) Z;exact⟨q1,q3,tg.value (u:=y) (by simp [execOp,g1]) ⟨E,by rw [q2]; exact fP.refl _ _ _,by rw [q2]; exact r,g2⟩⟩
   ·rename_i pid po;split at Z
    ·rename_i n e hb;split at Z
     ·rename_i ho;subst ho;obtain⟨kd,ti,el,ie,rfl,b1,b2,b3,b4,b5⟩:=HV hb;obtain⟨fU,gQ,t1,t2,h3⟩:=oY hp Z;have:=bC h3;simp only [ak] at this;obtain⟨rfl,rfl⟩:=this;have hiv:=iO sr hi;simp only [VR] at hiv;simp only [W.den] at t2;obtain⟨k,hk⟩ : ∃k:Nat,e.den E.ρ=(k:Int):=⟨(e.den E.ρ).toNat,J⟩;have gy:k<n:=by simp at t2; omega
      rw [hk] at hiv
      obtain⟨y,g1,g2⟩:=rF (P:=P) (w:=w) db (t:=t) (ix:=.int kd (.lit (Int.ofNat k))) U (by simp only [VR,W.den]; exact hiv) (v:=.ptr pid (0+k*ie.size)) (by
       unfold pW;simp only [lF,b1,b2,jl,b3,arB];rw [ag gy]
       rfl)
      refine⟨rfl,gQ,tg.value (u:=y) (by simp [execOp,g1]) ⟨E,fP.refl _ _ _,r,?_⟩⟩;simp only [VR] at g2 ⊢;exact⟨g2.2,k,hk,by rw [g2.1,b4]; congr 3; omega⟩
     ·simp [T.leaf] at Z
    ·obtain⟨ix',fU,gQ,Be,Z⟩:=BX hp (iO sr hi) Z;obtain⟨e1,rfl⟩:=jM Z;obtain⟨y,g1,g2⟩:=rF (w:=w) db U Be e1;exact⟨rfl,gQ,tg.value (u:=y) (by simp [execOp,g1]) ⟨E,fP.refl _ _ _,r,g2⟩⟩
   ·obtain⟨ix',fU,gQ,Be,Z⟩:=BX hp (iO sr hi) Z;obtain⟨e1,rfl⟩:=jM Z;obtain⟨y,g1,g2⟩:=rF (w:=w) db U Be e1;exact⟨rfl,gQ,tg.value (u:=y) (by simp [execOp,g1]) ⟨E,fP.refl _ _ _,r,g2⟩⟩
  ·simp [T.leaf] at Z
 case index t x i=>
  obtain⟨u,U,Z⟩:=iG sr h;split at Z
  ·rename_i iv hi;split at Z
   ·obtain⟨q1,q2,q3,y,g1,g2⟩:=SM (w:=w) db hp U (iO sr hi) Z;exact⟨q1,q3,tg.value (u:=y) (by simp [execOp,g1]) ⟨E,by rw [q2]; exact fP.refl _ _ _,by rw [q2]; exact r,g2⟩⟩
   ·rename_i cs;split at Z
    ·rename_i n e hb;split at Z
     ·rename_i hn;have hn:=az hn;obtain⟨kd,ti,el,ie,rfl,b1,b2,b3,b4,b5⟩:=HV hb;obtain⟨q1,q2,q3,k,kk,z,x',c1,c2,c3,rfl,c5⟩:=O2 hp Z;have hiv:=iO sr hi;simp only [VR] at hiv;rw [c1] at hiv;obtain⟨l,V⟩:=Dk c3
      obtain⟨y,g1,g2⟩:=Ab (P:=P) (w:=w) db (t:=t) (ix:=.int kd (.lit (Int.ofNat k))) U (by simp only [VR,W.den]; exact hiv) (v:=.int kk (.lit z)) (by
       unfold BA;simp only [lF,b1,b2,b3];rw [ag J,b4,asJ,V]
       simp [partOf,b5])
      refine⟨q1,q3,tg.value (u:=y) (w':=w) (by simp [execOp,g1]) ⟨E,by rw [q2]; exact fP.refl _ _ _,by rw [q2]; exact r,?_⟩⟩;simp only [VR,W.den] at g2 ⊢;rw [g2,c5]
     ·simp [T.leaf] at Z
    ·obtain⟨ix',fU,gQ,Be,Z⟩:=BX hp (iO sr hi) Z;obtain⟨e1,rfl⟩:=jM Z;obtain⟨y,g1,g2⟩:=Ab (w:=w) db U Be e1;exact⟨rfl,gQ,tg.value (u:=y) (by simp [execOp,g1]) ⟨E,fP.refl _ _ _,r,g2⟩⟩
   obtain⟨ix',fU,gQ,Be,Z⟩:=BX hp (iO sr hi) Z;obtain⟨e1,rfl⟩:=jM Z;obtain⟨y,g1,g2⟩:=Ab (w:=w) db U Be e1;exact⟨rfl,gQ,tg.value (u:=y) (by simp [execOp,g1]) ⟨E,fP.refl _ _ _,r,g2⟩⟩
  ·simp [T.leaf] at Z
 case lookup t m k ok=>
  obtain⟨u,U,Z⟩:=iG sr h;split at Z
  ·rename_i kv hk;split at Z
   ·rename_i id e t' gz
    obtain⟨q1,q2,q3,y,g1,g2⟩:=SX (P:=P) db r hp U (iO sr hk) gz Z;exact⟨q1,q3,tg.value (u:=y) (by simp [execOp,g1]) ⟨E,by rw [q2]; exact fP.refl _ _ _,by rw [q2]; exact r,g2⟩⟩
   obtain⟨fU,gQ,Z⟩:=sk hp Z;obtain⟨e1,rfl⟩:=jM Z;obtain⟨y,g1,g2⟩:=O9 db gQ r U (iO sr hk) e1;exact⟨rfl,gQ,tg.value (u:=y) (by simp [execOp,g1]) ⟨E,fP.refl _ _ _,r,g2⟩⟩
  ·simp [T.leaf] at Z
 case mapUpdate t m k x=>
  obtain⟨u,U,Z⟩:=iG sr h;split at Z
  ·rename_i kv xv hk Y;split at Z
   ·obtain⟨q1,q2,rfl,w',E',g1,g2,g3⟩:=Kc (P:=P) db r hp U (iO sr hk) (iO sr Y) Z;exact⟨q1,q2,tg.skip (by simp [execOp,g1]) ⟨E',g2,g3,py⟩⟩
   obtain⟨fU,gQ,Z⟩:=sk hp Z;obtain⟨H,e1,rfl,rfl⟩:=AL Z;obtain⟨w',g1,g2,g3⟩:=xn db gQ r U (iO sr hk) (iO sr Y) e1;exact⟨rfl,gQ,tg.skip (by simp [execOp,g1]) ⟨E,g2,g3,py⟩⟩
  ·simp [T.leaf] at Z
 case range t x=>
  obtain⟨u,U,Z⟩:=iG sr h;obtain⟨H,e1,rfl⟩:=rh Z;obtain⟨y,w',E',g1,g2,g3,g4⟩:=SS db r U e1;exact mi.heap hp (u:=y) (by simp [execOp,g1]) g2 g3 g4
 case next x isS=>
  obtain⟨u,U,Z⟩:=iG sr h;obtain⟨H,e1,rfl⟩:=rh Z;obtain⟨y,w',g1,g2,g3,g4⟩:=XW (P:=P) r U e1 type;exact mi.heap hp (u:=y) (by simp [execOp,g1]) g2 g3 g4
 case extract x i=>
  obtain⟨u,U,Z⟩:=iG sr h;split at Z
  ·rename_i vs;obtain⟨e1,rfl⟩:=jM Z;simp only [VR] at U;obtain⟨us,OB,U⟩:=U;obtain⟨y,g1,g2⟩:=U.nth e1;exact mi.pure hp r (u:=y) (by simp [execOp,Instr.extract,OB,g1]) g2
  ·simp [T.leaf] at Z
 case call c=>exact X1 db hc r sr hp rfl h
end
section
variable {P:Program}
structure Fit [bS] (E:En) (s:St) (a:Act) (w:World):Prop where
 rel:ca E s.h w
 sr:SR E w.heap s.bH a
 pc:cD E.ρ s.pc
structure oo [bS] (E:En) (s:St) (a:Act) (w:World) (s':St) (a':Act) (w':World):Prop where
 defers:a'.defers=a.defers
 size:a'.tmps.size=a.tmps.size
 step: ∃E',fP E s.h w E' s'.h w'/\Fit E' s' a' w'
theorem oo.refl [bS] {E:En} {s:St} {a:Act} {w:World} (f:Fit E s a w):oo E s a w s a w:=⟨rfl,rfl,E,fP.refl _ _ _,f⟩
theorem SR.dv {E E':En} {h h':Array Obj} (k:lj E h E' h') {bH:Tr AV} {a:Act} (sr:SR E h bH a):SR E' h' bH a:=by intro t v ht;obtain⟨u,U,Z⟩:=sr t v ht;exact⟨u,U,VR.dv k v u Z⟩
theorem SR.put {E:En} {h:Array Obj} {bH:Tr AV} {a:Act} (sr:SR E h bH a) {d:Nat} {v:AV} {u:Value} (V:d<a.tmps.size) (hv:VR E h v u):SR E h (bH.put d (some v)) (a.put (some d) u):=by
 intro t x ht;rw [Tr.bV] at ht;simp only [Act.put];split at ht
 ·rename_i e
  grind
 ·rename_i e;obtain⟨y,U,Z⟩:=sr t x ht
  grind
theorem SR.apy {E:En} {h:Array Obj} {s:St} {a:Act} (sr:SR E h s.bH a) {d:Option Nat} {v:AV} {u:Value} (V: ∀t,d=some t->t<a.tmps.size) (hv:VR E h v u):SR E h (s.NO d v).bH (a.put d u):=by
 cases d with
 |none=>exact sr
 |some t=>exact sr.put (V t rfl) hv
theorem Gc (a:Act) (d:Option Nat) (u:Value):(a.put d u).tmps.size=a.tmps.size:=by cases d<;>simp [Act.put]
theorem put_defers (a:Act) (d:Option Nat) (u:Value):(a.put d u).defers=a.defers:=by cases d<;>rfl
theorem w? (s:St) (d:Option Nat) (v:AV):(s.NO d v).h=s.h:=by cases d<;>rfl
theorem adD (s:St) (d:Option Nat) (v:AV):(s.NO d v).pc=s.pc:=by cases d<;>rfl
theorem J8 [bS] {E:En} {s s':St} {a:Act} {w w':World} {v:AV} {u:Value} {d:Option Nat} (f:Fit E s a w) (hs:s'.bH=s.bH) (hp:cD E.ρ s'.pc) (h:PU E s w v s' u w') (V: ∀t,d=some t->t<a.tmps.size) :
 oo E s a w (s'.NO d v) (a.put d u) w':=by
 obtain⟨E',U,Z,h3⟩:=h;refine⟨put_defers _ _ _,Gc _ _ _,E',by rw [w?]; exact U,⟨by rw [w?]; exact Z,?_,by rw [adD,U.ρ]; exact hp⟩⟩;refine SR.apy ?_ V h3;rw [hs];exact f.sr.dv (U.keeps f.rel)
theorem oo.trans [bS] {E:En} {s s1 s2:St} {a a1 a2:Act} {w w1 w2:World} (U:oo E s a w s1 a1 w1) (Z: ∀E1,fP E s.h w E1 s1.h w1->Fit E1 s1 a1 w1->oo E1 s1 a1 w1 s2 a2 w2):oo E s a w s2 a2 w2:=by obtain⟨d1,z1,E1,FW,f1⟩:=U;obtain⟨d2,z2,E2,Ir,f2⟩:=Z E1 FW f1;exact⟨d2.trans d1,z2.trans z1,E2,FW.trans Ir,f2⟩
theorem Gu [bS] {α:Type} {E:En} {w:World} {s:St} {a:Act} {ops:Array Oper} {o:Oper} {f:St->Bool->T α} {r:α} (fit:Fit E s a w) (h:(xY ops.toList s o f).leaf E.ρ=some r) :
 ∃fU,cD E.ρ fU/\(f { s with pc:=fU } (Region.wanted o (yielded ops a.tmps))).leaf E.ρ=some r:=by
 unfold xY at h;unfold Region.wanted;split at h
 ·rename_i hg;rw [hg];exact⟨s.pc,fit.pc,h⟩
 ·rename_i j want hg;rw [hg];split at h
  ·rename_i oj hj;rw [dI,ary] at hj;split at h
   ·rename_i d V;split at h
    ·rename_i c hc;obtain⟨u,U,Z⟩:=fit.sr d _ hc;simp only [VR] at Z;subst Z;obtain⟨fU,gQ,h3⟩:=du fit.pc h;refine⟨fU,gQ,?_⟩;have:yielded ops a.tmps j=some (c.den E.ρ):=by simp [yielded,hj,V,U]
     simp only [this];simpa using h3
    ·rename_i vs hc;obtain⟨u,U,Z⟩:=fit.sr d _ hc;simp only [VR] at Z;obtain⟨us,rfl,_⟩:=Z;refine⟨s.pc,fit.pc,?_⟩;have:yielded ops a.tmps j=none:=by simp [yielded,hj,V,U]
     simp only [this];simpa using h
    ·simp [T.leaf] at h
   ·simp [T.leaf] at h
  ·simp [T.leaf] at h
def ak4 (n:Nat) (ops:List Oper):Bool:=ops.all fun o=>match o.dst with |some d=>d<n|none=>true
theorem Hm [bS] {tt:TT} (db:fj P tt) {call:eP} (hc:jh P call) {ops:Array Oper} {Q:Exit->Act->World->Prop}: ∀(rest:List Oper) (i:Nat) {E:En} {s s':St} {a:Act} {w:World},ops.toList.drop i=rest->
 (∀o∈rest,∀d,o.dst=some d->d<a.tmps.size)->Fit E s a w->(O8 tt call ops.toList rest s).leaf E.ρ=some s'->
 (∀a' w',oo E s a w s' a' w'->Q .normal a' w')->wpOps P ops Q (List.range' i rest.length) a w
 |[],i,E,s,s',a,w,_,_,fit,h,hq=>by have:=bC h;subst this;exact hq a w (oo.refl fit)
 |o::rest,i,E,s,s',a,w,hi,V,fit,h,hq=>by
  simp only [O8] at h;obtain⟨fU,gQ,U⟩:=Gu fit h
  have hoi:ops[i]?=some o:=by
   have:=congrArg (·[0]?) hi
   grind
  have agp:ops.toList.drop (i+1)=rest:=by have:=congrArg List.tail hi;simpa using this
  have XS:Fit E { s with pc:=fU } a w:=⟨fit.rel,fit.sr,gQ⟩;simp only [aT,List.range'_succ];show wpOps P ops Q (i::List.range' (i+1) rest.length) a w;simp only [wpOps,hoi];cases hw:Region.wanted o (yielded ops a.tmps)<;>rw [hw] at U
  ·simp only [aQ,if_false] at U ⊢
   have D4:oo E s a w (St.NO { s with pc:=fU } o.dst AV.undef) (a.put o.dst undef) w:=
    J8 (s':={ s with pc:=fU }) fit rfl gQ ⟨E,fP.refl _ _ _,fit.rel,py⟩ (V o ad)
   obtain⟨d1,z1,E1,FW,f1⟩:=D4;refine Hm db hc rest (i+1) agp (fun o' GV d Ng=>by rw [z1]; exact V o' (by simp [GV]) d Ng) f1 (by rw [FW.ρ]; exact U) fun a' w' ht=>?_;exact hq a' w' ⟨ht.defers.trans d1,ht.size.trans z1,by obtain⟨E2,Ir,f2⟩:=ht.step; exact⟨E2,FW.trans Ir,f2⟩⟩
  ·simp only [if_true] at U ⊢;left;obtain⟨⟨v,s1⟩,Z,h3⟩:=T.fV U;obtain⟨q1,q2,q3⟩:=VL db hc (o:=o) XS.rel XS.sr XS.pc Z;refine q3 _ _ fun u w1 hu=>?_;have D4:oo E s a w (s1.NO o.dst v) (a.put o.dst u) w1:=J8 (s:=s) (s':=s1) fit q1 q2 hu (V o ad);obtain⟨d1,z1,E1,FW,f1⟩:=D4;refine Hm db hc rest (i+1) agp (fun o' GV d Ng=>by rw [z1]; exact V o' (by simp [GV]) d Ng) f1 (by rw [FW.ρ]; exact h3) fun a' w' ht=>?_;exact hq a' w' ⟨ht.defers.trans d1,ht.size.trans z1,by obtain⟨E2,Ir,f2⟩:=ht.step; exact⟨E2,FW.trans Ir,f2⟩⟩
def ae3 [bS] (P:Program) (draw:List Oper->St->T St):Prop:=
 ∀(id:Nat) (ops:Array Oper) (E:En) (s s':St) (a:Act) (w:World) (Q:Exit->Act->World->Prop),(∀o∈ops.toList,∀d,o.dst=some d->d<a.tmps.size)->Fit E s a w->(draw ops.toList s).leaf E.ρ=some s'->
  (∀a' w',oo E s a w s' a' w'->Q .normal a' w')->(Code.region id ops true).wp P Q a w
def xK [bS] (P:Program) (sJ:Nat->List Oper->Bool) (draw:Nat->List Oper->St->T St):Prop:=
 ∀(id:Nat) (ops:Array Oper),sJ id ops.toList=true->∀(E:En) (s s':St) (a:Act) (w:World) (Q:Exit->Act->World->Prop),(∀o∈ops.toList,∀d,o.dst=some d->d<a.tmps.size)->Fit E s a w->(draw id ops.toList s).leaf E.ρ=some s'->
  (∀a' w',oo E s a w s' a' w'->Q .normal a' w')->(Code.region id ops true).wp P Q a w
def lg (sJ:Nat->List Oper->Bool) (n:Nat):Code->Bool
 | .region id ops d=>ak4 n ops.toList&&(!d||sJ id ops.toList)
 | .seq a b=>lg sJ n a&&lg sJ n b
 | .cond _ a b=>lg sJ n a&&lg sJ n b
 | .block _ b=>lg sJ n b
 | .loop b=>lg sJ n b
 | .scope b=>lg sJ n b
 |_=>true
theorem aeG {n m:Nat} {ops:List Oper} (h:ak4 n ops=true) (hm:n<=m): ∀o∈ops,∀d,o.dst=some d->d<m:=by
 intro o ho d V;unfold ak4 at h
 grind
def zy:Ex->Exit
 | .normal=> .normal
 | .exit id=> .exit id
 | .ret=> .ret
def ali [bS] (E:En) (s:St) (a:Act) (w:World) (e:Ex) (s':St) (x:Exit) (a':Act) (w':World):Prop:=x=zy e/\oo E s a w s' a' w'
theorem oo.comp [bS] {E E1:En} {s s1 s2:St} {a a1 a2:Act} {w w1 w2:World} (d1:a1.defers=a.defers) (z1:a1.tmps.size=a.tmps.size) (FW:fP E s.h w E1 s1.h w1) (Z:oo E1 s1 a1 w1 s2 a2 w2):oo E s a w s2 a2 w2:=by obtain⟨d2,z2,E2,Ir,f2⟩:=Z;exact⟨d2.trans d1,z2.trans z1,E2,FW.trans Ir,f2⟩
def ac5 [bS] (P:Program) (c:Code) (n:Nat) (f:St->T (Ex×St)):Prop:=
 ∀(E:En) (s s':St) (e:Ex) (a:Act) (w:World),n<=a.tmps.size->Fit E s a w->(f s).leaf E.ρ=some (e,s')->c.wp P (ali E s a w e s') a w
theorem Hn {ρ:Nat->Int} {f:St->T (Ex×St)}: ∀(k:Nat) {s s':St} {e:Ex},(xp f k s).leaf ρ=some (e,s')->e≠.normal
 |0,s,s',e,h=>by simp [xp,T.leaf] at h
 |k+1,s,s',e,h=>by
  simp only [xp] at h;obtain⟨⟨e1,s1⟩,U,Z⟩:=T.fV h
  cases e1 with
  |normal=>exact Hn k Z
  |exit id=>have:=bC Z; simp only [ak] at this; rw [<- this.1]; simp
  |ret=>have:=bC Z; simp only [ak] at this; rw [<- this.1]; simp
theorem Ke [bS] {c:Code} {n:Nat} {f:St->T (Ex×St)} (hf:ac5 P c n f): ∀(k:Nat) {E:En} {s s':St} {e:Ex} {a:Act} {w:World},n<=a.tmps.size->Fit E s a w->(xp f k s).leaf E.ρ=some (e,s')->
 ∀(Q:Exit->Act->World->Prop),(∀a' w',oo E s a w s' a' w'->Q (zy e) a' w')->e≠.normal/\Code.rounds P c Q k a w
 |0,E,s,s',e,a,w,_,_,h,_,_=>by simp [xp,T.leaf] at h
 |k+1,E,s,s',e,a,w,hn,fit,h,Q,hq=>by
  simp only [xp] at h;obtain⟨⟨e1,s1⟩,U,Z⟩:=T.fV h;have hw:=hf E s s1 e1 a w hn fit U;rw [rounds_succ]
  cases e1 with
  |normal=>
   simp only at Z;constructor
   ·exact Hn k Z
   ·refine wp_mono hw fun x a1 w1 ⟨Y,ht⟩=>?_;subst Y;obtain⟨d1,z1,E1,FW,f1⟩:=ht;exact (Ke hf k (by rw [z1]; exact hn) f1 (by rw [FW.ρ]; exact Z) Q fun a' w' ht'=>hq a' w' (ht'.comp d1 z1 FW)).2
  |exit id=> have:=bC Z;simp only [ak] at this;obtain⟨rfl,rfl⟩:=this;refine⟨ad,wp_mono hw fun x a1 w1 ⟨Y,ht⟩=>?_⟩;subst Y;exact hq a1 w1 ht
  |ret=> have:=bC Z;simp only [ak] at this;obtain⟨rfl,rfl⟩:=this;refine⟨ad,wp_mono hw fun x a1 w1 ⟨Y,ht⟩=>?_⟩;subst Y;exact hq a1 w1 ht
theorem lT [bS] {tt:TT} (db:fj P tt) {call:eP} (hc:jh P call) {draw:Nat->List Oper->St->T St} {sJ:Nat->List Oper->Bool} (C4:xK P sJ draw) {lf n:Nat}: ∀(c:Code),lg sJ n c=true->ac5 P c n (jV tt call draw lf c)
 | .skip,_,E,s,s',e,a,w,_,fit,h=>by have:=bC h;simp only [ak] at this;obtain⟨rfl,rfl⟩:=this;exact wp_skip ⟨rfl,oo.refl fit⟩
 | .region id ops d,om,E,s,s',e,a,w,hn,fit,h=>by
   simp only [jV] at h;simp only [lg,an] at om;have V:=aeG om.1 hn;cases d
   ·simp only [aQ,if_false] at h;obtain⟨s1,U,Z⟩:=T.fV h;have:=bC Z;simp only [ak] at this;obtain⟨rfl,rfl⟩:=this;refine wp_region ?_;have:=Hm (Q:=ali E s a w .normal s1) db hc ops.toList 0 ad V fit U (fun a' w' ht=> ⟨rfl,ht⟩);rw [List.range_eq_range']
    grind
   ·simp only [if_true] at h;obtain⟨s1,U,Z⟩:=T.fV h;have:=bC Z;simp only [ak] at this;obtain⟨rfl,rfl⟩:=this;exact C4 id ops (by simpa using om.2) E s s1 a w _ V fit U (fun a' w' ht=> ⟨rfl,ht⟩)
 | .seq x y,om,E,s,s',e,a,w,hn,fit,h=>by
   simp only [lg,an] at om;simp only [jV] at h;obtain⟨⟨e1,s1⟩,U,Z⟩:=T.fV h;refine wp_seq (wp_mono (lT db hc C4 x om.1 E s s1 e1 a w hn fit U) fun q a1 w1 ⟨Y,ht⟩=>?_);subst Y
   cases e1 with
   |normal=> simp only at Z;obtain⟨d1,z1,E1,FW,f1⟩:=ht;refine wp_mono (lT db hc C4 y om.2 E1 s1 s' e a1 w1 (by rw [z1]; exact hn) f1 (by rw [FW.ρ]; exact Z)) fun q a2 w2 ⟨Y,ht'⟩=>?_;exact⟨Y,ht'.comp d1 z1 FW⟩
   |exit id=> have:=bC Z;simp only [ak] at this;obtain⟨rfl,rfl⟩:=this;exact⟨rfl,ht⟩
   |ret=> have:=bC Z;simp only [ak] at this;obtain⟨rfl,rfl⟩:=this;exact⟨rfl,ht⟩
 | .cond c x y,om,E,s,s',e,a,w,hn,fit,h=>by
   simp only [lg,an] at om;simp only [jV] at h;split at h
   ·rename_i cb hcb;have hv:=iO fit.sr hcb;simp only [VR] at hv;obtain⟨fU,gQ,U⟩:=du fit.pc h;have XS:Fit E { s with pc:=fU } a w:=⟨fit.rel,fit.sr,gQ⟩;refine wp_cond hv ?_;cases P8:cb.den E.ρ<;>rw [P8] at U
    ·simp only [aQ,if_false] at U ⊢;exact wp_mono (lT db hc C4 y om.2 E _ s' e a w hn XS U) fun q a2 w2 ⟨Y,ht⟩=> ⟨Y,ht.defers,ht.size,ht.step⟩
    ·simp only [if_true] at U ⊢;exact wp_mono (lT db hc C4 x om.1 E _ s' e a w hn XS U) fun q a2 w2 ⟨Y,ht⟩=> ⟨Y,ht.defers,ht.size,ht.step⟩
   ·simp [T.leaf] at h
 | .block id b,om,E,s,s',e,a,w,hn,fit,h=>by
   simp only [lg] at om;simp only [jV] at h;obtain⟨⟨e1,s1⟩,U,Z⟩:=T.fV h;refine wp_block (wp_mono (lT db hc C4 b om E s s1 e1 a w hn fit U) fun q a1 w1 ⟨Y,ht⟩=>?_);subst Y
   cases e1 with
   |normal=> have:=bC Z;simp only [ak] at this;obtain⟨rfl,rfl⟩:=this;exact⟨rfl,ht⟩
   |exit j=>
    have:=bC Z;simp only [ak] at this;obtain⟨rfl,rfl⟩:=this;simp only [zy,Exit.inBlock];by_cases hj:j=id
    ·rw [ag hj,ag hj]; exact⟨rfl,ht⟩
    ·rw [af hj,af hj]; exact⟨rfl,ht⟩
   |ret=> have:=bC Z;simp only [ak] at this;obtain⟨rfl,rfl⟩:=this;exact⟨rfl,ht⟩
 | .loop b,om,E,s,s',e,a,w,hn,fit,h=>by simp only [lg] at om;simp only [jV] at h;exact wp_loop_rounds lf (Ke (lT db hc C4 b om) lf hn fit h (ali E s a w e s') (fun a' w' ht=> ⟨rfl,ht⟩)).2
 | .exit id,_,E,s,s',e,a,w,_,fit,h=>by have:=bC h;simp only [ak] at this;obtain⟨rfl,rfl⟩:=this;exact wp_exit ⟨rfl,oo.refl fit⟩
 | .scope b,om,E,s,s',e,a,w,hn,fit,h=>by simp only [lg] at om;simp only [jV] at h;refine wp_scope_straight (wp_mono (lT db hc C4 b om E s s' e a w hn fit h) fun q a1 w1 ⟨Y,ht⟩=>?_);subst Y;cases e<;>exact⟨rfl,ht⟩
 | .label l,_,E,s,s',e,a,w,_,fit,h=>by have:=bC h;simp only [ak] at this;obtain⟨rfl,rfl⟩:=this;exact wp_label ⟨rfl,oo.refl fit⟩
 | .ret,_,E,s,s',e,a,w,_,fit,h=>by have:=bC h;simp only [ak] at this;obtain⟨rfl,rfl⟩:=this;exact wp_ret ⟨rfl,oo.refl fit⟩
 | .rangeFunc _ _ _ _,_,E,s,s',e,a,w,_,fit,h=>by simp [jV,T.leaf] at h
 | .goto _,_,E,s,s',e,a,w,_,fit,h=>by simp [jV,T.leaf] at h
 | .refuse _,_,E,s,s',e,a,w,_,fit,h=>by simp [jV,T.leaf] at h
end
section
variable {P:Program}
theorem Oz: ∀(args:List AV) (i:Nat) (t:Tr AV) (k:Nat),(cq args i t).get k=if i<=k/\k<i+args.length then args[k-i]? else t.get k
 |[],i,t,k=>by
  have: ¬(i<=k/\k<i+([]:List AV).length):=ad
  rw [af this];rfl
 |v::vs,i,t,k=>by
  simp only [cq,Oz vs (i+1),Tr.bV,aT]
  grind
theorem cL.get {E:En} {h:Array Obj}: ∀{vs:List AV} {us:List Value},cL E h vs us->∀(i:Nat) (v:AV),vs[i]?=some v->∃u,us[i]?=some u/\VR E h v u
 |[],us,hv,i,v,hi=>by simp at hi
 |x::xs,us,hv,i,v,hi=>by
  cases us with
  |nil=>simp [cL] at hv
  |cons y ys=>
   simp only [cL] at hv;obtain⟨u',iA,he,U,Z⟩:=hv;simp only [List.cons.injEq] at he;obtain⟨rfl,rfl⟩:=he
   cases i with
   |zero=>simp at hi; subst hi; exact⟨y,ad,U⟩
   |succ i=>simpa using cL.get Z i v (by simpa using hi)
theorem Ba {E:En} {h:Array Obj} {args:List AV} {vals:List Value} (hv:cL E h args vals) (n:Nat) :
 SR E h (cq args 0 .nil) { tmps:=vals.toArray++Array.replicate n undef,defers:=[] }:=by
 intro t v ht;rw [Oz] at ht;split at ht
 ·rename_i hk;obtain⟨u,U,Z⟩:=cL.get hv t v (by simpa using ht)
  grind
 ·simp [Tr.get] at ht
def wG (a:Act):ResultVar->Sem Value
 | .tmp t=>pure (a.tmps.getD t undef)
 | .cell b t=>do loadVar t (<- asAddr (a.tmps.getD b undef))
def CD (vs:List AV):AV:=match vs with |[x]=>x|vs=> .tuple vs
theorem Jk {vs:List AV} (h: ∀v,vs= [v]->False):CD vs= .tuple vs:=by
 unfold CD
 grind
theorem E5 {E:En} {h:Array Obj} {vs:List AV} {us:List Value} (g2:cL E h vs us):VR E h (CD vs) (if h:us.toArray.size=1 then us.toArray[0] else .tuple us.toArray):=by
 cases vs with
 |nil=> simp only [cL] at g2;subst g2;simp [CD,VR,cL]
 |cons x xs=>
  cases xs with
  |nil=> simp only [cL] at g2;obtain⟨u,iA,rfl,U,rfl⟩:=g2;simpa [CD] using U
  |cons x2 xs=>
   have g3:=g2;simp only [cL] at g2;obtain⟨u,iA,rfl,U,u2,us2,rfl,Z,h3⟩:=g2;have: ¬((u::u2::us2).toArray.size=1):=ad
   rw [dif_neg this];simp only [CD,VR]
   grind
theorem O7 [bS] {tt:TT} (db:fj P tt) {E:En} {s:St} {a:Act} {w:World} (fit:Fit E s a w) {r:ResultVar} {v:AV} (h:Bx tt s r=some v) :
 ∃u,(wG a r).run P w= .ok u w/\VR E w.heap v u:=by
 cases r with
 |tmp t=> simp only [Bx] at h;obtain⟨u,U,Z⟩:=fit.sr t v h;exact⟨u,by simp [wG,U,ar5],Z⟩
 |cell b t=>
  simp only [Bx] at h;split at h
  ·rename_i p hp;obtain⟨u,U,Z⟩:=fit.sr b p hp;obtain⟨x,bb,o,rfl,h3,h4⟩:=Da db fit.rel Z h;exact⟨x,by simp [wG,U,ar5,asAddr,h3],h4⟩
  grind
theorem va [bS] {tt:TT} (db:fj P tt) {E:En} {s:St} {a:Act} {w:World} (fit:Fit E s a w): ∀{rs:List ResultVar} {vs:List AV},lS tt s rs=some vs->
 ∃us,(rs.mapM (wG a)).run P w= .ok us w/\cL E w.heap vs us
 |[],vs,h=>by simp [lS] at h;subst h;exact⟨[],ad,by simp [cL]⟩
 |r::rs,vs,h=>by
  simp only [lS] at h;split at h
  ·grind
  ·rename_i v hv;split at h
   ·grind
   ·rename_i PW P4;simp at h;subst h;obtain⟨u,U,Z⟩:=O7 db fit hv;obtain⟨us,h3,h4⟩:=va db fit P4;refine⟨u::us,?_,by simp only [cL]; exact⟨u,us,rfl,Z,h4⟩⟩;rw [asq];simp [Sem.run_bind,U,h3]
def Yy (P:Program) (sJ:Nat->Nat->List Oper->Bool) (ft:Nat->Option Func):Prop:= ∀g fn,ft g=some fn->P.funcs[g]?=some fn/\(fn.name == "runtime.NumGoroutine")=false/\∀c,fn.body=some c->lg (sJ g) fn.ntmps c=true
theorem BB [bS] {tt:TT} (db:fj P tt) {sJ:Nat->Nat->List Oper->Bool} {ft:Nat->Option Func} (hft:Yy P sJ ft) {hook:Nat->Option (List AV->St->T (AV×St))} (hh: ∀g h,hook g=some h->lr P g h)
 {draw:eP->Nat->Nat->List Oper->St->T St} (C4: ∀call,jh P call->∀g,xK P (sJ g) (draw call g)) (lf:Nat): ∀(n:Nat),jh P (Me tt ft hook draw lf n)
 |0=>by intro g args s E w vals v s' _ _ _ h;simp [Me,T.leaf] at h
 |n+1=>by
  have ih:=BB db hft hh C4 lf n;intro g args s E w vals v s' r hv hp h;simp only [Me] at h;split at h
  ·rename_i f hf;exact hh g f hf args s E w vals v s' r hv hp h
  ·split at h
   ·simp [T.leaf] at h
   ·rename_i fn vV;obtain⟨hf,my,om⟩:=hft g fn vV;split at h
    ·simp [T.leaf] at h
    ·rename_i c hb;obtain⟨⟨e,s1⟩,U,Z⟩:=T.fV h
     have fit:Fit E { s with bH:=cq args 0 .nil } { tmps:=vals.toArray++Array.replicate (fn.ntmps-vals.toArray.size) undef,defers:=[] } w:=
      ⟨r,Ba hv _,hp⟩
     have hwp:=lT db ih (C4 _ ih g) (lf:=lf) c (om c hb) E _ s1 e _ w (by simp; omega) fit U
     have aqb: ∃vs,lS tt s1 fn.results.toList=some vs/\(e= .normal\/e= .ret)/\s'= { s1 with bH:=s.bH }/\v=CD vs:=by
      cases e with
      |exit id=>simp [T.leaf] at Z
      |normal=>
       simp only at Z;split at Z
       ·rename_i x Y;have:=bC Z;simp only [ak] at this;exact⟨_,Y,.inl rfl,this.2.symm,this.1.symm⟩
       ·rename_i vs hn Y;have:=bC Z;simp only [ak] at this;refine⟨_,Y,.inl rfl,this.2.symm,?_⟩;rw [<- this.1];exact (Jk hn).symm
       ·simp [T.leaf] at Z
      |ret=>
       simp only at Z;split at Z
       ·rename_i x Y;have:=bC Z;simp only [ak] at this;exact⟨_,Y,.inr rfl,this.2.symm,this.1.symm⟩
       ·rename_i vs hn Y;have:=bC Z;simp only [ak] at this;refine⟨_,Y,.inr rfl,this.2.symm,?_⟩;rw [<- this.1];exact (Jk hn).symm
       ·simp [T.leaf] at Z
     obtain⟨vs,hr,he,rfl,rfl⟩:=aqb
     have hpc:cD E.ρ s1.pc:=by
      obtain⟨_,_,_,⟨_,ht⟩,_⟩:=hwp default [] [];obtain⟨E1,FW,f1⟩:=ht.step;have:=f1.pc;rw [FW.ρ] at this
      grind
     refine⟨rfl,hpc,?_⟩
     have aqy:Calls P g vals.toArray w fun e w''=> ∃u,e= .returned u/\PU E s w (CD vs) { s1 with bH:=s.bH } u w'':=by
      refine calls_of_wp hf hb (wp_mono hwp fun x a1 w1 ⟨Y,ht⟩=>?_);subst Y;obtain⟨d1,z1,E1,FW,f1⟩:=ht;obtain⟨us,g1,g2⟩:=va db f1 hr
      have: ∃u,(results fn a1.tmps).run P w1= .ok u w1/\VR E1 w1.heap (CD vs) u:=by
       refine⟨if h:us.toArray.size=1 then us.toArray[0] else .tuple us.toArray,?_,?_⟩
       ·have hm:(fn.results.mapM (wG a1)).run P w1= .ok us.toArray w1:=by
         rw [atn];rw [map_eq_pure_bind];simp only [Sem.run_bind,g1];rfl
        have tQ:results fn a1.tmps=(do let vs <- fn.results.mapM (wG a1); pure (if h:vs.size=1 then vs[0] else .tuple vs)):=rfl;rw [tQ];simp only [Sem.run_bind,hm];rfl
       ·exact E5 g2
      obtain⟨u,g3,g4⟩:=this;rcases he with rfl|rfl
      ·exact⟨d1,u,g3,u,rfl,E1,FW,f1.rel,g4⟩
      ·exact⟨d1,u,g3,u,rfl,E1,FW,f1.rel,g4⟩
     have mR:(callFunc g vals.toArray).run P w= .ok (.enter g vals.toArray) w:=by unfold callFunc;simp [hf,hb,by simpa using my]
     unfold mJ p8
     grind
end
def Tr.over {α:Type}:Tr α->Tr α->Tr α
 | .nil,b=>b
 | .node v l r,b=> .node (match v with |some x=>some x|none=>b.val) (Tr.over l b.left) (Tr.over r b.right)
def Tr.minus {α:Type}:Tr α->Tr α->Tr α
 | .nil,b=>b
 | .node v l r,b=> .node (match v with |some _=>none|none=>b.val) (Tr.minus l b.left) (Tr.minus r b.right)
theorem Tr.G9 {α:Type}: ∀(a b:Tr α) (k:Nat),(Tr.over a b).get k=match a.get k with |some x=>some x|none=>b.get k
 | .nil,b,k=>by simp [Tr.over,Tr.get]
 | .node v l r,b,k=>by
   simp only [Tr.over];rw [Tr.pS,Tr.pS,Tr.ym b k];by_cases h0:k=0
   ·grind
   ·simp only [af h0];by_cases U:(k-1) % 2=0
    ·simp only [ag U]; exact Tr.G9 l b.left _
    ·simp only [af U]; exact Tr.G9 r b.right _
theorem Tr.C8 {α:Type}: ∀(a b:Tr α) (k:Nat),(Tr.minus a b).get k=match a.get k with |some _=>none|none=>b.get k
 | .nil,b,k=>by simp [Tr.minus,Tr.get]
 | .node v l r,b,k=>by
   simp only [Tr.minus];rw [Tr.pS,Tr.pS,Tr.ym b k];by_cases h0:k=0
   ·grind
   ·simp only [af h0];by_cases U:(k-1) % 2=0
    ·simp only [ag U]; exact Tr.C8 l b.left _
    ·simp only [af U]; exact Tr.C8 r b.right _
structure Wv (E:En) (H:Hp) (w:World) (E':En) (H':Hp) (w':World):Prop where
 ρ:E'.ρ=E.ρ
 dm: ∀id,E.dm id->E'.dm id
 θ: ∀id,E.dm id->E'.θ id=E.θ id
 κ: ∀id,E.dm id->E'.κ id=E.κ id
 ro: ∀b,E.ro b->E'.ro b
 DJ: ∀b,E'.ro b->E.ro b\/(∃id o,H.get id=some o/\(E.θ id).1=b)\/w.heap.size<=b
 os:w'.os=w.os
 tape:w'.tape=w.tape
 output:w'.output=w.output
 size:w.heap.size<=w'.heap.size
 dv: ∀b,b<w.heap.size->(∀id o,H.get id=some o->(E.θ id).1≠b)->w'.heap[b]?=w.heap[b]?
 own: ∀id o,H'.get id=some o->(E'.θ id).1<w.heap.size->∃yV o0,H.get yV=some o0/\(E.θ yV).1=(E'.θ id).1
section
variable {E E' E'':En} {H H' H'':Hp} {w w' w'':World}
theorem fP.apg (s:fP E H w E' H' w'):Wv E H w E' H' w':=⟨s.ρ,s.dm,s.θ,s.κ,s.ro,s.DJ,s.os,s.tape,s.output,s.size,s.dv,s.own⟩
theorem Wv.u! (s:Wv E H w E' H' w') (U:H.next<=H'.next) (Z:H'.res=none) (h3: ∀id,E'.dm id->E.dm id\/(H.next<=id/\id<H'.next)):fP E H w E' H' w':=
 ⟨s.ρ,s.dm,s.θ,s.κ,s.ro,s.DJ,U,.inl Z,fun id h=>(h3 id h).elim .inl fun h=> .inr (.inl h),s.os,s.tape,s.output,s.size,s.dv,s.own⟩
theorem Wv.trans (a:Wv E H w E' H' w') (b:Wv E' H' w' E'' H'' w''):Wv E H w E'' H'' w'' where
 ρ:=b.ρ.trans a.ρ
 dm:=fun id h=>b.dm id (a.dm id h)
 θ:=fun id h=>(b.θ id (a.dm id h)).trans (a.θ id h)
 κ:=fun id h=>(b.κ id (a.dm id h)).trans (a.κ id h)
 ro:=fun x h=>b.ro x (a.ro x h)
 DJ:=fun x h=>by
  rcases b.DJ x h with h|⟨id,o,U,Z⟩|h
  ·exact a.DJ x h
  ·rcases aZ x w.heap.size with Y|Y
   ·obtain⟨yV,o0,h3,h4⟩:=a.own id o U (by rw [Z]; exact Y);exact .inr (.inl ⟨yV,o0,h3,h4.trans Z⟩)
   ·exact .inr (.inr Y)
  ·exact .inr (.inr (bq a.size h))
 os:=b.os.trans a.os
 tape:=b.tape.trans a.tape
 output:=b.output.trans a.output
 size:=bq a.size b.size
 dv:=fun x Y hn=>by rw [b.dv x (arV Y a.size) ?_,a.dv x Y hn];intro id o ho he;obtain⟨yV,o0,h0,X!⟩:=a.own id o ho (by rw [he]; exact Y);exact hn yV o0 h0 (X!.trans he)
 own:=fun id o ho gy=>by obtain⟨id1,o1,U,Ss⟩:=b.own id o ho (arV gy a.size);obtain⟨yV,o0,h0,X!⟩:=a.own id1 o1 U (by rw [Ss]; exact gy);exact⟨yV,o0,h0,X!.trans Ss⟩
theorem Wv.keeps [bS] (s:Wv E H w E' H' w') (r:ca E H w):lj E w.heap E' w'.heap:=
 ⟨s.ρ,s.dm,s.θ,s.κ,s.ro,fun b hb=>s.dv b (r.wE b hb) fun id o ho he=>(r.live id o ho).2.2 (by rw [he]; exact hb)⟩
theorem ca.part [bS] {H1:Hp} (r:ca E H w) (sub: ∀id o,H1.get id=some o->H.get id=some o) (hn:H.next<=H1.next) (hr: ∀q,H1.res=some q->q<H1.next/\¬E.dm q):ca E H1 w:=
 ⟨fun id h=>r.fresh id (bq hn h),hr,fun id o h=>r.live id o (sub id o h),fun i j o o' h h' e=>r.inj i j o o' (sub _ _ h) (sub _ _ h') e,r.wE,r.mE⟩
theorem aaj [bS] {H1 T9:Hp} (r:ca E H w) (sub: ∀id o,H1.get id=some o->H.get id=some o) (st:fP E H1 w E' T9 w') (r':ca E' T9 w') (n:Nat) (hn: ∀id,n<=id->¬E'.dm id) :
 ∃H':Hp,H'=⟨Tr.over T9.m (Tr.minus H1.m H.m),n,none⟩/\(∀id o,T9.get id=some o->H'.get id=some o)/\(∀id o,H.get id=some o->H1.get id=none->H'.get id=some o)/\ca E' H' w'/\Wv E H w E' H' w':=by
 have anT: ∀id o,H.get id=some o->H1.get id=none->T9.get id=none:=by
  intro id o h U
  cases Z:T9.get id with
  |none=>rfl
  |some o'=>
   exfalso;have V:=(r.live id o h).1;have hθ:=st.θ id V;obtain⟨yV,o0,g1,g2⟩:=st.own id o' Z (by rw [hθ]; exact iH r h);have:=r.inj yV id o0 o (sub _ _ g1) h (by rw [g2,hθ])
   grind
 have yH: ∀id,(⟨Tr.over T9.m (Tr.minus H1.m H.m),n,none⟩ : Hp).get id=match T9.get id with |some x=>some x|none=>match H1.get id with |some _=>none|none=>H.get id:=by
  intro id;simp only [Hp.get,Tr.G9,Tr.C8]
  grind
 have y0: ∀id o,(⟨Tr.over T9.m (Tr.minus H1.m H.m),n,none⟩ : Hp).get id=some o->T9.get id=some o\/(T9.get id=none/\H1.get id=none/\H.get id=some o):=by
  intro id o h
  grind
 have vB: ∀id o,H1.get id=none->H.get id=some o->w'.heap[(E.θ id).1]?=w.heap[(E.θ id).1]?:=by
  intro id o U h;refine st.dv _ (iH r h) fun yV o0 h0 he=>?_;have:=r.inj yV id o0 o (sub _ _ h0) h he
  grind
 have k:lj E w.heap E' w'.heap:=⟨st.ρ,st.dm,st.θ,st.κ,st.ro,fun b hb=>st.dv b (r.wE b hb) fun id o ho he=>(r.live id o (sub _ _ ho)).2.2 (by rw [he]; exact hb)⟩;refine⟨_,rfl,fun id o h=>by rw [yH,h],fun id o h U=>by rw [yH,anT id o h U,U]; exact h,⟨hn,ad,?_,?_,r'.wE,r'.mE⟩,⟨st.ρ,st.dm,st.θ,st.κ,st.ro,fun b hb=>(st.DJ b hb).imp id (Or.imp (fun⟨i,o,U,Z⟩=> ⟨i,o,sub _ _ U,Z⟩) id),st.os,st.tape,st.output,st.size,?_,?_⟩⟩
 ·intro id o h;rcases y0 id o h with U|⟨U,Z,h3⟩
  ·exact r'.live id o U
  ·obtain⟨g1,g2,g3⟩:=r.live id o h3;refine⟨st.dm id g1,g2.dv k g1 (vB id o Z h3),?_⟩;rw [st.θ id g1];intro hr;rcases st.DJ _ hr with hr|⟨yV,o0,f1,f2⟩|hr
   ·grind
   ·have:=r.inj yV id o0 o (sub _ _ f1) h3 f2
    grind
   grind [iH]
 ·intro i j o o' h h' he;rcases y0 i o h with U|⟨U,Z,h3⟩ <;>rcases y0 j o' h' with g1|⟨g1,g2,g3⟩
  ·exact r'.inj i j o o' U g1 he
  ·exfalso;rw [st.θ j (r.live j o' g3).1] at he;obtain⟨yV,o0,f1,f2⟩:=st.own i o U (by rw [he]; exact iH r g3);have:=r.inj yV j o0 o' (sub _ _ f1) g3 (f2.trans he)
   grind
  ·exfalso;rw [st.θ i (r.live i o h3).1] at he;obtain⟨yV,o0,f1,f2⟩:=st.own j o' g1 (by rw [<- he]; exact iH r h3);have:=r.inj yV i o0 o (sub _ _ f1) h3 (f2.trans he.symm)
   grind
  ·rw [st.θ i (r.live i o h3).1,st.θ j (r.live j o' g3).1] at he;exact r.inj i j o o' h3 g3 he
 ·intro b hb vR;exact st.dv b hb fun id o h=>vR id o (sub _ _ h)
 ·intro id o h gy;rcases y0 id o h with U|⟨U,Z,h3⟩
  ·obtain⟨yV,o0,f1,f2⟩:=st.own id o U gy
   grind
  ·exact⟨id,o,h3,by rw [st.θ id (r.live id o h3).1]⟩
theorem frame [bS] {H1 T9:Hp} (r:ca E H w) (sub: ∀id o,H1.get id=some o->H.get id=some o) (st:fP E H1 w E' T9 w') (r':ca E' T9 w') (n:Nat) (hn: ∀id,n<=id->¬E'.dm id) :
 ∃H':Hp,H'.next=n/\H'.res=none/\(∀id o,T9.get id=some o->H'.get id=some o)/\(∀id o,H.get id=some o->H1.get id=none->H'.get id=some o)/\ca E' H' w'/\Wv E H w E' H' w':=by
 obtain⟨H',h0,U,Z,h3,h4⟩:=aaj r sub st r' n hn
 grind
end
section
variable {P:Program}
def Ii [bS] (P:Program) (ρ:Nat->Int) (ops:Array Oper) (o:Oper) (S:Tr AV) (H:Hp) (v:AV) (H':Hp):Prop:=
 ∀(E:En) (a:Act) (w:World),E.ρ=ρ->ca E H w->SR E w.heap S a->
  (Region.wanted o (yielded ops a.tmps)=false/\v=AV.undef/\H'=H)\/
  (Region.wanted o (yielded ops a.tmps)=true/\tg P o a w (fun u w'=> ∃E',fP E H w E' H' w'/\ca E' H' w'/\VR E' w'.heap v u))
theorem Ii.wpOp [bS] {ρ:Nat->Int} {ops:Array Oper} {o:Oper} {S:Tr AV} {H H':Hp} {v:AV} (h:Ii P ρ ops o S H v H') {E:En} {a:Act} {w:World} (hρ:E.ρ=ρ) (r:ca E H w) (sr:SR E w.heap S a)
 {i:Nat} (ho:ops[i]?=some o) {K:Act->World->Prop} {Q:Exit->Act->World->Prop}
 (hk: ∀(u:Value) (E':En) (w':World),fP E H w E' H' w'->ca E' H' w'->VR E' w'.heap v u->K (a.put o.dst u) w'):wpOp P ops Q i K a w:=by
 unfold Go.wpOp;simp only [ho];rcases h E a w hρ r sr with ⟨U,rfl,rfl⟩|⟨U,Z⟩
 ·rw [U];simp only [aQ,if_false];exact hk undef E w (fP.refl _ _ _) r py
 ·rw [U];simp only [if_true];exact .inl (Z _ _ fun u w' ⟨E',q1,q2,q3⟩=>hk u E' w' q1 q2 q3)
inductive Kind where
 |pa
 |e
 |r
 deriving DecidableEq
structure Ib [bS] (P:Program) (ρ:Nat->Int) (ops:Array Oper) (ra:Tr AV) (H0:Hp) where
 base:Nat
 bf:Nat->Nat->Bool
 kd:Nat->Kind
 S:Nat->Tr AV
 val:Nat->AV
 st:Nat->Nat
 nE:Nat
 hp:Nat->Hp
 un:Nat->Nat->Bool
 oe:Nat->Option eL
 gen: ∀i j,bf i j=true->∃(o:Oper) (e:Edge),ops[j]?=some o/\e∈o.after/\Region.binds .any e=true/\(e.on=i\/bf i e.on=true)
 back: ∀(j:Nat) (o:Oper),ops[j]?=some o->∀e∈o.after,Region.binds .any e=true->e.on<j
 dst: ∀(i j:Nat) (oi oj:Oper) (d:Nat),ops[i]?=some oi->ops[j]?=some oj->oi.dst=some d->oj.dst=some d->i=j
 bH: ∀(i:Nat) (o:Oper),ops[i]?=some o->∀t x,(S i).get t=some x->(∃(j:Nat) (oj:Oper),bf j i=true/\ops[j]?=some oj/\oj.dst=some t/\val j=x)\/(ra.get t=some x/\∀(j:Nat) (oj:Oper),ops[j]?=some oj->oj.dst=some t->bf i j=true)
 stl: ∀(j:Nat) (o:Oper),ops[j]?=some o->kd j= .e->st j<nE
 inj: ∀i j,kd i= .e->kd j= .e->st i=st j->i=j
 amH: ∀(j:Nat) (o:Oper),ops[j]?=some o->kd j= .e->∀m,m<st j->∃i,kd i= .e/\st i=m/\bf i j=true
 pa: ∀(i:Nat) (o:Oper),ops[i]?=some o->kd i= .pa->∃HA N,Ii P ρ ops o (S i) ⟨.nil,N,some (base+i)⟩ (val i) HA/\HA.next=N/\oe i=HA.get (base+i)/\∀k,k<=nE->(hp k).next<=N
 ev: ∀(j:Nat) (o:Oper),ops[j]?=some o->kd j= .e->∃Nq,Ii P ρ ops o (S j) Nq (val j) (hp (st j+1))/\Nq.next=(hp (st j)).next/\Nq.res=none/\
  (∀id x,Nq.get id=some x->(hp (st j)).get id=some x\/∃a,bf a j=true/\un (st j) a=true/\id=base+a/\oe a=some x)/\
  (∀a,un (st j+1) a=true->un (st j) a=true/\bf a j=false)
 rd: ∀(i:Nat) (o:Oper),ops[i]?=some o->kd i= .r->∀k,k<=nE->(∀j,kd j= .e->bf j i=true->st j<k)->(∀(j:Nat) (oj:Oper),ops[j]?=some oj->kd j= .e->bf i j=true->k<=st j)->
  ∃Nq,Ii P ρ ops o (S i) Nq (val i) Nq/\Nq.next=(hp k).next/\Nq.res=none/\
   (∀id x,Nq.get id=some x->(hp k).get id=some x\/∃a,bf a i=true/\un k a=true/\id=base+a/\oe a=some x)
 unm: ∀k a x,k<=nE->oe a=some x->un k a=true->(hp k).get (base+a)=none
 nob: ∀i,kd i≠.pa->oe i=none
 first:base=H0.next/\base+ops.size<=(hp 0).next/\∀id x,(hp 0).get id=some x->H0.get id=some x
section
variable {gl:bS} {ρ:Nat->Int} {ops:Array Oper} {ra:Tr AV} {H0:Hp} (p:Ib P ρ ops ra H0)
structure Ib.Inv (E0:En) (a0:Act) (w0:World) (L:Nat->Prop) (a:Act) (w:World):Prop where
 defers:a.defers=a0.defers
 size:a.tmps.size=a0.tmps.size
 closed: ∀i j,p.bf i j=true->L j->L i
 ex: ∃(E:En) (Hc:Hp) (k:Nat),k<=p.nE/\(∀(j:Nat) (o:Oper),ops[j]?=some o->p.kd j= .e->(L j↔p.st j<k))/\E.ρ=ρ/\Wv E0 H0 w0 E Hc w/\ca E Hc w/\Hc.next=(p.hp k).next/\Hc.res=none/\
  p.base+ops.size<=Hc.next/\(∀id,E.dm id->E0.dm id\/H0.next<=id)/\(∀(i:Nat) (o:Oper),ops[i]?=some o->¬L i->¬E.dm (p.base+i))/\
  (∀id x,(p.hp k).get id=some x->Hc.get id=some x)/\(∀b x,L b->p.un k b=true->p.oe b=some x->Hc.get (p.base+b)=some x)/\
  (∀t x,ra.get t=some x->(∀(j:Nat) (oj:Oper),ops[j]?=some oj->oj.dst=some t->¬L j)->∃u,a.tmps[t]?=some u/\VR E w.heap x u)/\
  (∀(j:Nat) (oj:Oper) (t:Nat),L j->ops[j]?=some oj->oj.dst=some t->∃u,a.tmps[t]?=some u/\VR E w.heap (p.val j) u)
theorem Gd {a:Act} {d:Option Nat} {u:Value} {t:Nat} (h:d≠some t):(a.put d u).tmps[t]?=a.tmps[t]?:=by
 cases d with
 |none=>rfl
 |some x=>
  simp only [Act.put]
  grind
theorem adM {a:Act} {u:Value} {t:Nat} (h:t<a.tmps.size):(a.put (some t) u).tmps[t]?=some u:=by simp [Act.put,h]
theorem Ib.aoY: ∀(j i:Nat),p.bf i j=true->i<j/\j<ops.size:=by
 intro j
 induction j using Nat.strongRecOn with
 |_ j ih=>
  intro i h;obtain⟨o,e,g1,g2,g3,g4⟩:=p.gen i j h;have gy:=p.back j o g1 e g2 g3
  grind
theorem Ib.ahQ {i j:Nat} (h:p.bf i j=true): ∃o:Oper,ops[i]?=some o:=by have:=p.aoY j i h;exact⟨ops[i]'J,ad⟩
theorem Ib.step {E0:En} {a0:Act} {w0:World} {L:Nat->Prop} {a:Act} {w:World} (V: ∀o∈ops.toList,∀d,o.dst=some d->d<a0.tmps.size) (inv:p.Inv E0 a0 w0 L a w) {i:Nat} {o:Oper} (ho:ops[i]?=some o) (hL: ¬L i)
 (hr: ∀e∈o.after,Region.binds .any e=true->L e.on) {K:Act->World->Prop} {Q:Exit->Act->World->Prop} (hk: ∀a' w',p.Inv E0 a0 w0 (fun j=>j=i\/L j) a' w'->K a' w'):wpOp P ops Q i K a w:=by
 obtain⟨U,Z,B5,E,Hc,k,hkn,Fg,hρ,PX,rel,hnx,tQ,jG,Bf,hun,hhp,od,yX,T!⟩:=inv
 have hbf: ∀j,p.bf j i=true->L j:=by
  intro j hj;obtain⟨o',e,g1,g2,g3,g4⟩:=p.gen j i hj;rw [ho] at g1;simp at g1;subst g1;have:=hr e g2 g3;rcases g4 with rfl|g4
  ·exact this
  ·exact B5 j e.on g4 this
 have hii:p.bf i i≠true:=fun h=>hL (hbf i h);have uc:i<ops.size:=(arP.1 ho).1
 have sr:SR E w.heap (p.S i) a:=by
  intro t x ht;rcases p.bH i o ho t x ht with ⟨j,oj,g1,g2,g3,g4⟩|⟨g1,g2⟩
  ·subst g4;exact T! j oj t (hbf j g1) g2 g3
  ·exact yX t x g1 fun j oj hj hjt hLj=>hL (B5 i j (g2 j oj hj hjt) hLj)
 have LR: ∀x j,p.bf x j=true->(j=i\/L j)->(x=i\/L x):=by
  intro x j Y hj;rcases hj with rfl|hj
  ·exact .inr (hbf x Y)
  ·exact .inr (B5 x j Y hj)
 have fin: ∀(u:Value) (E':En) (QK:Hp) (w':World) (k':Nat),Wv E Hc w E' QK w'->ca E' QK w'->VR E' w'.heap (p.val i) u->k'<=p.nE->(∀(j:Nat) (o:Oper),ops[j]?=some o->p.kd j= .e->((j=i\/L j)↔p.st j<k'))->
  QK.next=(p.hp k').next->QK.res=none->Hc.next<=QK.next->(∀id,E'.dm id->E.dm id\/Hc.next<=id\/id=p.base+i)->(∀id x,(p.hp k').get id=some x->QK.get id=some x)->
  (∀b x,(b=i\/L b)->p.un k' b=true->p.oe b=some x->QK.get (p.base+b)=some x)->K (a.put o.dst u) w':=by
  intro u E' QK w' k' q1 q2 q3 q4 q5 q6 q7 q8 q9 q10 q11;have kp:=q1.keeps rel;refine hk _ _ ⟨by rw [As.put_defers]; exact U,by rw [Gc]; exact Z,LR,E',QK,k',q4,q5,q1.ρ.trans hρ,PX.trans q1,q2,q6,q7,bq jG q8,?_,?_,q10,q11,?_,?_⟩
  ·intro id h;rcases q9 id h with h|h|h
   ·exact Bf id h
   ·right;have:=p.first.1;omega
   ·right;have:=p.first.1;omega
  ·intro j oj hj hn hdj;have hj2:=(arP.1 hj).1;rcases q9 _ hdj with h|h|h
   ·exact hun j oj hj (fun h'=>hn (.inr h')) h
   ·omega
   ·exact hn (.inl J)
  ·intro t x ht vR;obtain⟨y,g1,g2⟩:=yX t x ht fun j oj hj hjt h'=>vR j oj hj hjt (.inr h');exact⟨y,by rw [Gd (fun e=>vR i o ho e (.inl rfl))]; exact g1,VR.dv kp _ _ g2⟩
  ·intro j oj t hj qS ht;by_cases hji:j=i
   ·subst hji;rw [ho] at qS;simp at qS;subst qS;rw [ht];exact⟨u,adM (by rw [Z]; exact V o (Array.mem_toList_iff.2 (as8 ho)) t ht),q3⟩
   ·obtain⟨y,g1,g2⟩:=T! j oj t (hj.resolve_left hji) qS ht;refine⟨y,?_,VR.dv kp _ _ g2⟩;rw [Gd]
    ·exact g1
    ·intro h;exact hji (p.dst j i oj o t qS ho ht h)
 cases pg:p.kd i with
 |pa=>
  obtain⟨HA,N,g1,g2,g3,g4⟩:=p.pa i o ho pg;have hN:=g4 k hkn;have ap6:=hun i o ho hL
  have r1:ca E ⟨.nil,N,some (p.base+i)⟩ w:=rel.part (by intro id x h; simp [Hp.get,Tr.get] at h) (by show Hc.next<=N; omega) (by
   intro q hq;simp at hq;subst hq
   exact⟨by show p.base+i<N; omega,ap6⟩)
  refine g1.wpOp hρ r1 sr ho fun u E' w' st r' hv=>?_
  have hdn: ∀id,E'.dm id->E.dm id\/id=p.base+i:=by
   intro id h;rcases st.dmn id h with h|h|h
   ·exact .inl h
   ·have h':N<=id/\id<HA.next:=h;omega
   ·have h':some (p.base+i)=some id:=h;simp at h';exact .inr h'.symm
  obtain⟨QK,f1,f2,f3,f4,f5,f6⟩:=frame rel (by intro id x h; simp [Hp.get,Tr.get] at h) st r' Hc.next (fun id hid h=>by
   rcases hdn id h with h|h
   ·exact rel.fresh id hid h
   ·omega)
  refine fin u E' QK w' k f6 f5 hv hkn ?_ (by rw [f1,hnx]) f2 J (fun id h=>(hdn id h).elim .inl fun h=> .inr (.inr h)) ?_ ?_
  ·intro j oj qS hj;rw [<- Fg j oj qS hj];constructor
   ·intro h;rcases h with rfl|h
    ·rw [pg] at hj; simp at hj
    ·exact h
   ·exact .inr
  ·intro id x h;exact f4 id x (hhp id x h) (by simp [Hp.get,Tr.get])
  ·intro b x hb hu Y;by_cases hbi:b=i
   ·subst hbi;rw [Y] at g3;exact f3 _ _ g3.symm
   ·exact f4 _ x (od b x (hb.resolve_left hbi) hu Y) (by simp [Hp.get,Tr.get])
 |e=>
  obtain⟨Nq,g1,g2,g3,g4,g5⟩:=p.ev i o ho pg
  have XJ:k<=p.st i:=by
   rcases aZ (p.st i) k with h|h
   ·exact absurd ((Fg i o ho pg).2 h) hL
   ·exact h
  have hsk:p.st i=k:=by
   rcases aZ k (p.st i) with h|h
   ·obtain⟨j,e1,e2,e3⟩:=p.amH i o ho pg k h;have hj:=hbf j e3;obtain⟨oj,qS⟩:=p.ahQ e3;have:=(Fg j oj qS e1).1 hj;omega
   ·omega
  rw [hsk] at g1 g2 g4 g5;have hkE:=p.stl i o ho pg
  have pG: ∀id x,Nq.get id=some x->Hc.get id=some x:=by
   intro id x h;rcases g4 id x h with h|⟨b,e1,e2,rfl,e4⟩
   ·exact hhp id x h
   ·exact od b x (hbf b e1) e2 e4
  have r1:ca E Nq w:=rel.part pG J (by rw [g3]; simp);refine g1.wpOp hρ r1 sr ho fun u E' w' st r' hv=>?_
  have hdn: ∀id,E'.dm id->E.dm id\/Hc.next<=id:=by
   intro id h;rcases st.dmn id h with h|h|h
   ·exact .inl h
   ·right; omega
   ·rw [g3] at h; simp at h
  obtain⟨QK,f1,f2,f3,f4,f5,f6⟩:=frame rel pG st r' (p.hp (k+1)).next (fun id hid h=>r'.fresh id hid h)
  have aq5:=st.nxm;refine fin u E' QK w' (k+1) f6 f5 hv J ?_ f1 f2 J (fun id h=>(hdn id h).elim .inl fun h=> .inr (.inl h)) f3 ?_
  ·intro j oj qS hj;constructor
   ·intro h;rcases h with rfl|h
    ·omega
    ·have:=(Fg j oj qS hj).1 h;omega
   ·intro h;rcases aZ (p.st j) k with h'|h'
    ·exact .inr ((Fg j oj qS hj).2 h')
    ·exact .inl (p.inj j i hj pg J)
  ·intro b x hb hu Y;obtain⟨e1,e2⟩:=g5 b hu;by_cases hbi:b=i
   ·subst hbi;rw [p.nob b (by rw [pg]; simp)] at Y;simp at Y
   ·refine f4 _ x (od b x (hb.resolve_left hbi) e1 Y) ?_
    cases hy:Nq.get (p.base+b) with
    |none=>rfl
    |some y=>
     exfalso;rcases g4 _ y hy with h|⟨c,c1,c2,c3,c4⟩
     ·rw [p.unm k b x hkn Y e1] at h;simp at h
     ·have:c=b:=J
      subst this;rw [e2] at c1;simp at c1
 |r=>
  have hk1: ∀j,p.kd j= .e->p.bf j i=true->p.st j<k:=by intro j hj hb;obtain⟨oj,qS⟩:=p.ahQ hb;exact (Fg j oj qS hj).1 (hbf j hb)
  have D7: ∀(j:Nat) (oj:Oper),ops[j]?=some oj->p.kd j= .e->p.bf i j=true->k<=p.st j:=by
   intro j oj qS hj hb;rcases aZ (p.st j) k with h|h
   ·exact absurd (B5 i j hb ((Fg j oj qS hj).2 h)) hL
   ·exact h
  obtain⟨Nq,g1,g2,g3,g4⟩:=p.rd i o ho pg k hkn hk1 D7
  have pG: ∀id x,Nq.get id=some x->Hc.get id=some x:=by
   intro id x h;rcases g4 id x h with h|⟨b,e1,e2,rfl,e4⟩
   ·exact hhp id x h
   ·exact od b x (hbf b e1) e2 e4
  have r1:ca E Nq w:=rel.part pG J (by rw [g3]; simp);refine g1.wpOp hρ r1 sr ho fun u E' w' st r' hv=>?_
  have hdn: ∀id,E'.dm id->E.dm id:=by
   intro id h;rcases st.dmn id h with h|h|h
   ·exact h
   ·omega
   ·rw [g3] at h; simp at h
  obtain⟨QK,f1,f2,f3,f4,f5,f6⟩:=frame rel pG st r' Hc.next (fun id hid h=>rel.fresh id hid (hdn id h))
  have G6: ∀id x,Hc.get id=some x->QK.get id=some x:=by
   intro id x h
   cases h':Nq.get id with
   |none=>exact f4 id x h h'
   |some y=> have:=pG id y h';rw [h] at this;simp at this;subst this;exact f3 id x h'
  refine fin u E' QK w' k f6 f5 hv hkn ?_ (by rw [f1,hnx]) f2 J (fun id h=> .inl (hdn id h)) (fun id x h=>G6 id x (hhp id x h)) ?_
  ·intro j oj qS hj;rw [<- Fg j oj qS hj];constructor
   ·intro h;rcases h with rfl|h
    ·rw [pg] at hj; simp at hj
    ·exact h
   ·exact .inr
  ·intro b x hb hu Y;by_cases hbi:b=i
   ·subst hbi;rw [p.nob b (by rw [pg]; simp)] at Y;simp at Y
   ·exact G6 _ x (od b x (hb.resolve_left hbi) hu Y)
def left (l:Nat->Bool):Nat->Nat
 |0=>0
 |n+1=>left l n+(if l n then 0 else 1)
theorem U5 {l l':Nat->Bool} (h: ∀j,l j=true->l' j=true): ∀n,left l' n<=left l n
 |0=>ax _
 |n+1=>by
  have:=U5 h n;simp only [left]
  grind
theorem U4 {l l':Nat->Bool} (h: ∀j,l j=true->l' j=true) {i:Nat} (U:l i=false) (Z:l' i=true): ∀n,i<n->left l' n<left l n
 |0,hi=>by omega
 |n+1,hi=>by
  have hle:=U5 h n;simp only [left];by_cases uc:i=n
  ·grind
  ·have:=U4 h U Z n J
   grind
theorem CX {l:Nat->Bool}: ∀n,left l n=0->∀i,i<n->l i=true
 |0,_,i,hi=>by omega
 |n+1,h,i,hi=>by
  simp only [left] at h;by_cases uc:i=n
  ·grind
  ·exact CX n J i J
theorem Ib.W7 (q:Ib P ρ ops ra H0) {listed:Array Bool} (iY:listed.size=ops.size) (h:Region.ready .any ops listed= []): ∀i,i<ops.size->listed[i]?=some true:=by
 intro i
 induction i using Nat.strongRecOn with
 |_ i ih=>
  intro hi
  cases hl:listed[i]? with
  |none=>rw [ato] at hl; omega
  |some b=>
   cases b with
   |true=>rfl
   |false=>
    exfalso;have ho:ops[i]?=some ops[i]:=by simp [hi]
    have:i∈Region.ready .any ops listed:=by rw [mem_ready];refine⟨by simp [hl],ops[i],ho,fun e he hb=>?_⟩;have gy:=q.back i _ ho e he hb;simp [ih e.on gy J]
    grind
theorem Ib.any {E0:En} {a0:Act} {w0:World} (V: ∀o∈ops.toList,∀d,o.dst=some d->d<a0.tmps.size) {Q:Exit->Act->World->Prop} (hq: ∀a w,p.Inv E0 a0 w0 (fun i=>i<ops.size) a w->Q .normal a w) :
 ∀(fuel:Nat) (listed:Array Bool) (a:Act) (w:World),listed.size=ops.size->left (fun i=>listed.getD i true) ops.size<=fuel->p.Inv E0 a0 w0 (fun i=>listed[i]?=some true) a w->wpAny P .any ops Q fuel listed a w:=by
 have X': ∀(listed:Array Bool) (a:Act) (w:World),listed.size=ops.size->p.Inv E0 a0 w0 (fun i=>listed[i]?=some true) a w->Region.ready .any ops listed= []->Q .normal a w:=by
  intro listed a w iY inv pJ;have G6:=p.W7 iY pJ;refine hq a w ?_
  have:(fun i=>listed[i]?=some true)=(fun i=>i<ops.size):=by
   grind
  grind
 intro fuel
 induction fuel with
 |zero=>
  intro listed a w iY Vy inv;have G6:=CX (l:=fun i=>listed.getD i true) ops.size J
  have pJ:Region.ready .any ops listed= []:=by
   rw [asN];intro i hi;rw [mem_ready] at hi
   grind
  exact⟨pJ,X' listed a w iY inv pJ⟩
 |succ fuel ih=>
  intro listed a w iY Vy inv;refine⟨X' listed a w iY inv,fun i hi=>?_⟩;rw [mem_ready] at hi;obtain⟨U,o,Z,h3⟩:=hi;have uc:=(arP.1 Z).1
  have uQ:listed[i]?=some false:=by simp_all
  refine p.step V inv Z (by rw [uQ]; simp) (fun e he hb=>?_) fun a' w' aq9=>?_
  ·have:=h3 e he hb
   cases hc:listed[e.on]? with
   |none=>simp [hc] at this
   |some b=>simp [hc] at this; rw [this]
  ·refine ih _ a' w' (by simpa using iY) ?_ ?_
   ·have:=U4 (l:=fun j=>listed.getD j true) (l':=fun j=>(listed.setIfInBounds i true).getD j true) (i:=i) (fun j hj=>?_) U ?_ ops.size uc
    ·omega
    ·by_cases hij:i=j
     all_goals simp_all
    simp_all
   grind
theorem Ib.start {E0:En} {s0:St} {a0:Act} {w0:World} (hs:s0.bH=ra) (hh:s0.h=H0) (hρ:E0.ρ=ρ) (fit:Fit E0 s0 a0 w0) (listed:Array Bool) (hl: ∀(i:Nat),listed[i]?≠some true):p.Inv E0 a0 w0 (fun i=>listed[i]?=some true) a0 w0:=by
 subst hs hh;obtain⟨U,Z,h3⟩:=p.first;have rel:=fit.rel;have r1:ca E0 ⟨s0.h.m,(p.hp 0).next,none⟩ w0:=rel.part (fun id x h=>h) (by show s0.h.next<=(p.hp 0).next; omega) ad;refine⟨rfl,rfl,fun i j _ h=>absurd h (hl j),E0,⟨s0.h.m,(p.hp 0).next,none⟩,0,arZ _,fun j o _ _=> ⟨fun h=>absurd h (hl j),fun h=>by omega⟩,hρ,?_,r1,rfl,rfl,Z,fun id h=> .inl h,?_,fun id x h=>h3 id x h,fun b x h=>absurd h (hl b),?_,fun j oj t h=>absurd h (hl j)⟩
 ·have:=(fP.refl E0 s0.h w0).apg;exact⟨this.ρ,this.dm,this.θ,this.κ,this.ro,this.DJ,this.os,this.tape,this.output,this.size,this.dv,this.own⟩
 ·intro i o _ _ Bf;exact rel.fresh _ J Bf
 ·intro t x ht _;exact fit.sr t x ht
theorem Ib.finish {E0:En} {s0 s':St} {a0 a:Act} {w0 w:World} (hh:s0.h=H0) (inv:p.Inv E0 a0 w0 (fun i=>i<ops.size) a w) (hpc:cD ρ s'.pc)
 (ap9: ∀t x,s'.bH.get t=some x->(∃(j:Nat) (oj:Oper),ops[j]?=some oj/\oj.dst=some t/\p.val j=x)\/(ra.get t=some x/\∀(j:Nat) (oj:Oper),ops[j]?=some oj->oj.dst≠some t))
 (aq6: ∀id x,s'.h.get id=some x->(p.hp p.nE).get id=some x\/∃b,b<ops.size/\p.un p.nE b=true/\id=p.base+b/\p.oe b=some x)
 (agq:(p.hp p.nE).next=s'.h.next) (tQ:s'.h.res=none) (G6: ∀(m:Nat),m<p.nE->∃(j:Nat) (o:Oper),ops[j]?=some o/\p.kd j= .e/\p.st j=m):oo E0 s0 a0 w0 s' a w:=by
 subst hh;obtain⟨U,Z,B5,E,Hc,k,hkn,Fg,hρ,PX,rel,hnx,Sn,jG,Bf,hun,hhp,od,yX,T!⟩:=inv
 have hk:k=p.nE:=by
  rcases aZ k p.nE with h|h
  all_goals grind
 subst hk
 have pG: ∀id x,s'.h.get id=some x->Hc.get id=some x:=by
  intro id x h
  grind
 have hf:=p.first.1;refine⟨U,Z,E,?_,rel.part pG J (by rw [tQ]; simp),?_,by rw [hρ]; exact hpc⟩
 ·refine Wv.u! ⟨PX.ρ,PX.dm,PX.θ,PX.κ,PX.ro,PX.DJ,PX.os,PX.tape,PX.output,PX.size,PX.dv,fun id o h=>PX.own id o (pG id o h)⟩ J tQ fun id h=>?_;rcases Bf id h with g|g
  ·grind
  ·right;refine⟨g,?_⟩;rcases aZ id s'.h.next with g'|g'
   ·exact g'
   ·exact absurd h (rel.fresh id J)
 ·intro t x ht
  grind
end
end
end Go.As
end
section
namespace Go.As
noncomputable section
mutual
def fq:AV->AV->Bool
 | .bool a,.bool b=>qc a b
 | .int k a,.int l b=>decide (k=l)&&ga a b
 | .str a,.str b=>decide (a=b)
 | .ptr i o,.ptr j p=>decide (i=j)&&decide (o=p)
 | .vL,.vL=>true
 | .oF a,.oF b=>jn a b
 | .slice i o l c,.slice j p m d=>decide (i=j)&&decide (o=p)&&decide (l=m)&&decide (c=d)
 | .fA,.fA=>true
 | .ro a n f,.ro b m g=>jn a b&&decide (n=m)&&decide (f=g)
 | .map i,.map j=>decide (i=j)
 | .uF,.uF=>true
 | .func f a b,.func g c d=>decide (f=g)&&jn a c&&jn b d
 | .yD,.yD=>true
 | .iface t v,.iface u x=>decide (t=u)&&fq v x
 | .zL,.zL=>true
 | .agg a,.agg b=>jn a b
 | .tuple a,.tuple b=>jn a b
 | .N6 i,.N6 j=>decide (i=j)
 | .yU i a,.yU j b=>decide (i=j)&&decide (a=b)
 | .emp,.emp=>true
 | .fk a t,.fk b u=>ga a b&&Nat.beq t u
 | .kU a,.kU b=>ga a b
 | .rV i n t,.rV j m u=>Nat.beq i j&&ga n m&&Nat.beq t u
 | .BF i a x o,.BF j b y p=>Nat.beq i j&&Nat.beq a b&&ga x y&&Nat.beq o p
 | .vT i l n t,.vT j k m u=>Nat.beq i j&&ga l k&&ga n m&&Nat.beq t u
 | .any,.any=>true
 | .At a t,.At b u=>ga a b&&Nat.beq t u
 |_,_=>false
def jn:List AV->List AV->Bool
 |[],[]=>true
 |x::xs,y::ys=>fq x y&&jn xs ys
 |_,_=>false
end
mutual
theorem lP: ∀(x y:AV),fq x y=true->x=y
 | .bool a,y,h=>by cases y<;>simp [fq] at h<;>rw [tz _ _ h]
 | .int k a,y,h=>by cases y<;>simp [fq] at h<;>rw [h.1,dy _ _ h.2]
 | .str a,y,h=>by cases y<;>simp [fq] at h<;>simp [h]
 | .ptr i o,y,h=>by cases y<;>simp [fq] at h<;>simp [h]
 | .vL,y,h=>by cases y<;>simp [fq] at h<;>rfl
 | .oF a,y,h=>by cases y<;>simp [fq] at h; rw [gE _ _ h]
 | .slice i o l c,y,h=>by cases y<;>simp [fq] at h<;>simp [h]
 | .fA,y,h=>by cases y<;>simp [fq] at h<;>rfl
 | .ro a n f,y,h=>by cases y<;>simp [fq] at h; rw [gE _ _ h.1.1,h.1.2,h.2]
 | .map i,y,h=>by cases y<;>simp [fq] at h<;>simp [h]
 | .uF,y,h=>by cases y<;>simp [fq] at h<;>rfl
 | .func f a b,y,h=>by cases y<;>simp [fq] at h; rw [h.1.1,gE _ _ h.1.2,gE _ _ h.2]
 | .yD,y,h=>by cases y<;>simp [fq] at h<;>rfl
 | .iface t v,y,h=>by cases y<;>simp [fq] at h; rw [h.1,lP _ _ h.2]
 | .zL,y,h=>by cases y<;>simp [fq] at h<;>rfl
 | .agg a,y,h=>by cases y<;>simp [fq] at h; rw [gE _ _ h]
 | .tuple a,y,h=>by cases y<;>simp [fq] at h; rw [gE _ _ h]
 | .N6 i,y,h=>by cases y<;>simp [fq] at h<;>simp [h]
 | .yU i a,y,h=>by cases y<;>simp [fq] at h<;>simp [h]
 | .emp,y,h=>by cases y<;>simp [fq] at h<;>rfl
 | .fk a t,y,h=>by cases y<;>simp [fq] at h<;>rw [h.2,dy _ _ h.1]
 | .kU a,y,h=>by cases y<;>simp [fq] at h<;>rw [dy _ _ h]
 | .rV i n t,y,h=>by cases y<;>simp [fq] at h<;>rw [h.1.1,dy _ _ h.1.2,h.2]
 | .BF i a x o,y,h=>by cases y<;>simp [fq] at h<;>rw [h.1.1.1,h.1.1.2,dy _ _ h.1.2,h.2]
 | .vT i l n t,y,h=>by cases y<;>simp [fq] at h<;>rw [h.1.1.1,dy _ _ h.1.1.2,dy _ _ h.1.2,h.2]
 | .any,y,h=>by cases y<;>simp [fq] at h<;>rfl
 | .At a t,y,h=>by cases y<;>simp [fq] at h<;>rw [h.2,dy _ _ h.1]
theorem gE: ∀(xs ys:List AV),jn xs ys=true->xs=ys
 |[],ys,h=>by cases ys<;>simp [jn] at h; rfl
 |x::xs,ys,h=>by
  cases ys with
  |nil=>simp [jn] at h
  |cons y ys=>simp [jn] at h; rw [lP _ _ h.1,gE _ _ h.2]
end
def Gt (o:Op):List Nat:=o.operands.toList.filterMap fun
 | .tmp t=>some t
 |_=>none
def reads (all:List Oper) (o:Oper):List Nat:=match o.guard with
 |none=>Gt o.op
 |some (j,_)=>match gb all j with
  |some oj=>match oj.dst with
   |some d=>d::Gt o.op
   |none=>Gt o.op
  |none=>Gt o.op
def kindOf (tt:TT):Op->Kind
 | .load _ _=> .r
 | .lookup _ _ _ _=> .r
 | .call c=>match c.callee with
   | .builtin b=>match b with
     | .len=> .r
     | .min=> .pa
     | .max=> .pa
     |_=> .e
   |_=> .e
 | .store _ _ _=> .e
 | .insert _ _ _ _=> .e
 | .mapUpdate _ _ _ _=> .e
 | .next _ _=> .e
 | .range _ _=> .e
 | .convert t u _=>match tt t with
   |some i=>match i.kind with
    | .slice _=>match tt u with
      |some j=>match j.kind with
       | .string=> .r
       |_=> .e
      |none=> .e
    |_=> .pa
   |none=> .e
 | .panic _=> .e
 |_=> .pa
def pX (ms:List Nat):List Edge->Nat
 |[]=>0
 |e::es=>if Region.binds .any e then ((1 <<<e.on)|||ms.getD e.on 0)|||pX ms es else pX ms es
def sA:List Oper->List Nat->List Nat
 |[],ms=>ms
 |o::os,ms=>sA os (ms++ [pX ms o.after.toList])
structure Item where
 i:Nat
 o:Oper
 m:Nat
 k:Kind
 st:Nat
 rd:List Nat
def items (tt:TT) (all:List Oper) (ms:List Nat):List Oper->Nat->Nat->List Item
 |[],_,_=>[]
 |o::os,i,n=> ⟨i,o,ms.getD i 0,kindOf tt o.op,n,reads all o⟩ ::items tt all ms os (i+1) (match kindOf tt o.op with | .e=>n+1|_=>n)
def Kind.isE:Kind->Bool
 | .e=>true
 |_=>false
def Kind.isR:Kind->Bool
 | .r=>true
 |_=>false
def zH (ms:List Nat) (is:List Item) (x:Item):Bool:=
 x.o.after.toList.all (fun e=>!Region.binds .any e||decide (e.on<x.i))&&
 decide (x.m=pX ms x.o.after.toList)&&
 x.rd.all (fun t=>is.all fun y=>decide (y.o.dst≠some t)||x.m.testBit y.i||(!x.k.isR&&y.m.testBit x.i))&&
 is.all (fun y=>decide (y.i=x.i)||(match y.o.dst with |some d=>decide (x.o.dst≠some d)|none=>true))&&
 (!x.k.isE||is.all fun y=>!y.k.isE||!decide (y.i<x.i)||x.m.testBit y.i)
def Ct (is:List Item) (n:Nat) (x:Item):List Nat:=
 (List.range (n+1)).filter fun k=>is.all fun y=>!y.k.isE||((!x.m.testBit y.i||decide (y.st<k))&&(!y.m.testBit x.i||decide (k<=y.st)))
structure Stat where
 is:List Item
 nE:Nat
 rs:List (Item×List Nat)
def kV:List Item->Nat
 |[]=>0
 |x::xs=>match x.k with | .e=>kV xs+1|_=>kV xs
def stat (tt:TT) (all:List Oper):Option Stat:=
 let ms:=sA all [];let is:=items tt all ms all 0 0
 if is.all (zH ms is) then
  some ⟨is,kV is,(is.filter (·.k.isR)).map fun x=>(x,Ct is (kV is) x)⟩
 else none
def only (bH:Tr AV):List Nat->Tr AV
 |[]=> .nil
 |t::ts=>match bH.get t with
  |some v=>(only bH ts).put t (some v)
  |none=>only bH ts
structure Ub where
 bH:Tr AV
 mX:List (Hp×Nat)
 iZ:List (Nat×eL)
 DU:List (Option eL)
 vs:List AV
def gq (base bm mm:Nat):List (Nat×eL)->Hp->Hp
 |[],h=>h
 |(a,x)::r,h=>if bm.testBit a&&!mm.testBit a then (gq base bm mm r h).put (base+a) x else gq base bm mm r h
def ev1 (tt:TT) (call:eP) (all:List Oper) (o:Oper) (s:St):T (AV×St):=
 xY all s o fun s b=>if b then Mb tt call s o.op else .ret (AV.undef,s)
def wu (bH:Tr AV) (d:Option Nat) (v:AV):Tr AV:=match d with
 |some t=>bH.put t (some v)
 |none=>bH
def acm (tt:TT) (call:eP) (all:List Oper) (base N:Nat) (pc:List (SB×Bool)) (x:Item) (d:Ub):T Ub:=
 match d.mX with
 |[]=> .fail
 |(h,mm)::rest=>
  match x.k with
  | .pa=>(ev1 tt call all x.o ⟨only d.bH x.rd,⟨.nil,N,some (base+x.i)⟩,pc⟩).bind fun (v,s')=>
    if s'.h.next=N then
     .ret ⟨wu d.bH x.o.dst v,d.mX,match s'.h.get (base+x.i) with |some b=>(x.i,b)::d.iZ|none=>d.iZ,s'.h.get (base+x.i)::d.DU,v::d.vs⟩
    else .fail
  | .e=>(ev1 tt call all x.o ⟨only d.bH x.rd,gq base x.m mm d.iZ h,pc⟩).bind fun (v,s')=>
    if s'.h.next<=N/\s'.h.res=none then
     .ret ⟨wu d.bH x.o.dst v,(s'.h,mm|||x.m)::(h,mm)::rest,d.iZ,none::d.DU,v::d.vs⟩
    else .fail
  | .r=>(ev1 tt call all x.o ⟨only d.bH x.rd,gq base x.m mm d.iZ h,pc⟩).bind fun (v,_)=>
    .ret ⟨wu d.bH x.o.dst v,d.mX,d.iZ,none::d.DU,v::d.vs⟩
def T.BV {α β:Type} (pc:List (SB×Bool)) (f:List (SB×Bool)->α->T β):T α->T β
 | .fail=> .fail
 | .ret a=>f pc a
 | .split c x y=>match lh pc c with
   |some true=>T.BV pc f x
   |some false=>T.BV pc f y
   |none=> .split c (T.BV ((c,true)::pc) f x) (T.BV ((c,false)::pc) f y)
def X5 (tt:TT) (call:eP) (all:List Oper) (base N:Nat):List Item->List (SB×Bool)->Ub->T (List (SB×Bool)×Ub)
 |[],pc,d=> .ret (pc,d)
 |x::xs,pc,d=>(acm tt call all base N pc x d).BV pc (X5 tt call all base N xs)
def E6 (tt:TT) (call:eP) (all:List Oper) (base:Nat) (pc:List (SB×Bool)) (x:Item) (v:AV) (S:Tr AV) (iZ:List (Nat×eL)) (mX:List (Hp×Nat)):List Nat->T Unit
 |[]=> .ret ()
 |k::ks=>match gb mX k with
  |some (h,mm)=>(ev1 tt call all x.o ⟨S,gq base x.m mm iZ h,pc⟩).bind fun (u,_)=>
   if fq u v then E6 tt call all base pc x v S iZ mX ks else .fail
  |none=> .fail
def Lk (tt:TT) (call:eP) (all:List Oper) (base:Nat) (d:Ub) (mX:List (Hp×Nat)) (vs:List AV):List (Item×List Nat)->List (SB×Bool)->T (List (SB×Bool))
 |[],pc=> .ret pc
 |(x,ks)::r,pc=>match gb vs x.i with
  |some v=>(E6 tt call all base pc x v (only d.bH x.rd) d.iZ mX ks).BV pc fun pc _=>Lk tt call all base d mX vs r pc
  |none=> .fail
def KL (base:Nat) (iZ:List (Nat×eL)) (mX:List (Hp×Nat)):Bool:=
 iZ.all fun (a,_)=>mX.all fun (h,mm)=>mm.testBit a||(h.get (base+a)).isNone
def HC (tt:TT) (call:eP) (all:List Oper) (q:Stat) (s:St):T St:=
 match s.h.res with
 |some _=> .fail
 |none=>
 let base:=s.h.next;let n:=all.length;let N:=base+n+1099511627776
 (X5 tt call all base N q.is s.pc ⟨s.bH,[(⟨s.h.m,base+n,none⟩,0)],[],[],[]⟩).bind fun (pc,d)=>
  match d.mX with
  |[]=> .fail
  |(h,mm)::_=>
   (Lk tt call all base d d.mX.reverse d.vs.reverse q.rs pc).bind fun pc=>
    if KL base d.iZ d.mX then .ret ⟨d.bH,gq base ((1 <<<n)-1) mm d.iZ h,pc⟩ else .fail
def draw (tt:TT) (call:eP) (all:List Oper) (s:St):T St:=
 match stat tt all with
 |none=> .fail
 |some q=>HC tt call all q s
end
end Go.As
end
section
namespace Go.As
section
variable {P:Program}
theorem Mr [bS] {tt:TT} (db:fj P tt) {call:eP} (hc:jh P call) {ops:Array Oper} {o:Oper} {s s':St} {v:AV} {ρ:Nat->Int} (hp:cD ρ s.pc) (h:(ev1 tt call ops.toList o s).leaf ρ=some (v,s')) :
 Ii P ρ ops o s.bH s.h v s'.h:=by
 intro E a w hρ r sr;subst hρ;unfold ev1 at h;obtain⟨fU,gQ,U⟩:=Gu ⟨r,sr,hp⟩ h;cases hw:Region.wanted o (yielded ops a.tmps)<;>rw [hw] at U
 ·grind [bC]
 ·simp only [if_true] at U;obtain⟨_,_,q3⟩:=VL db hc (s:={ s with pc:=fU }) (o:=o) r sr gQ U;exact .inr ⟨rfl,q3⟩
theorem kA {α:Type} {ρ:Nat->Int} {s:St} {c:SB} {f:St->Bool->T α} {r:α} (h:(mu s c f).leaf ρ=some r): ∃fU b,(f { s with pc:=fU } b).leaf ρ=some r:=by
 unfold mu at h;split at h
 ·rename_i b _; exact⟨s.pc,b,h⟩
 grind [T.leaf]
theorem Lq {α:Type} {ρ:Nat->Int} {s:St} {all:List Oper} {o:Oper} {f:St->Bool->T α} {r:α} (h:(xY all s o f).leaf ρ=some r): ∃fU b,(f { s with pc:=fU } b).leaf ρ=some r:=by
 unfold xY at h;split at h
 ·exact⟨s.pc,true,h⟩
 ·split at h
  ·split at h
   ·split at h
    ·obtain⟨fU,b,U⟩:=kA h; exact⟨fU,_,U⟩
    ·exact⟨s.pc,_,h⟩
    grind [T.leaf]
   grind [T.leaf]
  grind [T.leaf]
theorem Gv {ρ:Nat->Int} {s:St} {x:Operand} {f:AV->T (AV×St)} {r:AV×St} (h:(B3 s x f).leaf ρ=some r): ∃v,(f v).leaf ρ=some r:=by
 grind [B3,T.leaf]
theorem xW {ρ:Nat->Int} {s s':St} {x:Option AV} {v:AV} (h:(tE s x).leaf ρ=some (v,s')):s'=s:=by
 unfold tE at h
 grind [bC,T.leaf]
theorem aj1 {tt:TT} {op:Op} (h:kindOf tt op= .r):(∃t x,op= .load t x)\/(∃t x i ok,op= .lookup t x i ok)\/(∃c:Call,op= .call c/\c.callee= .builtin .len)\/∃t u x i j e,op= .convert t u x/\tt t=some i/\i.kind= .slice e/\tt u=some j/\j.kind= .string:=by
 unfold kindOf at h;split at h<;>try (simp at h; done)
 all_goals grind
theorem Jz {α:Type} {ρ:Nat->Int} {s:St} {i n:W} {f:St->T α} {r:α} (h:(AT s i n f).leaf ρ=some r): ∃fU,(f { s with pc:=fU }).leaf ρ=some r:=by
 unfold AT at h;obtain⟨j3,b1,U⟩:=kA h;split at U
 ·grind [T.leaf]
 ·obtain⟨qA,b2,Z⟩:=kA U
  grind [T.leaf]
theorem vh {α:Type} {ρ:Nat->Int} {kk:TK} {k:AV} {r:α} {f:St->T α}: ∀{es:List (AV×AV×Nat)} {s:St},(vi kk k es s f).leaf ρ=some r->∃fU,(f { s with pc:=fU }).leaf ρ=some r
 |[],s,h=> ⟨s.pc,h⟩
 |(k',v,b)::es,s,h=>by
  simp only [vi] at h;split at h
  ·split at h
   ·exact⟨s.pc,h⟩
   ·exact vh h
  ·split at h
   ·obtain⟨j3,b1,U⟩:=kA h;split at U
    ·grind
    ·obtain⟨qA,Z⟩:=vh U
     grind
   ·exact⟨s.pc,h⟩
theorem Io {α:Type} {ρ:Nat->Int} {tt:TT} {t:Nat} {m k:AV} {r:α} {f:St->T α} {s:St} (h:(px tt t m k s f).leaf ρ=some r): ∃fU,(f { s with pc:=fU }).leaf ρ=some r:=by
 unfold px at h;split at h
 ·split at h
  ·split at h
   ·split at h
    ·exact vh h
    ·exact⟨s.pc,h⟩
   ·exact⟨s.pc,h⟩
  ·exact⟨s.pc,h⟩
 ·exact⟨s.pc,h⟩
theorem aew {s s':St} {cs:List AV} {e:W} {v:AV} {ρ:Nat->Int} (h:(Kb s cs e).leaf ρ=some (v,s')):s'.h=s.h:=by
 grind [Kb,T.leaf,Jz,bC]
theorem XX {tt:TT} {s s':St} {ty t:Nat} {k:AV} {ok:Bool} {e:W} {v:AV} {ρ:Nat->Int} (h:(By tt ty k ok e t s).leaf ρ=some (v,s')):s'.h=s.h:=by
 unfold By at h;split at h
 ·grind [T.leaf]
 ·split at h
  ·grind [T.leaf]
  ·obtain⟨fU,b,U⟩:=kA h
   grind [bC]
theorem Dx {α:Type} {ρ:Nat->Int} {i:W} {r:α}: ∀{ov:List (W×List AV)} {s:St} {k:St->T α},(wb i ov s k).leaf ρ=some r->∃fU,(k { s with pc:=fU }).leaf ρ=some r
 |[],s,k,h=> ⟨s.pc,h⟩
 |(j,c)::l,s,k,h=>by
  simp only [wb] at h;split at h
  ·exact⟨s.pc,h⟩
  ·obtain⟨j3,b1,U⟩:=kA h;split at U
   ·grind
   ·obtain⟨qA,Z⟩:=Dx U
    grind
theorem XY {tt:TT} {s s':St} {ty id es off:Nat} {i:W} {v:AV} {ρ:Nat->Int} (h:(Bz tt s ty id es i off).leaf ρ=some (v,s')):s'.h=s.h:=by
 unfold Bz at h;split at h
 ·split at h
  ·grind [T.leaf,aew]
  ·split at h
   all_goals grind [Jz,Dx,xW,T.leaf]
  grind [T.leaf]
 grind [T.leaf]
theorem akJ {tt:TT} {call:eP} {op:Op} {s s':St} {v:AV} {ρ:Nat->Int} (hk:kindOf tt op= .r) (h:(Mb tt call s op).leaf ρ=some (v,s')):s'.h=s.h:=by
 rcases aj1 hk with ⟨t,x,rfl⟩|⟨t,x,i,ok,rfl⟩|⟨c,rfl,hc⟩|⟨t,u,x,i,j,e,rfl,hi,he,hj,hs⟩
 ·grind [Mb,Gv,XY,xW]
 ·grind [Mb,Gv,XX,Io,xW,T.leaf]
 ·simp only [Mb,Mk] at h;split at h
  ·grind [T.leaf]
  ·rw [hc] at h;simp only [yq] at h
   grind [xW,T.leaf]
 ·simp only [Mb] at h;obtain⟨p,U⟩:=Gv h;split at U
  ·grind [Fp,T.leaf]
  obtain⟨H,e1,rfl⟩:=rh U;unfold qU at e1;rw [hi,hj] at e1;simp only [hs,he] at e1;split at e1
  ·grind
  ·split at e1
   ·split at e1
    ·grind
    ·split at e1
     ·rw [aO] at e1
      grind
     grind
    grind
   grind
theorem aox {tt:TT} {call:eP} {all:List Oper} {o:Oper} {s s':St} {v:AV} {ρ:Nat->Int} (hk:kindOf tt o.op= .r) (h:(ev1 tt call all o s).leaf ρ=some (v,s')):s'.h=s.h:=by
 unfold ev1 at h;obtain⟨fU,b,U⟩:=Lq h;cases b
 ·grind [bC]
 ·simp only [if_true] at U;exact akJ (s:={ s with pc:=fU }) hk U
theorem p7 {base bm mm:Nat}: ∀{l:List (Nat×eL)} {h:Hp} {id:Nat} {x:eL},(gq base bm mm l h).get id=some x->h.get id=some x\/∃a,(a,x)∈l/\bm.testBit a=true/\mm.testBit a=false/\id=base+a
 |[],h,id,x,hh=> .inl hh
 |(a,y)::r,h,id,x,hh=>by
  simp only [gq] at hh;split at hh
  ·rename_i hb;rw [Hp.bV] at hh;split at hh
   ·rename_i e
    grind
   ·rcases p7 hh with U|⟨b,U,Z⟩
    all_goals grind
  ·rcases p7 hh with U|⟨b,U,Z⟩
   all_goals grind
theorem ky {base bm mm:Nat}: ∀(l:List (Nat×eL)) (h:Hp),(gq base bm mm l h).next=h.next/\(gq base bm mm l h).res=h.res
 |[],h=> ⟨rfl,rfl⟩
 |(a,y)::r,h=>by
  have:=ky (base:=base) (bm:=bm) (mm:=mm) r h;simp only [gq];split
  ·exact this
  grind
theorem AS {bH:Tr AV}: ∀{ts:List Nat} {t:Nat} {x:AV},(only bH ts).get t=some x->t∈ts/\bH.get t=some x
 |[],t,x,h=>by simp [only,Tr.get] at h
 |u::us,t,x,h=>by
  simp only [only] at h;split at h
  ·rename_i v hv;rw [Tr.bV] at h;split at h
   ·rename_i e
    grind
   ·have:=AS h
    grind
  ·have:=AS h
   grind
theorem xT {bH:Tr AV} {d:Option Nat} {v:AV} {t:Nat}:(wu bH d v).get t=if d=some t then some v else bH.get t:=by
 cases d with
 |none=>simp [wu]
 |some u=>
  grind [wu,Tr.bV]
theorem qN {ms:List Nat} {i:Nat}: ∀{es:List Edge},(pX ms es).testBit i=true->∃e∈es,Region.binds .any e=true/\(e.on=i\/(ms.getD e.on 0).testBit i=true)
 |[],h=>by simp [pX] at h
 |e::es,h=>by
  simp only [pX] at h;split at h
  ·rename_i hb;simp only [Nat.testBit_or,arQ] at h;rcases h with (h|h)|h
   ·rw [Nat.shiftLeft_eq,asb,Nat.testBit_two_pow] at h
    grind
   ·grind
   ·obtain⟨e',U,Z⟩:=qN h
    grind
  ·obtain⟨e',U,Z⟩:=qN h
   grind
def kx (tt:TT):List Oper->Nat
 |[]=>0
 |o::os=>(match kindOf tt o.op with | .e=>1|_=>0)+kx tt os
theorem kO {tt:TT} {all:List Oper} {ms:List Nat}: ∀(os:List Oper) (i n j:Nat),(items tt all ms os i n)[j]?=(os[j]?).map fun o=> ⟨i+j,o,ms.getD (i+j) 0,kindOf tt o.op,n+kx tt (os.take j),reads all o⟩
 |[],i,n,j=>by simp [items]
 |o::os,i,n,j=>by
  simp only [items]
  cases j with
  |zero=>simp [kx]
  |succ j=>
   rw [aG,kO os]
   grind [kx]
theorem uI {tt:TT} {all:List Oper} {ms:List Nat}: ∀(os:List Oper) (i n:Nat),(items tt all ms os i n).length=os.length
 |[],i,n=>rfl
 |o::os,i,n=>by simp [items,uI os]
theorem n7 {tt:TT} {all:List Oper} {ms:List Nat}: ∀(os:List Oper) (i n:Nat),kV (items tt all ms os i n)=kx tt os
 |[],i,n=>rfl
 |o::os,i,n=>by
  simp only [items,kV,kx,n7 os]
  grind
end
section
variable {P:Program}
def H8 [bS] (P:Program) (ρ:Nat->Int) (ops:Array Oper) (base N:Nat) (x:Item) (d:Ub) (v:AV) (ob:Option eL) (d1:Ub):Prop:=
 ∃h mm rest,d.mX=(h,mm)::rest/\match x.k with
  | .pa=>d1.mX=d.mX/\∃HA,Ii P ρ ops x.o (only d.bH x.rd) ⟨.nil,N,some (base+x.i)⟩ v HA/\HA.next=N/\ob=HA.get (base+x.i)
  | .e=>ob=none/\∃hn,d1.mX=(hn,mm|||x.m)::d.mX/\hn.next<=N/\hn.res=none/\Ii P ρ ops x.o (only d.bH x.rd) (gq base x.m mm d.iZ h) v hn
  | .r=>ob=none/\d1.mX=d.mX
theorem ack [bS] {tt:TT} (db:fj P tt) {call:eP} (hc:jh P call) {ops:Array Oper} {base N:Nat} {pc:List (SB×Bool)} {ρ:Nat->Int} (hp:cD ρ pc) {x:Item} {d d1:Ub} (h:(acm tt call ops.toList base N pc x d).leaf ρ=some d1) :
 ∃v ob,d1.bH=wu d.bH x.o.dst v/\d1.vs=v::d.vs/\d1.DU=ob::d.DU/\d1.iZ=(match ob with |some b=>(x.i,b)::d.iZ|none=>d.iZ)/\H8 P ρ ops base N x d v ob d1:=by
 unfold acm at h;split at h
 ·grind [T.leaf]
 ·rename_i h0 mm rest hs;split at h
  ·rename_i hk;obtain⟨⟨v,s'⟩,U,Z⟩:=T.fV h;have ha:=Mr db hc (s:=⟨only d.bH x.rd,⟨.nil,N,some (base+x.i)⟩,pc⟩) hp U;simp only at Z;split at Z
   ·rename_i hn;have:=bC Z;subst this;refine⟨v,s'.h.get (base+x.i),rfl,rfl,rfl,?_,h0,mm,rest,hs,?_⟩
    all_goals grind
   grind [T.leaf]
  ·rename_i hk;obtain⟨⟨v,s'⟩,U,Z⟩:=T.fV h;have ha:=Mr db hc (s:=⟨only d.bH x.rd,gq base x.m mm d.iZ h0,pc⟩) hp U;simp only at Z;split at Z
   ·rename_i hn;have:=bC Z;subst this;refine⟨v,none,rfl,rfl,rfl,rfl,h0,mm,rest,hs,?_⟩
    grind
   ·simp [T.leaf] at Z
  ·rename_i hk;obtain⟨⟨v,s'⟩,U,Z⟩:=T.fV h;have:=bC Z;subst this;refine⟨v,none,rfl,rfl,rfl,rfl,h0,mm,rest,hs,?_⟩
   grind
theorem H8.mX [bS] {ρ:Nat->Int} {ops:Array Oper} {base N:Nat} {x:Item} {d d1:Ub} {v:AV} {ob:Option eL} (h:H8 P ρ ops base N x d v ob d1): ∃pre,d1.mX=pre++d.mX/\pre.length=kV [x]:=by
 obtain⟨h0,mm,rest,hs,U⟩:=h;cases hk:x.k<;>rw [hk] at U
 ·simp_all [kV]
 ·obtain⟨_,hn,Z,_⟩:=U;exact⟨[(hn,mm|||x.m)],by rw [Z]; rfl,by simp [kV,hk]⟩
 simp_all [kV]
theorem H8.nxt [bS] {ρ:Nat->Int} {ops:Array Oper} {base N:Nat} {x:Item} {d d1:Ub} {v:AV} {ob:Option eL} (h:H8 P ρ ops base N x d v ob d1) (hh: ∀q∈d.mX,q.1.next<=N/\q.1.res=none): ∀q∈d1.mX,q.1.next<=N/\q.1.res=none:=by
 obtain⟨h0,mm,rest,hs,U⟩:=h
 grind
structure ao5 [bS] (P:Program) (ρ:Nat->Int) (ops:Array Oper) (base N:Nat) (xs:List Item) (d d':Ub):Prop where
 vs: ∃pre,d'.vs=pre++d.vs/\pre.length=xs.length
 DU: ∃pre,d'.DU=pre++d.DU/\pre.length=xs.length
 mX: ∃pre,d'.mX=pre++d.mX/\pre.length=kV xs
 oe: ∀a b,(a,b)∈d'.iZ->(a,b)∈d.iZ\/∃p x,xs[p]?=some x/\x.i=a/\d'.DU.reverse[d.DU.length+p]?=some (some b)
 aqO: ∀p x b,xs[p]?=some x->d'.DU.reverse[d.DU.length+p]?=some (some b)->(x.i,b)∈d'.iZ
 arn: ∀q,q∈d.iZ->q∈d'.iZ
 slot: ∀t x,d'.bH.get t=some x->(∃p y,xs[p]?=some y/\y.o.dst=some t/\d'.vs.reverse[d.vs.length+p]?=some x)\/(d.bH.get t=some x/\∀y∈xs,y.o.dst≠some t)
 same: ∀t,(∀y∈xs,y.o.dst≠some t)->d'.bH.get t=d.bH.get t
 nxt:(∀q∈d.mX,q.1.next<=N/\q.1.res=none)->∀q∈d'.mX,q.1.next<=N/\q.1.res=none
 at_: ∀p x,xs[p]?=some x->∃dp X4 v ob pre,H8 P ρ ops base N x dp v ob X4/\d'.vs.reverse[d.vs.length+p]?=some v/\d'.DU.reverse[d.DU.length+p]?=some ob/\d'.mX=pre++X4.mX/\dp.mX.length=d.mX.length+kV (xs.take p)/\
  (∀q,q∈dp.iZ->q∈d'.iZ)/\(∀t,(∀y∈xs.drop p,y.o.dst≠some t)->d'.bH.get t=dp.bH.get t)/\
  (∀t z,dp.bH.get t=some z->(∃p' y,p'<p/\xs[p']?=some y/\y.o.dst=some t/\d'.vs.reverse[d.vs.length+p']?=some z)\/(d.bH.get t=some z/\∀y∈xs.take p,y.o.dst≠some t))
theorem A! {α:Type} {l pre l0:List α} {v:α} (h:l=pre++v::l0):l.reverse[l0.length]?=some v:=by
 grind
theorem Ej (x:Item) (xs:List Item):kV (x::xs)=kV [x]+kV xs:=by
 grind [kV]
theorem T.mQ {α β:Type} {ρ:Nat->Int} {f:List (SB×Bool)->α->T β} {r:β}: ∀{x:T α} {pc:List (SB×Bool)},cD ρ pc->(x.BV pc f).leaf ρ=some r->∃a fU,x.leaf ρ=some a/\cD ρ fU/\(f fU a).leaf ρ=some r
 | .fail,pc,_,h=>by simp [T.BV,T.leaf] at h
 | .ret a,pc,hp,h=> ⟨a,pc,rfl,hp,h⟩
 | .split c x y,pc,hp,h=>by
   simp only [T.BV] at h
   cases V:lh pc c with
   |some b=>
    rw [V] at h;have hb:=iz hp V;simp only [T.leaf,hb]
    cases b with
    |true=>exact T.mQ hp h
    |false=>exact T.mQ hp h
   |none=>
    rw [V] at h;simp only [T.leaf] at h ⊢
    cases hb:c.den ρ with
    |true=>
     rw [hb] at h
     exact T.mQ (x:=x) (pc:=(c,true)::pc) (fun c' b' hm=>by
      rcases aH.1 hm with he|hm
      ·simp only [ak] at he; rw [he.1,he.2]; exact hb
      ·exact hp c' b' hm) h
    |false=>
     rw [hb] at h
     exact T.mQ (x:=y) (pc:=(c,false)::pc) (fun c' b' hm=>by
      rcases aH.1 hm with he|hm
      ·simp only [ak] at he; rw [he.1,he.2]; exact hb
      ·exact hp c' b' hm) h
theorem V1 {tt:TT} {call:eP} {all:List Oper} {base N:Nat} {ρ:Nat->Int}: ∀(xs:List Item) {pc fU:List (SB×Bool)} {d d':Ub},cD ρ pc->(X5 tt call all base N xs pc d).leaf ρ=some (fU,d')->cD ρ fU
 |[],pc,fU,d,d',hp,h=>by
  have:=bC h
  grind
 |x::xs,pc,fU,d,d',hp,h=>by simp only [X5] at h;obtain⟨d1,j3,_,jH,Z⟩:=T.mQ hp h;exact V1 xs jH Z
theorem V4 [bS] {tt:TT} (db:fj P tt) {call:eP} (hc:jh P call) {ops:Array Oper} {base N:Nat} {ρ:Nat->Int}: ∀(xs:List Item) {pc fU:List (SB×Bool)} {d d':Ub},cD ρ pc->(X5 tt call ops.toList base N xs pc d).leaf ρ=some (fU,d')->ao5 P ρ ops base N xs d d'
 |[],pc,fU,d,d',hp,h=>by have:=bC h;simp only [ak] at this;obtain⟨_,rfl⟩:=this;exact⟨⟨[],rfl,rfl⟩,⟨[],rfl,rfl⟩,⟨[],rfl,rfl⟩,fun a b h=> .inl h,fun p x b hh=>by simp at hh,fun q h=>h,fun t x h=> .inr ⟨h,ad⟩,fun t _=>rfl,fun h=>h,fun p x hh=>by simp at hh⟩
 |x::xs,pc,fU,d,d',hp,h=>by
  simp only [X5] at h;obtain⟨d1,j3,U,jH,Z⟩:=T.mQ hp h;obtain⟨v,ob,e1,e2,e3,e4,hF⟩:=ack db hc hp U;obtain⟨⟨pv,v1,v2⟩,⟨po,o1,o2⟩,⟨ps,s1,s2⟩,b1,b2,b3,sl,sm,nx,gz⟩:=V4 db hc xs jH Z;obtain⟨qs,t1,t2⟩:=hF.mX;have gp:d'.vs.reverse[d.vs.length]?=some v:=A! (by rw [v1,e2]);have ho0:d'.DU.reverse[d.DU.length]?=some ob:=A! (by rw [o1,e3]);have hvl:d1.vs.length=d.vs.length+1:=by rw [e2]; rfl
  have hol:d1.DU.length=d.DU.length+1:=by rw [e3]; rfl
  have pj: ∀q,q∈d.iZ->q∈d1.iZ:=by
   intro q hq
   grind
  have Ao: ∀(p n:Nat),n+1+p=n+(p+1):=by intro p n; omega
  refine⟨⟨pv++ [v],by rw [v1,e2]; simp,by simp [v2]⟩,⟨po++ [ob],by rw [o1,e3]; simp,by simp [o2]⟩,⟨ps++qs,by rw [s1,t1]; simp,by rw [bc,Ej,s2,t2]; omega⟩,?_,?_,fun q hq=>b3 q (pj q hq),?_,?_,fun hh=>nx (hF.nxt hh),?_⟩
  ·intro a b Sy;rcases b1 a b Sy with hh|⟨p,y,g1,g2,g3⟩
   ·rw [e4] at hh
    cases ob with
    |none=>exact .inl hh
    |some c=>
     simp only [aH,ak] at hh;rcases hh with ⟨rfl,rfl⟩|hh
     ·exact .inr ⟨0,x,rfl,rfl,ho0⟩
     ·exact .inl hh
   ·exact .inr ⟨p+1,y,by simpa using g1,g2,by rw [<- Ao,<- hol]; exact g3⟩
  ·intro p y b hy hb
   cases p with
   |zero=> simp at hy;subst hy;rw [arA,ho0] at hb;simp at hb;subst hb;exact b3 _ (by rw [e4]; simp)
   |succ p=> refine b2 p y b (by simpa using hy) ?_;rw [hol,Ao];exact hb
  ·intro t y hy;rcases sl t y hy with ⟨p,z,g1,g2,g3⟩|⟨g1,g2⟩
   ·exact .inl ⟨p+1,z,by simpa using g1,g2,by rw [<- Ao,<- hvl]; exact g3⟩
   ·rw [e1,xT] at g1;split at g1
    ·rename_i V;simp at g1;subst g1;exact .inl ⟨0,x,rfl,V,gp⟩
    ·rename_i V;refine .inr ⟨g1,fun z hz=>?_⟩;rcases aH.1 hz with rfl|hz
     ·exact V
     ·exact g2 z hz
  ·intro t ht;rw [sm t fun y hy=>ht y (by simp [hy]),e1,xT,af (ht x ad)]
  ·intro p y hy
   cases p with
   |zero=> simp at hy;subst hy;refine⟨d,d1,v,ob,ps,hF,gp,ho0,s1,by simp [kV],fun q hq=>b3 q (pj q hq),fun t ht=>?_,fun t z hz=> .inr ⟨hz,ad⟩⟩;rw [sm t fun y hy=>ht y (by simp [hy]),e1,xT,af (ht x ad)]
   |succ p=>
    obtain⟨dp,X4,v',ob',pre,g1,g2,g3,g4,g5,g6,g7,g8⟩:=gz p y (by simpa using hy);refine⟨dp,X4,v',ob',pre,g1,by rw [<- Ao,<- hvl]; exact g2,by rw [<- Ao,<- hol]; exact g3,g4,?_,g6,fun t ht=>g7 t (by simpa using ht),fun t z hz=>?_⟩
    ·rw [g5,asd,Ej,t1,bc,t2];omega
    ·rcases g8 t z hz with ⟨p',y',q1,q2,q3,q4⟩|⟨q1,q2⟩
     ·exact .inl ⟨p'+1,y',J,by simpa using q2,q3,by rw [<- Ao,<- hvl]; exact q4⟩
     ·rw [e1,xT] at q1;split at q1
      ·rename_i V;simp at q1;subst q1;exact .inl ⟨0,x,J,rfl,V,gp⟩
      ·rename_i V;refine .inr ⟨q1,fun u hu=>?_⟩;rw [asd] at hu;rcases aH.1 hu with rfl|hu
       ·exact V
       ·exact q2 u hu
end
section
variable {P:Program}
theorem yx {tt:TT}: ∀{l:List Oper} {i:Nat} {o:Oper},l[i]?=some o->kx tt (l.take (i+1))=kx tt (l.take i)+(match kindOf tt o.op with | .e=>1|_=>0)
 |[],i,o,h=>by simp at h
 |x::xs,0,o,h=>by
  simp at h;subst h;simp only [aK,asd,asI,kx]
  grind
 |x::xs,i+1,o,h=>by simp only [asd,kx];rw [yx (l:=xs) (by simpa using h)];omega
theorem Pv {tt:TT} {l:List Oper} {i:Nat} (h:l[i]?=none):kx tt (l.take (i+1))=kx tt (l.take i):=by have:=ass.1 h;rw [ar1 J,ar1 J]
theorem Kz {tt:TT} {l:List Oper} {i:Nat}: ∀{j:Nat},i<=j->kx tt (l.take i)<=kx tt (l.take j)
 |0,h=>by
  grind
 |j+1,h=>by
  by_cases e:i=j+1
  ·grind
  ·have:=Kz (tt:=tt) (l:=l) (i:=i) (j:=j) J
   cases ho:l[j]? with
   |none=>rw [Pv ho]; exact this
   |some o=>rw [yx ho]; omega
theorem MQ {tt:TT} {l:List Oper} {i j:Nat} {o:Oper} (ho:l[i]?=some o) (hk:kindOf tt o.op= .e) (h:i<j):kx tt (l.take i)<kx tt (l.take j):=by
 have U:=yx (tt:=tt) ho;rw [hk] at U;have Z:=Kz (tt:=tt) (l:=l) (i:=i+1) (j:=j) h
 grind
theorem yu {tt:TT} {l:List Oper} {m:Nat}: ∀{j:Nat},m<kx tt (l.take j)->∃i o,i<j/\l[i]?=some o/\kindOf tt o.op= .e/\kx tt (l.take i)=m
 |0,h=>by simp [kx] at h
 |j+1,h=>by
  cases ho:l[j]? with
  |none=>
   rw [Pv ho] at h;obtain⟨i,o,U,Z⟩:=yu h
   grind
  |some o=>
   rw [yx ho] at h;rcases aZ m (kx tt (l.take j)) with h'|h'
   ·obtain⟨i,o,U,Z⟩:=yu h'
    grind
   grind
def B4 (tt:TT) (all:List Oper) (ms:List Nat) (j:Nat) (o:Oper):Item:=⟨j,o,ms.getD j 0,kindOf tt o.op,kx tt (all.take j),reads all o⟩
theorem jq {tt:TT} {all:List Oper} {ms:List Nat} {j:Nat} {o:Oper} (h:all[j]?=some o):(items tt all ms all 0 0)[j]?=some (B4 tt all ms j o):=by rw [kO,h];simp [B4]
theorem JS {tt:TT} {all:List Oper} {ms:List Nat} {x:Item} (h:x∈items tt all ms all 0 0): ∃j o,all[j]?=some o/\x=B4 tt all ms j o:=by
 obtain⟨j,hj⟩:=List.getElem?_of_mem h
 cases ho:all[j]? with
 |none=>rw [kO,ho] at hj; simp at hj
 |some o=>
  rw [jq ho] at hj
  grind
structure ahU (tt:TT) (all:List Oper) (ms:List Nat):Prop where
 back: ∀(j:Nat) (o:Oper),all[j]?=some o->∀e∈o.after,Region.binds .any e=true->e.on<j
 mask: ∀(j:Nat) (o:Oper),all[j]?=some o->ms.getD j 0=pX ms o.after.toList
 rd: ∀(j:Nat) (o:Oper),all[j]?=some o->∀t∈reads all o,∀(i:Nat) (oi:Oper),all[i]?=some oi->oi.dst=some t->(ms.getD j 0).testBit i=true\/(kindOf tt o.op≠.r/\(ms.getD i 0).testBit j=true)
 dst: ∀(i j:Nat) (oi oj:Oper) (d:Nat),all[i]?=some oi->all[j]?=some oj->oi.dst=some d->oj.dst=some d->i=j
 tot: ∀(i j:Nat) (oi oj:Oper),all[i]?=some oi->all[j]?=some oj->kindOf tt oi.op= .e->kindOf tt oj.op= .e->i<j->(ms.getD j 0).testBit i=true
theorem adw {tt:TT} {all:List Oper} {q:Stat} (h:stat tt all=some q): ∃ms,q.is=items tt all ms all 0 0/\q.nE=kx tt all/\q.rs=((q.is.filter (·.k.isR)).map fun x=>(x,Ct q.is q.nE x))/\ahU tt all ms:=by
 unfold stat at h;simp only at h;split at h
 ·rename_i si;simp at h;subst h;refine⟨sA all [],rfl,n7 _ _ _,rfl,?_⟩;have key: ∀(j:Nat) (o:Oper),all[j]?=some o->zH (sA all []) (items tt all (sA all []) all 0 0) (B4 tt all (sA all []) j o)=true:=fun j o ho=>aP.1 si _ (arq (jq ho));have mem: ∀(j:Nat) (o:Oper),all[j]?=some o->B4 tt all (sA all []) j o∈items tt all (sA all []) all 0 0:=fun j o ho=>arq (jq ho);refine⟨?_,?_,?_,?_,?_⟩
  ·intro j o ho e he hb;have:=key j o ho;simp only [zH,an,aP] at this;have:=this.1.1.1.1 e (by simpa [B4] using he);simpa [hb,B4] using this
  ·intro j o ho;have:=key j o ho;simp only [zH,an] at this;have:=this.1.1.1.2;simpa [B4] using this
  ·intro j o ho t ht i oi hoi V;have:=key j o ho;simp only [zH,an,aP] at this;have:=this.1.1.2 t ht _ (mem i oi hoi);simp only [B4,V,ne_eq,not_true_eq_false,decide_false,asf,arQ,an,arR] at this;rcases this with h|⟨U,Z⟩
   ·grind
   ·refine .inr ⟨fun hk=>?_,Z⟩;rw [hk] at U;simp [Kind.isR] at U
  ·intro i j oi oj d hi hj hdi hdj;have:=key i oi hi;simp only [zH,an,aP] at this;have:=this.1.2 _ (mem j oj hj);simp [B4,hdi,hdj] at this
   grind
  ·intro i j oi oj hi hj hki hkj gy;have:=key j oj hj;simp only [zH,an,aP] at this;have:=this.2;simp only [B4,hkj,Kind.isE,asv,asf,aP] at this;have:=this _ (mem i oi hi);simpa [B4,hki,Kind.isE,gy] using this
 grind
theorem Gb [bS] {tt:TT} (db:fj P tt) {call:eP} (hc:jh P call) {ops:Array Oper} {base:Nat} {pc:List (SB×Bool)} {ρ:Nat->Int} (hp:cD ρ pc) {x:Item} (hk:kindOf tt x.o.op= .r) {v:AV} {S:Tr AV} {iZ:List (Nat×eL)} {mX:List (Hp×Nat)}: ∀(ks:List Nat),(E6 tt call ops.toList base pc x v S iZ mX ks).leaf ρ=some ()->
 ∀k∈ks,∃h mm,mX[k]?=some (h,mm)/\Ii P ρ ops x.o S (gq base x.m mm iZ h) v (gq base x.m mm iZ h)
 |[],_=>by simp
 |k::ks,h=>by
  simp only [E6] at h;split at h
  ·rename_i h0 mm hn;obtain⟨⟨u,s'⟩,U,Z⟩:=T.fV h;simp only at Z;split at Z
   ·rename_i hs;have ha:=Mr db hc (s:=⟨S,gq base x.m mm iZ h0,pc⟩) hp U;have hr:=aox hk U;rw [hr,lP _ _ hs] at ha;intro k' OG;rcases aH.1 OG with rfl|OG
    ·exact⟨h0,mm,by rw [<- dI]; exact hn,ha⟩
    ·exact Gb db hc hp hk ks Z k' OG
   ·simp [T.leaf] at Z
  ·simp [T.leaf] at h
theorem Jl [bS] {tt:TT} (db:fj P tt) {call:eP} (hc:jh P call) {ops:Array Oper} {base:Nat} {ρ:Nat->Int} {d:Ub} {mX:List (Hp×Nat)} {vs:List AV}: ∀(rs:List (Item×List Nat)) {pc fU:List (SB×Bool)},cD ρ pc->(∀r∈rs,kindOf tt r.1.o.op= .r)->(Lk tt call ops.toList base d mX vs rs pc).leaf ρ=some fU->
 cD ρ fU/\∀r∈rs,∃v,vs[r.1.i]?=some v/\∀k∈r.2,∃h mm,mX[k]?=some (h,mm)/\Ii P ρ ops r.1.o (only d.bH r.1.rd) (gq base r.1.m mm d.iZ h) v (gq base r.1.m mm d.iZ h)
 |[],pc,fU,hp,_,h=>by
  have:=bC h
  grind
 |(x,ks)::rs,pc,fU,hp,hk,h=>by
  simp only [Lk] at h;split at h
  ·rename_i v hv;obtain⟨⟨⟩,j3,U,jH,Z⟩:=T.mQ hp h;obtain⟨pI,ih⟩:=Jl db hc rs jH (fun r hr=>hk r (by simp [hr])) Z;refine⟨pI,fun r hr=>?_⟩;rcases aH.1 hr with rfl|hr
   ·exact⟨v,by rw [<- dI]; exact hv,Gb db hc hp (hk _ ad) ks U⟩
   grind
  ·simp [T.leaf] at h
end
section
variable {P:Program}
theorem adJ {α:Type} {l pre:List α} {a b:α} {l0:List α} (h:l=pre++a::b::l0):l.reverse[l0.length]?=some b/\l.reverse[l0.length+1]?=some a:=by
 grind
theorem WW {n b:Nat} (h:((1 <<<n)-1).testBit b=true):b<n:=by
 rw [Nat.shiftLeft_eq,asb,Nat.testBit_two_pow_sub_one] at h
 grind
theorem adP [bS] {tt:TT} {ops:Array Oper} {ms:List Nat} {ρ:Nat->Int} {ra:Tr AV} {H0:Hp} {base N:Nat} {d:Ub} (sf:ahU tt ops.toList ms) (hb:base=H0.next) (hN:base+ops.size<=N)
 (rf:ao5 P ρ ops base N (items tt ops.toList ms ops.toList 0 0) ⟨ra,[(⟨H0.m,base+ops.size,none⟩,0)],[],[],[]⟩ d)
 (Sn: ∀r∈((items tt ops.toList ms ops.toList 0 0).filter (·.k.isR)).map fun x=>(x,Ct (items tt ops.toList ms ops.toList 0 0) (kx tt ops.toList) x),∃v,d.vs.reverse[r.1.i]?=some v/\∀k∈r.2,∃h mm,d.mX.reverse[k]?=some (h,mm)/\Ii P ρ ops r.1.o (only d.bH r.1.rd) (gq base r.1.m mm d.iZ h) v (gq base r.1.m mm d.iZ h))
 (hun:KL base d.iZ d.mX=true) :
 ∃p:Ib P ρ ops ra H0,p.base=base/\p.nE=kx tt ops.toList/\(∀i,p.val i=(d.vs.reverse[i]?).getD .vL)/\(∀k h mm,d.mX.reverse[k]?=some (h,mm)->p.hp k=h/\∀a,p.un k a=!mm.testBit a)/\(∀i,p.oe i=(d.DU.reverse[i]?).getD none)/\
  (∀(m:Nat),m<p.nE->∃(j:Nat) (o:Oper),ops[j]?=some o/\p.kd j= .e/\p.st j=m):=by
 have iY: ∀(j:Nat),ops.toList[j]?=ops[j]?:=fun j=>ary;have gy: ∀{j:Nat} {o:Oper},ops[j]?=some o->j<ops.size:=fun h=>(arP.1 h).1;have hci:kV (items tt ops.toList ms ops.toList 0 0)=kx tt ops.toList:=n7 _ _ _;have JX:kx tt ops.toList=kx tt (ops.toList.take ops.size):=by rw [ar1 ad]
 obtain⟨ps,s1,s2⟩:=rf.mX;rw [hci] at s2;have arc:d.mX.length=kx tt ops.toList+1:=by rw [s1,bc,s2]; rfl
 have ap8:d.mX.reverse[0]?=some (⟨H0.m,base+ops.size,none⟩,0):=by rw [s1]; simp
 have anN: ∀k,k<=kx tt ops.toList->∃h mm,d.mX.reverse[k]?=some (h,mm):=by
  intro k hk;have:k<d.mX.reverse.length:=by rw [as9]; omega
  exact⟨d.mX.reverse[k].1,d.mX.reverse[k].2,aN this⟩
 have hnx:=rf.nxt (by
  intro q hq;simp only [aH,arN,or_false] at hq;subst hq
  exact⟨hN,rfl⟩)
 have aki: ∀(k:Nat) (h:Hp) (mm:Nat),d.mX.reverse[k]?=some (h,mm)->h.next<=N/\h.res=none:=by intro k h mm hh;exact hnx (h,mm) (by have:=arq hh; simpa using this)
 let hpf:Nat->Hp:=fun k=>((d.mX.reverse[k]?).map (·.1)).getD ⟨.nil,0,none⟩
 let unf:Nat->Nat->Bool:=fun k a=>match d.mX.reverse[k]? with |some q=>!q.2.testBit a|none=>false
 let bff:Nat->Nat->Bool:=fun i j=>match ops[j]? with |some _=>(ms.getD j 0).testBit i|none=>false
 let kdf:Nat->Kind:=fun i=>match ops[i]? with |some o=>kindOf tt o.op|none=> .pa
 let MU:Nat->Option eL:=fun i=>(d.DU.reverse[i]?).getD none
 have hpe: ∀k h mm,d.mX.reverse[k]?=some (h,mm)->hpf k=h/\∀a,unf k a=!mm.testBit a:=by intro k h mm hh;refine⟨by simp only [hpf,hh]; rfl,fun a=>by simp only [unf,hh]⟩
 have bfe: ∀{i j:Nat} {o:Oper},ops[j]?=some o->bff i j=(ms.getD j 0).testBit i:=by intro i j o ho;simp only [bff,ho]
 have N?: ∀{j:Nat} {o:Oper},ops[j]?=some o->kdf j=kindOf tt o.op:=by intro j o ho;simp only [kdf,ho]
 have kdE: ∀{j:Nat},kdf j= .e->∃o,ops[j]?=some o/\kindOf tt o.op= .e:=by
  intro j hj
  cases ho:ops[j]? with
  |none=>simp only [kdf,ho] at hj; simp at hj
  |some o=>exact⟨o,rfl,by rw [<- N? ho]; exact hj⟩
 have Y_: ∀(k:Nat),∀(o':Oper),ops[k]?=some o'->∀b,(ms.getD k 0).testBit b=true->b<k:=by
  intro k
  induction k using Nat.strongRecOn with
  |_ k ih=>
   intro o' GV b Bi;rw [sf.mask k o' (by rw [iY]; exact GV)] at Bi;obtain⟨e,e1,e2,e3⟩:=qN Bi;have e1':e∈o'.after:=by simpa using e1
   have akj:=sf.back k o' (by rw [iY]; exact GV) e e1' e2;rcases e3 with rfl|e3
   ·exact akj
   ·have:=gy GV;have:=ih e.on akj (ops[e.on]'J) ad b e3;omega
 have Y': ∀(i:Nat),∃S:Tr AV,∀(o:Oper),ops[i]?=some o->∃dp X4 v ob pre,dp.bH=S/\H8 P ρ ops base N (B4 tt ops.toList ms i o) dp v ob X4/\d.vs.reverse[i]?=some v/\d.DU.reverse[i]?=some ob/\d.mX=pre++X4.mX/\dp.mX.length=1+kx tt (ops.toList.take i)/\
  (∀q,q∈dp.iZ->q∈d.iZ)/\(∀t x,S.get t=some x->(∃p oj,p<i/\ops[p]?=some oj/\oj.dst=some t/\d.vs.reverse[p]?=some x)\/(ra.get t=some x/\∀(p:Nat) (oj:Oper),p<i->ops[p]?=some oj->oj.dst≠some t)):=by
  intro i
  cases hoi:ops[i]? with
  |none=>exact⟨.nil,fun o h=>by simp at h⟩
  |some o0=>
   have Y:(items tt ops.toList ms ops.toList 0 0)[i]?=some (B4 tt ops.toList ms i o0):=jq (by rw [iY]; exact hoi);obtain⟨dp,X4,v,ob,pre,g1,g2,g3,g4,g5,g6,g7,g8⟩:=rf.at_ i _ Y;refine⟨dp.bH,fun o ho=>?_⟩;simp only [ah] at ho;subst ho;refine⟨dp,X4,v,ob,pre,rfl,g1,by simpa using g2,by simpa using g3,g4,?_,g6,?_⟩
   ·rw [g5];congr 1
    have:(items tt ops.toList ms ops.toList 0 0).take i=items tt ops.toList ms (ops.toList.take i) 0 0:=by
     apply asp;intro j;rw [asc,kO,kO,asc];split
     ·rename_i hj;rw [List.take_take,Nat.min_eq_left J]
     ·rfl
    rw [this,n7]
   ·intro t x ht;rcases g8 t x ht with ⟨p,y,q1,q2,q3,q4⟩|⟨q1,q2⟩
    ·cases qS:ops.toList[p]? with
     |none=>rw [kO,qS] at q2; simp at q2
     |some oj=> rw [jq qS] at q2;simp at q2;subst q2;exact .inl ⟨p,oj,q1,by rw [<- iY]; exact qS,q3,by simpa using q4⟩
    ·refine .inr ⟨q1,fun p oj hp qS=>?_⟩
     have hm:B4 tt ops.toList ms p oj∈(items tt ops.toList ms ops.toList 0 0).take i:=by refine arq (i:=p) ?_;rw [asc,ag hp];exact jq (by rw [iY]; exact qS)
     exact q2 _ hm
 obtain⟨Sd,gz⟩:=Classical.skolem.1 Y'
 let Sf:Nat->Tr AV:=fun i=>match ops[i]? with
  |some o=>(match kindOf tt o.op with
   | .r=>only d.bH (reads ops.toList o)
   |_=>only (Sd i) (reads ops.toList o))
  |none=> .nil
 have SfR: ∀{i:Nat} {o:Oper},ops[i]?=some o->kindOf tt o.op= .r->Sf i=only d.bH (reads ops.toList o):=by intro i o ho hk;simp only [Sf,ho,hk]
 have SfN: ∀{i:Nat} {o:Oper},ops[i]?=some o->kindOf tt o.op≠.r->Sf i=only (Sd i) (reads ops.toList o):=by
  intro i o ho hk;have:Sf i=(match kindOf tt o.op with | .r=>only d.bH (reads ops.toList o)|_=>only (Sd i) (reads ops.toList o)):=by simp only [Sf,ho]
  rw [this]
  cases hh:kindOf tt o.op with
  |r=>exact absurd hh hk
  |pa=>rfl
  |e=>rfl
 have aei: ∀a b,(a,b)∈d.iZ->MU a=some b:=by
  intro a b Sy;rcases rf.oe a b Sy with h|⟨p,x,g1,g2,g3⟩
  ·simp at h
  ·cases ho:ops.toList[p]? with
   |none=>rw [kO,ho] at g1; simp at g1
   |some o=> rw [jq ho] at g1;simp at g1;subst g1;have:p=a:=g2;subst this;simp only [bj,aK] at g3;simp only [MU,g3,ay]
 have aoa: ∀a b,MU a=some b->(a,b)∈d.iZ:=by
  intro a b Sy
  have uP:d.DU.reverse[a]?=some (some b):=by
   simp only [MU] at Sy
   cases hh:d.DU.reverse[a]? with
   |none=>rw [hh] at Sy; simp at Sy
   |some x=>rw [hh] at Sy; simp at Sy; rw [Sy]
  obtain⟨po,o1,o2⟩:=rf.DU
  have hal:a<ops.size:=by have U:=(bg.1 uP).1;rw [as9,o1,bh,o2,uI] at U;simpa using U
  have Y:(items tt ops.toList ms ops.toList 0 0)[a]?=some (B4 tt ops.toList ms a ops[a]):=jq (by rw [iY]; simp [hal]);exact rf.aqO a _ b Y (by simpa using uP)
 refine⟨{
  base:=base,bf:=bff,kd:=kdf,S:=Sf,val:=fun i=>(d.vs.reverse[i]?).getD .vL,st:=fun i=>kx tt (ops.toList.take i),nE:=kx tt ops.toList,hp:=hpf,un:=unf,oe:=MU,
  gen:=?_,back:=?_,dst:=?_,bH:=?_,stl:=?_,inj:=?_,amH:=?_,pa:=?_,ev:=?_,rd:=?_,unm:=?_,nob:=?_,first:=?_ },rfl,rfl,fun i=>rfl,hpe,fun i=>rfl,?_⟩
 ·intro i j h
  cases ho:ops[j]? with
  |none=>simp only [bff,ho] at h; simp at h
  |some o=>
   rw [bfe ho,sf.mask j o (by rw [iY]; exact ho)] at h;obtain⟨e,e1,e2,e3⟩:=qN h;have e1':e∈o.after:=by simpa using e1
   refine⟨o,e,rfl,e1',e2,e3.imp id fun h3=>?_⟩;have hl:=sf.back j o (by rw [iY]; exact ho) e e1' e2;have hj:=gy ho;rw [bfe (o:=ops[e.on]'J) ad];exact h3
 ·intro j o ho e he Bi;exact sf.back j o (by rw [iY]; exact ho) e he Bi
 ·intro i j oi oj dd hi hj U Z;exact sf.dst i j oi oj dd (by rw [iY]; exact hi) (by rw [iY]; exact hj) U Z
 ·intro i o ho t x ht
  cases hk:kindOf tt o.op with
  |r=>
   rw [SfR ho hk] at ht;obtain⟨U,Z⟩:=AS ht;rcases rf.slot t x Z with ⟨p,y,g1,g2,g3⟩|⟨g1,g2⟩
   ·cases qS:ops.toList[p]? with
    |none=>rw [kO,qS] at g1; simp at g1
    |some oj=>
     rw [jq qS] at g1;simp at g1;subst g1;have hp:ops[p]?=some oj:=by rw [<- iY]; exact qS
     refine .inl ⟨p,oj,?_,hp,g2,?_⟩
     ·rw [bfe ho];rcases sf.rd i o (by rw [iY]; exact ho) t U p oj qS g2 with h|⟨h,_⟩
      ·exact h
      ·exact absurd hk h
     ·simp only [bj,aK] at g3;simp only [g3,ay]
   ·refine .inr ⟨g1,fun j oj qS V=>?_⟩;exact absurd V (g2 _ (arq (jq (by rw [iY]; exact qS))))
  |_=>
   rw [SfN ho (by rw [hk]; simp)] at ht;obtain⟨U,Z⟩:=AS ht;obtain⟨dp,X4,v,ob,pre,_,_,_,_,_,_,_,g8⟩:=gz i o ho;rcases g8 t x Z with ⟨p,oj,q1,q2,q3,q4⟩|⟨q1,q2⟩
   ·refine .inl ⟨p,oj,?_,q2,q3,by rw [q4]; rfl⟩;rw [bfe ho];rcases sf.rd i o (by rw [iY]; exact ho) t U p oj (by rw [iY]; exact q2) q3 with h|⟨_,h⟩
    ·exact h
    ·have:=Y_ p oj q2 i h;omega
   ·refine .inr ⟨q1,fun j oj qS V=>?_⟩;rw [bfe qS];rcases sf.rd i o (by rw [iY]; exact ho) t U j oj (by rw [iY]; exact qS) V with h|⟨_,h⟩
    ·exact absurd V (q2 j oj (Y_ i o ho j h) qS)
    ·exact h
 ·intro j o ho hk;rw [N? ho] at hk;rw [JX];exact MQ (by rw [iY]; exact ho) hk (gy ho)
 ·intro i j hi hj he;obtain⟨oi,hoi,hki⟩:=kdE hi;obtain⟨oj,qS,hkj⟩:=kdE hj;rcases as7 i j with h|h|h
  ·have:=MQ (tt:=tt) (l:=ops.toList) (by rw [iY]; exact hoi) hki h;omega
  ·exact h
  ·have:=MQ (tt:=tt) (l:=ops.toList) (by rw [iY]; exact qS) hkj h;omega
 ·intro j o ho hk m hm;obtain⟨i,oi,U,Z,h3,h4⟩:=yu hm;rw [N? ho] at hk;have h2':ops[i]?=some oi:=by rw [<- iY]; exact Z
  refine⟨i,by rw [N? h2']; exact h3,h4,?_⟩;rw [bfe ho];exact sf.tot i j oi o Z (by rw [iY]; exact ho) h3 hk U
 ·intro i o ho hk;rw [N? ho] at hk;obtain⟨dp,X4,v,ob,pre,hdp,hF,g2,g3,g4,g5,g6,g7⟩:=gz i o ho;obtain⟨h0,mm,rest,hs,hF⟩:=hF;simp only [B4,hk] at hF;obtain⟨_,HA,f1,f2,f3⟩:=hF;rw [hdp] at f1;refine⟨HA,N,?_,f2,?_,?_⟩
  ·rw [SfN ho (by rw [hk]; simp)];simp only [g2,ay];exact f1
  ·simp only [MU,g3,ay];exact f3
  ·intro k D7;obtain⟨Z,mm2,hh⟩:=anN k D7;rw [(hpe _ _ _ hh).1];exact (aki _ _ _ hh).1
 ·intro j o ho hk;rw [N? ho] at hk;obtain⟨dp,X4,v,ob,pre,hdp,hF,g2,g3,g4,g5,g6,g7⟩:=gz j o ho;obtain⟨h0,mm,rest,hs,hF⟩:=hF;simp only [B4,hk] at hF;obtain⟨_,hn,f1,f2,f3,f4⟩:=hF;rw [hdp] at f4;rw [f1,hs] at g4;have hrl:rest.length=kx tt (ops.toList.take j):=by rw [hs] at g5; simp at g5; omega
  obtain⟨r1,r2⟩:=adJ g4;rw [hrl] at r1 r2;obtain⟨p1,p2⟩:=hpe _ _ _ r1;obtain⟨p3,p4⟩:=hpe _ _ _ r2;refine⟨gq base (ms.getD j 0) mm dp.iZ h0,?_,?_,?_,?_,?_⟩
  ·rw [SfN ho (by rw [hk]; simp)];simp only [g2,ay,p3];exact f4
  ·rw [(ky _ _).1,p1]
  ·rw [(ky _ _).2];exact (aki _ _ _ r1).2
  ·intro id x Y;rcases p7 Y with h|⟨a,a1,a2,a3,a4⟩
   ·left; rw [p1]; exact h
   ·right;exact⟨a,by rw [bfe ho]; exact a2,by rw [p2,a3]; rfl,a4,aei a x (g6 _ a1)⟩
  ·intro a ha;rw [p4] at ha;simp only [Nat.testBit_or,Bool.not_or,an,arR] at ha;refine⟨by rw [p2,ha.1]; rfl,?_⟩;rw [bfe ho];exact ha.2
 ·intro i o ho hk k hkn U Z;rw [N? ho] at hk;have XI:B4 tt ops.toList ms i o∈items tt ops.toList ms ops.toList 0 0:=arq (jq (by rw [iY]; exact ho))
  obtain⟨v,g1,g2⟩:=Sn (B4 tt ops.toList ms i o,Ct (items tt ops.toList ms ops.toList 0 0) (kx tt ops.toList) (B4 tt ops.toList ms i o)) (by
   rw [aR]
   exact⟨_,arW.2 ⟨XI,by simp [B4,hk,Kind.isR]⟩,rfl⟩)
  have VA:k∈Ct (items tt ops.toList ms ops.toList 0 0) (kx tt ops.toList) (B4 tt ops.toList ms i o):=by
   unfold Ct;rw [arW,arE];refine⟨J,aP.2 fun y hy=>?_⟩;obtain⟨j,oj,qS,rfl⟩:=JS hy;have aeh:ops[j]?=some oj:=by rw [<- iY]; exact qS
   cases hkj:kindOf tt oj.op with
   |pa=>simp [B4,hkj,Kind.isE]
   |r=>simp [B4,hkj,Kind.isE]
   |e=>
    simp only [B4,hkj,Kind.isE,asv,asf,an,arQ,arR,decide_eq_true_eq];constructor
    ·cases akq:(ms.getD i 0).testBit j with
     |false=>exact .inl rfl
     |true=>exact .inr (U j (by rw [N? aeh]; exact hkj) (by rw [bfe ho]; exact akq))
    ·cases akq:(ms.getD j 0).testBit i with
     |false=>exact .inl rfl
     |true=>exact .inr (Z j oj aeh (by rw [N? aeh]; exact hkj) (by rw [bfe aeh]; exact akq))
  obtain⟨h0,mm,g3,g4⟩:=g2 k VA;obtain⟨p1,p2⟩:=hpe _ _ _ g3;refine⟨gq base (ms.getD i 0) mm d.iZ h0,?_,?_,?_,?_⟩
  ·have g1':d.vs.reverse[i]?=some v:=g1;rw [SfR ho hk];simp only [g1',ay];exact g4
  ·rw [(ky _ _).1,p1]
  ·rw [(ky _ _).2];exact (aki _ _ _ g3).2
  ·intro id x Y;rcases p7 Y with h|⟨a,a1,a2,a3,a4⟩
   ·left; rw [p1]; exact h
   ·right;exact⟨a,by rw [bfe ho]; exact a2,by rw [p2,a3]; rfl,a4,aei a x a1⟩
 ·intro k a x hk Y hu;obtain⟨h0,mm,hh⟩:=anN k hk;obtain⟨p1,p2⟩:=hpe _ _ _ hh;rw [p1];rw [p2] at hu;unfold KL at hun;have:=aP.1 hun _ (aoa a x Y)
  have:=aP.1 this (h0,mm) (by
   have:=arq hh
   simpa using this)
  simp only [arQ,Option.isNone_iff_eq_none] at this;simp only [arR] at hu;rcases this with h|h
  ·rw [hu] at h; simp at h
  ·exact h
 ·intro i hk
  cases ho:ops[i]? with
  |none=>
   obtain⟨po,o1,o2⟩:=rf.DU
   have Vx:d.DU.reverse[i]?=none:=by rw [ass,as9,o1,bh,o2,uI];have:=ato.1 ho;simpa using this
   simp only [MU,Vx,ar2]
  |some o=>
   obtain⟨dp,X4,v,ob,pre,hdp,hF,g2,g3,g4,g5,g6,g7⟩:=gz i o ho;obtain⟨h0,mm,rest,hs,hF⟩:=hF;rw [N? ho] at hk
   cases zT:kindOf tt o.op with
   |pa=>exact absurd zT hk
   |e=> simp only [B4,zT] at hF;simp only [MU,g3,ay,hF.1]
   |r=> simp only [B4,zT] at hF;simp only [MU,g3,ay,hF.1]
 ·have:=(hpe 0 _ _ ap8).1;refine⟨hb,by rw [this]; exact ax _,fun id x h=>?_⟩;rw [this] at h;exact h
 ·intro m hm;have YL:m<kx tt (ops.toList.take ops.size):=by rw [<- JX]; exact hm
  obtain⟨i,oi,U,Z,h3,h4⟩:=yu YL;have h2':ops[i]?=some oi:=by rw [<- iY]; exact Z
  exact⟨i,oi,h2',by show kdf i=_; rw [N? h2']; exact h3,h4⟩
end
section
variable {P:Program}
theorem HB [bS] {tt:TT} (db:fj P tt) {call:eP} (hc:jh P call) {ops:Array Oper} {E:En} {s s':St} {a:Act} {w:World} {Q:Exit->Act->World->Prop}
 (V: ∀o∈ops.toList,∀d,o.dst=some d->d<a.tmps.size) (fit:Fit E s a w) (h:(draw tt call ops.toList s).leaf E.ρ=some s') (hq: ∀a' w',oo E s a w s' a' w'->Q .normal a' w') :
 wpAny P .any ops Q ops.size (Array.replicate ops.size false) a { w with drawn:=w.drawn+1 }:=by
 unfold draw HC at h;split at h
 ·simp [T.leaf] at h
 ·rename_i q hq0;split at h
  ·simp [T.leaf] at h
  ·rename_i tQ;simp only at h;obtain⟨⟨j3,d⟩,U,Z⟩:=T.fV h;simp only at Z;obtain⟨ms,e1,e2,e3,sf⟩:=adw hq0;rw [e1,] at U;have rf:=V4 db hc _ fit.pc U;have jH:=V1 _ fit.pc U;split at Z
   ·simp [T.leaf] at Z
   ·rename_i h0 mm rest ap7;obtain⟨qA,h3,h4⟩:=T.fV Z;split at h4
    ·rename_i hun;have:=bC h4;subst this
     have anP:=Jl db hc q.rs jH (by
      intro r hr;rw [e3,aR] at hr;obtain⟨x,Y,rfl⟩:=hr;rw [arW,e1] at Y;obtain⟨j,o,ho,rfl⟩:=JS Y.1;have h5:(kindOf tt o.op).isR=true:=Y.2;show kindOf tt o.op= .r;revert h5
      cases kindOf tt o.op<;>simp [Kind.isR]) h3
     have pI:=anP.1;have Sn:=anP.2;rw [e3,e1,e2] at Sn;obtain⟨p,p1,p2,p3,p4,p5,p6⟩:=adP sf (base:=s.h.next) (H0:=s.h) rfl (Nat.le_add_right _ _) rf Sn hun;have iY: ∀(j:Nat),ops.toList[j]?=ops[j]?:=fun j=>ary;let w1:World:={ w with drawn:=w.drawn+1 };have aqG:Fit E s a w1:=⟨⟨fit.rel.fresh,fit.rel.res,fit.rel.live,fit.rel.inj,fit.rel.wE,fit.rel.mE⟩,fit.sr,fit.pc⟩
     have an0: ∀(i:Nat),(Array.replicate ops.size false)[i]?≠some true:=by
      intro i hh
      grind
     refine p.any (E0:=E) (a0:=a) (w0:=w1) V ?_ ops.size _ a w1 ad ?_ (p.start rfl rfl rfl aqG _ an0)
     ·intro a' w' inv;obtain⟨ps,s1,s2⟩:=rf.mX;rw [n7] at s2
      have hlen:rest.length=kx tt ops.toList:=by
       have:d.mX.length=kx tt ops.toList+1:=by rw [s1,bc,s2]; rfl
       grind
      have agu:d.mX.reverse[kx tt ops.toList]?=some (h0,mm):=by
       grind
      obtain⟨q1,q2⟩:=p4 _ _ _ agu
      have hnx:=rf.nxt (by
       intro q hq;simp only [aH,arN,or_false] at hq;subst hq
       exact⟨Nat.le_add_right _ _,rfl⟩) (h0,mm) (by rw [ap7]; simp)
      have ht:=p.finish (s0:=s) (s':=⟨d.bH,gq s.h.next ((1 <<<ops.toList.length)-1) mm d.iZ h0,qA⟩) (w0:=w1) rfl inv pI ?_ ?_ ?_ ?_ p6
      ·refine hq a' w' ⟨ht.defers,ht.size,?_⟩;obtain⟨E',st,f'⟩:=ht.step;exact⟨E',⟨st.ρ,st.dm,st.θ,st.κ,st.ro,st.DJ,st.nxm,st.rsm,st.dmn,st.os,st.tape,st.output,st.size,st.dv,st.own⟩,f'⟩
      ·intro t x ht;rcases rf.slot t x ht with ⟨j,y,g1,g2,g3⟩|⟨g1,g2⟩
       ·cases qS:ops.toList[j]? with
        |none=>rw [kO,qS] at g1; simp at g1
        |some oj=>
         rw [jq qS] at g1;simp at g1;subst g1;refine .inl ⟨j,oj,by rw [<- iY]; exact qS,g2,?_⟩
         grind
       ·refine .inr ⟨g1,fun j oj qS=>?_⟩;exact g2 _ (arq (jq (by rw [iY]; exact qS)))
      ·intro id x Y;rw [p2,q1,p1];rcases p7 Y with h|⟨b,b1,b2,b3,b4⟩
       ·grind
       ·right
        have gy:b<ops.size:=by
         have:=WW b2
         grind
        refine⟨b,gy,by rw [q2,b3]; rfl,b4,?_⟩;rcases rf.oe b x b1 with h|⟨j,y,g1,g2,g3⟩
        ·grind
        ·cases qS:ops.toList[j]? with
         |none=>rw [kO,qS] at g1; simp at g1
         |some oj=>
          rw [jq qS] at g1;simp at g1;subst g1;have:j=b:=g2
          grind
      ·rw [p2,q1];exact (ky _ _).1.symm
      ·show (gq s.h.next ((1 <<<ops.toList.length)-1) mm d.iZ h0).res=none;rw [(ky _ _).2]
       grind
     ·have: ∀(l:Nat->Bool) (n:Nat),left l n<=n:=by
       intro l n
       induction n with
       |zero=>exact ax _
       |succ n ih=>simp only [left]; split<;>omega
      grind
    ·simp [T.leaf] at h4
theorem aeH [bS] {tt:TT} (db:fj P tt) (hm:P.follows .mixedOrders=true) {call:eP} (hc:jh P call):ae3 P (draw tt call):=by intro id ops E s s' a w Q V fit h hq;exact wp_region_any hm (HB db hc V fit h hq)
end
end Go.As
end
section
namespace Go.As
noncomputable section
open Go.RowKit
section
variable {P:Program}
def En.zero (ρ:Nat->Int) (ro:Nat->Prop):En:={ ρ:=ρ,θ:=fun _=>(0,0),κ:=fun _=>0,dm:=fun _=>False,ro:=ro }
def Hp.zero:Hp:=⟨.nil,0,none⟩
theorem Nu [bS] (ρ:Nat->Int) (ro:Nat->Prop) (w:World) (h: ∀b,ro b->b<w.heap.size) (hg:bS.ok ρ ro w.heap):ca (En.zero ρ ro) Hp.zero w:=
 ⟨fun _ _ h=>h,by simp [Hp.zero],fun id o h=>by simp [Hp.zero,Hp.get,Tr.get] at h,fun id _ o _ h=>by simp [Hp.zero,Hp.get,Tr.get] at h,h,hg⟩
theorem fP.below {E E':En} {H':Hp} {w w':World} (s:fP E Hp.zero w E' H' w'):Below w.heap.size w w':=
 ⟨s.os,s.tape,s.output,s.size,fun k hk=>s.dv k hk fun id o h=>by simp [Hp.zero,Hp.get,Tr.get] at h⟩
theorem BQ [bS] {g:FuncId} {f:List AV->St->T (AV×St)} (hf:lr P g f) {fn:Func} (vV:P.funcs[g]?=some fn) (my:(fn.name == "runtime.NumGoroutine")=false) {c:Code} (EF:fn.body=some c)
 {ρ:Nat->Int} {ro:Nat->Prop} {w:World} (pH: ∀b,ro b->b<w.heap.size) (hg:bS.ok ρ ro w.heap) {args:List AV} {vals:List Value} (hv:cL (En.zero ρ ro) w.heap args vals) {v:AV} {s':St}
 (h:(f args ⟨.nil,Hp.zero,[]⟩).leaf ρ=some (v,s')):Calls P g vals.toArray w fun e w'=> ∃u E',e= .returned u/\VR E' w'.heap v u/\E'.ρ=ρ/\Below w.heap.size w w':=by
 obtain⟨_,_,h3⟩:=hf args ⟨.nil,Hp.zero,[]⟩ (En.zero ρ ro) w vals v s' (Nu ρ ro w pH hg) hv (by simp [cD]) h
 have mR:(callFunc g vals.toArray).run P w= .ok (.enter g vals.toArray) w:=by unfold callFunc;simp [vV,EF,by simpa using my]
 unfold mJ p8 at h3;rw [mR] at h3;exact Calls.mono h3 fun e w' ⟨u,he,E',st,_,hv⟩=> ⟨u,E',he,hv,st.ρ,st.below⟩
end
end
end Go.As
end
section
namespace Go.As
noncomputable section
open Go.RowKit
mutual
def iU:AV->Bool
 | .bool (.lit _)=>true
 | .int _ (.lit _)=>true
 | .str _=>true
 | .vL=>true
 | .fA=>true
 | .uF=>true
 | .yD=>true
 | .zL=>true
 | .iface _ v=>iU v
 | .agg cs=>pY cs
 | .tuple cs=>pY cs
 | .func _ fs cs=>pY fs&&pY cs
 |_=>false
def pY:List AV->Bool
 |[]=>true
 |x::xs=>iU x&&pY xs
end
section
variable {P:Program}
mutual
theorem yy {E E':En} {h h':Array Obj}: ∀(x:AV) (u:Value),iU x=true->VR E h x u->VR E' h' x u
 | .bool b,u,hc,hv=>by cases b<;>simp [iU] at hc; simpa [VR,SB.den] using hv
 | .int k e,u,hc,hv=>by cases e<;>simp [iU] at hc; simpa [VR,W.den] using hv
 | .str s,u,_,hv=>by simp only [VR] at *; exact hv
 | .vL,u,_,hv=>by simp only [VR] at *; exact hv
 | .fA,u,_,hv=>by simp only [VR] at *; exact hv
 | .uF,u,_,hv=>by simp only [VR] at *; exact hv
 | .yD,u,_,hv=>by simp only [VR] at *; exact hv
 | .zL,u,_,hv=>by simp only [VR] at *; exact hv
 | .iface t x,u,hc,hv=>by simp only [VR,iU] at *;obtain⟨y,U,Z⟩:=hv;exact⟨y,U,yy x y hc Z⟩
 | .agg cs,u,hc,hv=>by simp only [VR,iU] at *;obtain⟨us,U,Z⟩:=hv;exact⟨us,U,oV cs us hc Z⟩
 | .tuple cs,u,hc,hv=>by simp only [VR,iU] at *;obtain⟨us,U,Z⟩:=hv;exact⟨us,U,oV cs us hc Z⟩
 | .func fn fs cs,u,hc,hv=>by simp only [VR,iU,an] at *;obtain⟨us,ws,U,Z,h3⟩:=hv;exact⟨us,ws,U,oV fs us hc.1 Z,oV cs ws hc.2 h3⟩
 | .ptr _ _,_,hc,_=>by simp [iU] at hc
 | .oF _,_,hc,_=>by simp [iU] at hc
 | .slice _ _ _ _,_,hc,_=>by simp [iU] at hc
 | .ro _ _ _,_,hc,_=>by simp [iU] at hc
 | .map _,_,hc,_=>by simp [iU] at hc
 | .N6 _,_,hc,_=>by simp [iU] at hc
 | .yU _ _,_,hc,_=>by simp [iU] at hc
theorem oV {E E':En} {h h':Array Obj}: ∀(xs:List AV) (us:List Value),pY xs=true->cL E h xs us->cL E' h' xs us
 |[],us,_,hv=>by simp only [cL] at *; exact hv
 |x::xs,us,hc,hv=>by simp only [cL,pY,an] at *;obtain⟨u,vs,U,Z,h3⟩:=hv;exact⟨u,vs,U,yy x u hc.1 Z,oV xs vs hc.2 h3⟩
end
theorem yA [bS] {E:En} {H:Hp} {w w':World} (r:ca E H w) (b:Below w.heap.size w w'):fP E H w E H w'/\ca E H w':=by have hk:lj E w.heap E w'.heap:=⟨rfl,fun _ h=>h,fun _ _=>rfl,fun _ _=>rfl,fun _ h=>h,fun x Y=>b.block x (r.wE x Y)⟩;refine⟨⟨rfl,fun _ h=>h,fun _ _=>rfl,fun _ _=>rfl,fun _ h=>h,fun _ h=> .inl h,ax _,.inr rfl,fun _ h=> .inl h,b.os,b.tape,b.output,b.size,fun x Y _=>b.block x Y,fun id o h _=> ⟨id,o,h,rfl⟩⟩,r.fresh,r.res,fun id o h=>?_,r.inj,fun x Y=>arV (r.wE x Y) b.size,bS.dv r.mE hk.ro hk.F4⟩;obtain⟨U,Z,h3⟩:=r.live id o h;exact⟨U,Z.dv hk U (b.block _ (iH r h)),h3⟩
def Iv (args:List AV) (v:AV):List AV->St->T (AV×St):=fun arp s=>if jn arp args then .ret (v,s) else .fail
def JZ (args:List AV) (v:AV) (f:List AV->St->T (AV×St)):Bool:=
 pY args&&iU v&&(match f args ⟨.nil,Hp.zero,[]⟩ with | .ret (u,_)=>fq u v|_=>false)
theorem Fc [bS] {g:FuncId} {f:List AV->St->T (AV×St)} (hf:lr P g f) {fn:Func} (vV:P.funcs[g]?=some fn) (my:(fn.name == "runtime.NumGoroutine")=false) {c:Code} (hb:fn.body=some c)
 {args:List AV} {v:AV} (h:JZ args v f=true):lr P g (Iv args v):=by
 intro arp s E w vals u s' r hv hp hl;unfold Iv at hl;split at hl
 ·rename_i hs;have:=bC hl;simp only [ak] at this;obtain⟨rfl,rfl⟩:=this;rw [gE _ _ hs] at hv;unfold JZ at h;simp only [an] at h;obtain⟨⟨U,Z⟩,h3⟩:=h;split at h3
  ·rename_i u' s1 mR;have hu:=lP _ _ h3;subst hu;have hc:=BQ hf vV my hb (ρ:=E.ρ) (ro:=E.ro) (w:=w) r.wE r.mE (oV args vals U hv) (v:=u') (s':=s1) (by rw [mR]; rfl);refine⟨rfl,hp,?_⟩
   have mR:(callFunc g vals.toArray).run P w= .ok (.enter g vals.toArray) w:=by unfold callFunc;simp [vV,hb,by simpa using my]
   unfold mJ p8;rw [mR];exact Calls.mono hc fun e w' ⟨x,E',he,Y,_,od⟩=> ⟨x,he,E,(yA r od).1,(yA r od).2,yy u' x Z Y⟩
  grind
 ·simp [T.leaf] at hl
def orElse (f g:List AV->St->T (AV×St)):List AV->St->T (AV×St):=fun arp s=>match f arp s with | .fail=>g arp s|x=>x
theorem tG [bS] {id:FuncId} {f g:List AV->St->T (AV×St)} (hf:lr P id f) (hg:lr P id g):lr P id (orElse f g):=by
 intro arp s E w vals u s' r hv hp hl;unfold orElse at hl;split at hl
 ·exact hg arp s E w vals u s' r hv hp hl
 ·exact hf arp s E w vals u s' r hv hp hl
end
end
end Go.As
end
section
namespace Go.As
noncomputable section
open Go.RowKit
section
variable {P:Program}
theorem yn {g:FuncId} {fn:Func} {e:Array Value->Sem Value} (hf:P.funcs[g]?=some fn) (my:(fn.name == "runtime.NumGoroutine")=false) (hb:fn.body.isNone=true) (hn:Extern.findNext fn=none) (he:Extern.find fn=some e)
 {args:Array Value} {w:World} {u:Value} (hr:(e args).run P w= .ok u w):(callFunc g args).run P w= .ok (.value u) w:=by
 have EF:fn.body=none:=by simpa using hb
 unfold callFunc;simp [hf,EF,by simpa using my,hn,he,hr]
def HO (c:Nat):List Nat->Nat
 |[]=>0
 |x::xs=>if x.beq c then HO c xs+1 else HO c xs
def C1:List AV->St->T (AV×St):=fun args s=>match args with
 |[.str b,.int .u8 (.lit (.ofNat c))]=>if c<256 then .ret (.int .i64 (.lit (Int.ofNat (HO c b))),s) else .fail
 |_=> .fail
theorem KP {a b:Nat} (ha:a<256) (hb:b<256):(UInt8.ofNat a == UInt8.ofNat b)=a.beq b:=by
 rw [arM];simp only [beq_iff_eq,Nat.beq_eq];constructor
 ·intro h;have:=congrArg UInt8.toNat h;simp only [arX] at this;omega
 grind
theorem Kr {c:Nat} (hc:c<256): ∀{s:List Nat},(∀b∈s,b<256)->Lib.countByte (s.map UInt8.ofNat) (UInt8.ofNat c)=HO c s
 |[],_=>rfl
 |x::xs,h=>by
  have ih:=Kr hc (s:=xs) fun b hb=>h b (by simp [hb]);unfold Lib.countByte at *;rw [aA,List.count_cons,ih,KP (h x ad) hc];simp only [HO]
  grind
theorem acw [bS] {g:FuncId} {fn:Func} (hf:P.funcs[g]?=some fn) (my:(fn.name == "runtime.NumGoroutine")=false) (hb:fn.body.isNone=true) (hn:Extern.findNext fn=none) (he:Extern.find fn=some Extern.BytealgCount.count):lr P g C1:=by
 intro arp s E w vals u s' r hv hp hl;unfold C1 at hl;split at hl
 ·rename_i b c;split at hl
  ·rename_i hc;have:=bC hl;simp only [ak] at this;obtain⟨rfl,rfl⟩:=this;simp only [cL,VR,W.den] at hv;obtain⟨u1,r1,rfl,⟨rfl,P9⟩,u2,r2,rfl,rfl,rfl⟩:=hv;refine⟨rfl,hp,?_⟩;unfold mJ p8;rw [yn hf my hb hn he (Lib.run_countString (dF b) (Int.ofNat c) w)];refine⟨E,fP.refl _ _ _,r,?_⟩;simp only [VR,W.den];have:(Int.ofNat c).toNat.toUInt8=UInt8.ofNat c:=rfl;rw [this];have Z:(dF b).data.toList=b.map UInt8.ofNat:=by simp [dF]
   rw [Z,Kr hc P9];rfl
  ·simp [T.leaf] at hl
 ·simp [T.leaf] at hl
def GO (c:Nat):List Nat->Int
 |[]=> -1
 |x::xs=>if x.beq c then 0 else match GO c xs with
  | .ofNat n=> .ofNat (n+1)
  | .negSucc n=> .negSucc n
def C0:List AV->St->T (AV×St):=fun args s=>match args with
 |[.str b,.int .u8 (.lit (.ofNat c))]=>if c<256 then .ret (.int .i64 (.lit (GO c b)),s) else .fail
 |_=> .fail
theorem JU {c:Nat} (hc:c<256): ∀{s:List Nat},(∀b∈s,b<256)->Lib.indexByte (s.map UInt8.ofNat) (UInt8.ofNat c)=GO c s
 |[],_=>rfl
 |x::xs,h=>by
  have ih:=JU hc (s:=xs) fun b hb=>h b (by simp [hb]);have XJ:=Lib.indexByte_ge (xs.map UInt8.ofNat) (UInt8.ofNat c);simp only [aA,Lib.indexByte,GO];rw [KP (h x ad) hc];cases x.beq c
  ·simp only [aQ,if_false];rw [ih] at XJ ⊢
   cases hi:GO c xs with
   |ofNat n=>rw [hi] at XJ; simp
   |negSucc n=>
    grind
  ·rfl
theorem R_ [bS] {g:FuncId} {fn:Func} (hf:P.funcs[g]?=some fn) (my:(fn.name == "runtime.NumGoroutine")=false) (hb:fn.body.isNone=true) (hn:Extern.findNext fn=none) (he:Extern.find fn=some Extern.BytealgIndexByte.indexByte):lr P g C0:=by
 intro arp s E w vals u s' r hv hp hl;unfold C0 at hl;split at hl
 ·rename_i b c;split at hl
  ·rename_i hc;have:=bC hl;simp only [ak] at this;obtain⟨rfl,rfl⟩:=this;simp only [cL,VR,W.den] at hv;obtain⟨u1,r1,rfl,⟨rfl,P9⟩,u2,r2,rfl,rfl,rfl⟩:=hv;refine⟨rfl,hp,?_⟩;unfold mJ p8;rw [yn hf my hb hn he (Lib.run_indexByteString (dF b) (Int.ofNat c) w)];refine⟨E,fP.refl _ _ _,r,?_⟩;simp only [VR,W.den];have:(Int.ofNat c).toNat.toUInt8=UInt8.ofNat c:=rfl;rw [this];have Z:(dF b).data.toList=b.map UInt8.ofNat:=by simp [dF]
   rw [Z,JU hc P9]
  ·simp [T.leaf] at hl
 ·simp [T.leaf] at hl
def NW:List Nat->List Nat->Bool
 |[],_=>true
 |_::_,[]=>false
 |a::x,b::y=>if a.beq b then NW x y else false
def Aw (c:List Nat):List Nat->Bool
 |[]=>NW c []
 |b::bs=>if NW c (b::bs) then true else Aw c bs
def uO:List AV->St->T (AV×St):=fun args s=>match args with
 |[.str b,.str c]=>if b.length<4294967281 then .ret (.bool (.lit (Aw c b)),s) else .fail
 |_=> .fail
theorem UK: ∀{c s:List Nat},(∀b∈c,b<256)->(∀b∈s,b<256)->(c.map UInt8.ofNat).isPrefixOf (s.map UInt8.ofNat)=NW c s
 |[],_,_,_=>by simp [NW]
 |_::_,[],_,_=>by simp [NW]
 |a::x,b::y,hc,hs=>by
  have ih:=UK (c:=x) (s:=y) (fun z hz=>hc z (by simp [hz])) (fun z hz=>hs z (by simp [hz]));simp only [aA,List.isPrefixOf,NW];rw [KP (hc a ad) (hs b ad),ih]
  grind
theorem index_ge (sub:List UInt8): ∀l:List UInt8,-1<=Lib.index l sub
 |[]=>by unfold Lib.index; split<;>omega
 |b::l=>by
  have ih:=index_ge sub l;unfold Lib.index
  grind
theorem FB {c:List Nat} (hc: ∀b∈c,b<256): ∀{s:List Nat},(∀b∈s,b<256)->Lib.contains (s.map UInt8.ofNat) (c.map UInt8.ofNat)=Aw c s
 |[],_=>by cases c<;>simp [Lib.contains,Lib.index,Aw,NW]
 |b::bs,h=>by
  have ih:=FB hc (s:=bs) fun z hz=>h z (by simp [hz]);have hp:=UK hc h;simp only [aA] at hp;unfold Lib.contains at *;simp only [aA,Lib.index,Aw]
  grind
theorem Pt [bS] {g:FuncId} (hg: ∀(ρ:Nat->Int) (ro:Nat->Prop) (w:World),bS.ok ρ ro w.heap->∀s sub:ByteArray,s.size<4294967281->Calls P g #[.string s,.string sub] w fun e w'=>e= .returned (.bool (Lib.contains s.data.toList sub.data.toList))/\w'=w)
 (mR: ∀(args:Array Value) (w:World),(callFunc g args).run P w= .ok (.enter g args) w):lr P g uO:=by
 intro arp s E w vals u s' r hv hp hl;unfold uO at hl;split at hl
 ·rename_i b c;split at hl
  ·rename_i hlen;have:=bC hl;simp only [ak] at this;obtain⟨rfl,rfl⟩:=this;simp only [cL,VR] at hv;obtain⟨u1,r1,rfl,⟨rfl,P9⟩,u2,r2,rfl,⟨rfl,Su⟩,rfl⟩:=hv;refine⟨rfl,hp,?_⟩;unfold mJ p8;rw [mR];refine Calls.mono (hg E.ρ E.ro w r.mE (dF b) (dF c) (by simpa [dF,ByteArray.size] using hlen)) fun e w' ⟨he,hw⟩=>?_;subst hw;refine⟨_,he,E,fP.refl _ _ _,r,?_⟩;simp only [VR,SB.den];have Z: ∀l:List Nat,(dF l).data.toList=l.map UInt8.ofNat:=by intro l; simp [dF]
   rw [Z,Z,FB Su P9]
  ·simp [T.leaf] at hl
 ·simp [T.leaf] at hl
end
end
end Go.As
end
section
namespace Go.As
noncomputable section
structure Ew where
 m:Nat
 k:Kind
 st:Nat
 rd:List Nat
structure PS where
 is:List Ew
 nE:Nat
 rs:List (Nat×List Nat)
def R6:Kind->Kind->Bool
 | .pa,.pa=>true
 | .e,.e=>true
 | .r,.r=>true
 |_,_=>false
def zK:List Nat->List Nat->Bool
 |[],[]=>true
 |a::x,b::y=>Nat.beq a b&&zK x y
 |_,_=>false
def CA:List Item->List Ew->Bool
 |[],[]=>true
 |x::xs,d::ds=>Nat.beq x.m d.m&&R6 x.k d.k&&Nat.beq x.st d.st&&zK x.rd d.rd&&CA xs ds
 |_,_=>false
def Cy:List (Item×List Nat)->List (Nat×List Nat)->Bool
 |[],[]=>true
 |(x,ks)::xs,(i,js)::ys=>Nat.beq x.i i&&zK ks js&&Cy xs ys
 |_,_=>false
def Ce:Nat->List Oper->List Ew->List Item
 |i,o::os,d::ds=> ⟨i,o,d.m,d.k,d.st,d.rd⟩ ::Ce (i+1) os ds
 |_,_,_=>[]
def W3 (is:List Item):List (Nat×List Nat)->List (Item×List Nat)
 |[]=>[]
 |(i,ks)::r=>match gb is i with
  |some x=>(x,ks)::W3 is r
  |none=>W3 is r
def statOf (all:List Oper) (H:PS):Stat:=⟨Ce 0 all H.is,H.nE,W3 (Ce 0 all H.is) H.rs⟩
def wY (tt:TT) (all:List Oper) (H:PS):Bool:=match stat tt all with
 |none=>false
 |some q=>CA q.is H.is&&Nat.beq q.nE H.nE&&Cy q.rs H.rs
theorem Xy {a b:Kind} (h:R6 a b=true):a=b:=by cases a<;>cases b<;>simp [R6] at h<;>rfl
theorem CL: ∀{a b:List Nat},zK a b=true->a=b
 |[],[],_=>rfl
 |[],_::_,h=>by simp [zK] at h
 |_::_,[],h=>by simp [zK] at h
 |a::x,b::y,h=>by simp only [zK,an] at h;rw [az h.1,CL h.2]
theorem JQ {tt:TT} {all:List Oper} {ms:List Nat}: ∀{os:List Oper} {i n:Nat} {ds:List Ew},CA (items tt all ms os i n) ds=true->items tt all ms os i n=Ce i os ds
 |[],i,n,ds,h=>by cases ds<;>simp [items,CA,Ce] at *
 |o::os,i,n,ds,h=>by
  cases ds with
  |nil=>simp [items,CA] at h
  |cons d ds=> simp only [items,CA,an] at h;obtain⟨⟨⟨⟨U,Z⟩,h3⟩,h4⟩,h5⟩:=h;have ih:=JQ h5;simp only [items,Ce];rw [ih,az U,Xy Z,az h3,CL h4]
theorem UH {is:List Item}: ∀{xs:List (Item×List Nat)} {ys:List (Nat×List Nat)},(∀p∈xs,gb is p.1.i=some p.1)->Cy xs ys=true->W3 is ys=xs
 |[],[],_,_=>rfl
 |[],_::_,_,h=>by simp [Cy] at h
 |_::_,[],_,h=>by simp [Cy] at h
 |(x,ks)::xs,(i,js)::ys,hm,h=>by simp only [Cy,an] at h;have U:=hm (x,ks) ad;simp only [W3];rw [<- az h.1.1,U,<- CL h.1.2,UH (fun p hp=>hm p (by simp [hp])) h.2]
theorem Ns: ∀{i:Nat} {os:List Oper} {ds:List Ew} {x:Item},x∈Ce i os ds->i<=x.i/\gb (Ce i os ds) (x.i-i)=some x
 |_,[],_,_,h=>by simp [Ce] at h
 |_,_::_,[],_,h=>by simp [Ce] at h
 |i,o::os,d::ds,x,h=>by
  simp only [Ce,aH] at h ⊢;rcases h with rfl|h
  ·simp [gb]
  ·obtain⟨U,Z⟩:=Ns h;refine⟨J,?_⟩;have:x.i-i=(x.i-(i+1))+1:=J
   rw [this];exact Z
theorem C3 {tt:TT} {all:List Oper} {H:PS} (h:wY tt all H=true):stat tt all=some (statOf all H):=by
 unfold wY at h;split at h
 ·grind
 ·rename_i q hq;rw [hq];simp only [an] at h;obtain⟨⟨U,Z⟩,h3⟩:=h;have hq':=hq;unfold stat at hq';simp only at hq';split at hq'
  ·simp only [ah] at hq';subst hq';have e1:=JQ U;simp only at Z h3
   have e3:W3 (Ce 0 all H.is) H.rs=_:=UH (is:=Ce 0 all H.is) (by
    intro p hp;simp only [aR,arW] at hp;obtain⟨x,⟨Y,_⟩,rfl⟩:=hp;rw [e1] at Y;have:=(Ns Y).2
    simpa using this) h3
   unfold statOf;rw [e3,<- az Z,<- e1]
  grind
end
end Go.As
end
section
namespace Go.As
noncomputable section
def yS (pos:Nat->Nat) (o:Oper):Oper:={ o with after:=o.after.map (fun e=>{ e with on:=pos e.on }),guard:=match o.guard with |none=>none|some (j,b)=>some (pos j,b) }
def posOf:List Nat->Nat->Nat
 |[],_=>0
 |x::xs,i=>match Nat.beq x i with
  |true=>0
  |false=>posOf xs i+1
def DS (pos:Nat->Nat) (all:List Oper):List Nat->List Oper
 |[]=>[]
 |i::is=>match gb all i with
  |some o=>yS pos o::DS pos all is
  |none=>[]
def gS (ord:List Nat) (all:List Oper):List Oper:=DS (posOf ord) all ord
def Lm (ord:List Nat) (n:Nat):Bool:=
 Nat.beq ord.length n&&(List.range n).all (fun i=>match gb ord (posOf ord i) with |some j=>Nat.beq i j|none=>false)&&
 (List.range n).all (fun j=>match gb ord j with |some i=>Nat.blt i n&&Nat.beq (posOf ord i) j|none=>false)
theorem NX: ∀(ord:List Nat) (i:Nat),posOf ord i<=ord.length
 |[],_=>ax _
 |x::xs,i=>by
  simp only [posOf,aT];split
  ·omega
  ·have:=NX xs i; omega
theorem Jn: ∀(ord:List Nat) (i:Nat),posOf ord i<ord.length->ord[posOf ord i]?=some i
 |[],_,h=>by simp [posOf] at h
 |x::xs,i,h=>by
  simp only [posOf,aT] at h ⊢;split
  ·rename_i he;simp_all
  ·rename_i he;rw [he] at h;simp only at h;simpa using Jn xs i J
structure Perm (n:Nat) (ord:List Nat):Prop where
 len:ord.length=n
 at': ∀i,i<n->ord[posOf ord i]?=some i
 back: ∀j,j<n->∃i,ord[j]?=some i/\i<n/\posOf ord i=j
theorem Xi {ord:List Nat} {n:Nat} (h:Lm ord n=true):Perm n ord:=by
 unfold Lm at h;simp only [an,aP,arE] at h;obtain⟨⟨U,Z⟩,h3⟩:=h;refine⟨az U,fun i hi=>?_,fun j hj=>?_⟩
 ·have:=Z i hi;split at this
  all_goals simp_all [dI]
 simp_all [dI]
theorem Perm.lt {n:Nat} {ord:List Nat} (p:Perm n ord) {i:Nat} (hi:i<n):posOf ord i<n:=by
 have:=p.at' i hi;rw [<- p.len]
 grind
theorem Perm.ge {n:Nat} {ord:List Nat} (p:Perm n ord) {i:Nat} (hi: ¬i<n):posOf ord i=n:=by
 have U:=NX ord i;rw [p.len] at U;rcases aZ (posOf ord i) n with h|h
 ·have Z:=Jn ord i (by rw [p.len]; exact h);obtain⟨k,h3,h4,_⟩:=p.back _ h
  grind
 ·omega
theorem Perm.inj {n:Nat} {ord:List Nat} (p:Perm n ord) {i j:Nat} (hi:i<n) (hj:j<n) (h:posOf ord i=posOf ord j):i=j:=by
 have U:=p.at' i hi;have Z:=p.at' j hj
 grind
theorem Jq {pos:Nat->Nat} {all:List Oper}: ∀{is:List Nat},(∀i∈is,i<all.length)->∀j:Nat,(DS pos all is)[j]?=(is[j]?).bind fun i=>(all[i]?).map (yS pos)
 |[],_,j=>by simp [DS]
 |i::is,h,j=>by
  have hi:=h i ad;have ih:=Jq (pos:=pos) (is:=is) fun k hk=>h k (by simp [hk])
  grind [DS,dI]
section
variable {P:Program}
theorem pD {ord:List Nat} {ops:Array Oper} (p:Perm ops.size ord) {i:Nat} (hi:i<ops.size):(gS ord ops.toList)[posOf ord i]?=(ops[i]?).map (yS (posOf ord)):=by
 unfold gS
 rw [Jq (by
  intro k hk;obtain⟨j,hj,rfl⟩:=ar3 hk;obtain⟨i',U,Z,_⟩:=p.back j (by rw [<- p.len]; exact hj);rw [aN hj] at U;simp only [ah] at U;rw [U]
  simpa using Z),p.at' i hi]
 simp
theorem wH {ord:List Nat} {ops:Array Oper} (p:Perm ops.size ord):(gS ord ops.toList).length=ops.size:=by
 have h0: ∀j,j<ops.size->(gS ord ops.toList)[j]?.isSome=true:=by
  intro j hj;obtain⟨i,_,Z,h3⟩:=p.back j hj
  grind [pD]
 have hle:(gS ord ops.toList).length<=ops.size:=by
  have: ∀(is:List Nat),(DS (posOf ord) ops.toList is).length<=is.length:=by
   intro is
   induction is with
   |nil=>simp [DS]
   |cons i is ih=>simp only [DS]; split<;>simp; omega
  have:=this ord;rw [p.len] at this;exact this
 rcases aZ (gS ord ops.toList).length ops.size with h|h
 all_goals grind
theorem A? (pos:Nat->Nat) (o:Oper) (a:Act) (w:World) (K:Act->World->Prop) (Q:Exit->Act->World->Prop):(yS pos o).wp P a w K Q=o.wp P a w K Q:=rfl
theorem Rz (pos:Nat->Nat) (o:Oper) (a:Act) (w:World):(yS pos o).asks P a w=o.asks P a w:=rfl
theorem KI {ord:List Nat} {ops:Array Oper} (p:Perm ops.size ord) (tmps:Array Value) (j:Nat):yielded (gS ord ops.toList).toArray tmps (posOf ord j)=yielded ops tmps j:=by
 unfold yielded
 have:((gS ord ops.toList).toArray[posOf ord j]?).bind (·.dst)=(ops[j]?).bind (·.dst):=by
  rw [ata];rcases aZ j ops.size with h|h
  ·rw [pD p h];cases ops[j]?<;>rfl
  ·rw [p.ge J,arH (by rw [wH p]; exact ax _),atb h]
 grind
theorem Nx {ord:List Nat} {ops:Array Oper} (p:Perm ops.size ord) (tmps:Array Value) (o:Oper) :
 Region.wanted (yS (posOf ord) o) (yielded (gS ord ops.toList).toArray tmps)=Region.wanted o (yielded ops tmps):=by
 unfold Region.wanted yS
 cases hg:o.guard with
 |none=>rfl
 |some g=> obtain⟨j,b⟩:=g;simp only;rw [KI p]
theorem kM {md:Region.Mode} {ops:Array Oper} {listed:Array Bool} {i:Nat}:i∈Region.ready md ops listed↔∃o,ops[i]?=some o/\listed.getD i true=false/\∀e∈o.after.toList,Region.binds md e=true->listed.getD e.on false=true:=by
 unfold Region.ready;simp only [arW,arE,an,arR];constructor
 ·rintro⟨U,Z,h3⟩;have e:=atp U;refine⟨_,e,Z,?_⟩;rw [e] at h3;simp only [arB,ay,Array.all_eq_true_iff_forall_mem] at h3;intro x Y hb
  grind
 grind
theorem zE {md:Region.Mode} {ord:List Nat} {ops:Array Oper} (p:Perm ops.size ord) {listed jo:Array Bool} (hz:listed.size=ops.size) (Bc:jo.size=ops.size) (hl: ∀i,i<ops.size->jo[posOf ord i]?=listed[i]?) {i:Nat} (hi:i<ops.size) :
 posOf ord i∈Region.ready md (gS ord ops.toList).toArray jo↔i∈Region.ready md ops listed:=by
 have hg: ∀(k:Nat) (d:Bool),jo.getD (posOf ord k) d=listed.getD k d:=by
  intro k d;simp only [ar5];rcases aZ k ops.size with h|h
  ·grind
  ·rw [p.ge J,atb J,atb J]
 rw [kM,kM,ata,pD p hi,hg];constructor
 ·rintro⟨o,U,Z,h3⟩;rw [aO] at U;obtain⟨o0,h0,rfl⟩:=U;refine⟨o0,h0,Z,fun e he hb=>?_⟩
  have:=h3 { e with on:=posOf ord e.on } (by
   simp only [yS,asZ,aR]
   exact⟨e,he,rfl⟩) hb
  simp_all
 ·rintro⟨o,U,Z,h3⟩;refine⟨yS (posOf ord) o,by rw [U]; rfl,Z,fun e he hb=>?_⟩;simp only [yS,asZ,aR] at he;obtain⟨e0,X!,rfl⟩:=he;show jo.getD (posOf ord e0.on) false=true;rw [hg];exact h3 e0 X! hb
theorem QM {md:Region.Mode} {ord:List Nat} {ops:Array Oper} (p:Perm ops.size ord) {Q:Exit->Act->World->Prop}: ∀(fuel:Nat) (listed jo:Array Bool) (a:Act) (w:World),listed.size=ops.size->jo.size=ops.size->
 (∀i,i<ops.size->jo[posOf ord i]?=listed[i]?)->wpAny P md (gS ord ops.toList).toArray Q fuel jo a w->wpAny P md ops Q fuel listed a w:=by
 have ann: ∀(listed jo:Array Bool),listed.size=ops.size->jo.size=ops.size->(∀i,i<ops.size->jo[posOf ord i]?=listed[i]?)->
  (Region.ready md (gS ord ops.toList).toArray jo= []↔Region.ready md ops listed= []):=by
  intro listed jo hz Bc hl;constructor
  ·intro h;rw [asN] at h ⊢;intro i hm
   have hi:i<ops.size:=by
    grind [kM]
   exact h _ ((zE p hz Bc hl hi).2 hm)
  ·intro h;rw [asN] at h ⊢;intro j hm
   have hj:j<ops.size:=by
    grind [kM]
   obtain⟨i,_,Z,h3⟩:=p.back j hj;subst h3;exact h _ ((zE p hz Bc hl Z).1 hm)
 intro fuel
 induction fuel with
 |zero=> intro listed jo a w hz Bc hl h;exact⟨(ann _ _ hz Bc hl).1 h.1,h.2⟩
 |succ fuel ih=>
  intro listed jo a w hz Bc hl h;refine⟨fun h0=>h.1 ((ann _ _ hz Bc hl).2 h0),fun i hm=>?_⟩
  have hi:i<ops.size:=by
   grind [kM]
  have hh:=h.2 _ ((zE p hz Bc hl hi).2 hm)
  have D4: ∀a w,wpAny P md (gS ord ops.toList).toArray Q fuel (jo.setIfInBounds (posOf ord i) true) a w->wpAny P md ops Q fuel (listed.setIfInBounds i true) a w:=by
   intro a w hw;refine ih _ _ a w (by simp [hz]) (by simp [Bc]) (fun k hk=>?_) hw;rw [atc,atc];by_cases hik:i=k
   ·grind
   ·rw [af hik,af (fun h=>hik (p.inj hi hk h)),hl k hk]
  have Z:=wpOp_mono D4 hh;unfold wpOp at Z ⊢;rw [ata,pD p hi] at Z
  cases ho:ops[i]? with
  |none=>rw [ho] at Z; exact Z
  |some o=> rw [ho] at Z;simp only [arB] at Z ⊢;rw [Nx p,A?,Rz] at Z;exact Z
structure ac1 where
 ord:List Nat
 h:PS
def acd (tt:TT) (H:Nat->Nat->Option ac1) (call:eP) (g id:Nat) (all:List Oper) (s:St):T St:=match H g id with
 |some p=>match p.ord with
  |[]=>HC tt call all (statOf all p.h) s
  |o::os=>match gS (o::os) all with
   |acW=>HC tt call acW (statOf acW p.h) s
 |none=> .fail
def ID (tt:TT) (H:Nat->Nat->Option ac1) (g id:Nat) (all:List Oper):Bool:=match H g id with
 |some p=>match p.ord with
  |[]=>wY tt all p.h
  |o::os=>Lm (o::os) all.length&&wY tt (gS (o::os) all) p.h
 |none=>true
theorem acb [bS] {tt:TT} (db:fj P tt) (hm:P.follows .mixedOrders=true) {H:Nat->Nat->Option ac1} {call:eP} (hc:jh P call) (g:Nat):xK P (ID tt H g) (acd tt H call g):=by
 intro id ops hk E s s' a w Q V fit h hq;unfold ID at hk;unfold acd at h;split at hk
 ·rename_i p hp;rw [hp] at h;simp only at h;split at hk
  ·rename_i he;rw [he] at h;have:=C3 hk;refine aeH db hm hc id ops E s s' a w Q V fit ?_ hq
   grind [draw]
  ·rename_i o os he;rw [he] at h;simp only at h;simp only [an] at hk;have hp:=Xi hk.1;have hp:Perm ops.size (o::os):=by simpa using hp
   have:=C3 hk.2;refine wp_region_any hm ?_
   have Ng: ∀x∈((gS (o::os) ops.toList).toArray).toList,∀d,x.dst=some d->d<a.tmps.size:=by
    intro x Y d hxd;obtain⟨j,hj,rfl⟩:=ar3 Y;have hj':j<ops.size:=by rw [<- wH hp]; exact hj
    obtain⟨i,_,Z,h3⟩:=hp.back j hj';have hg:=pD hp Z;rw [h3] at hg
    have tP:(gS (o::os) ops.toList)[j]?=some ((gS (o::os) ops.toList).toArray.toList[j]):=by
     grind
    rw [tP] at hg;rw [atp Z] at hg;simp only [arB,ah] at hg;rw [hg] at hxd;exact V (ops[i]) ad d hxd
   have key:=HB (ops:=(gS (o::os) ops.toList).toArray) db hc Ng fit (by
    unfold draw;rw [this]
    exact h) hq
   have iY:(gS (o::os) ops.toList).toArray.size=ops.size:=by simpa using wH hp
   rw [iY] at key;refine QM hp _ _ _ _ _ ad ad (fun i hi=>?_) key;rw [asg,asg,ag hi,ag (hp.lt hi)]
 grind [T.leaf]
end
end
end Go.As
end
section
namespace Go.As
noncomputable section
def Jr (h:Hp):List Nat->Tr eL->Tr eL
 |[],t=>t
 |i::is,t=>match h.get i with
  |some o=>Jr h is (t.put i (some o))
  |none=>Jr h is t
theorem CF {h:Hp}: ∀(is:List Nat) (t:Tr eL),(∀id o,t.get id=some o->h.get id=some o)->∀id o,(Jr h is t).get id=some o->h.get id=some o
 |[],_,ht,id,o,hg=>ht id o hg
 |i::is,t,ht,id,o,hg=>by
  simp only [Jr] at hg;split at hg
  ·rename_i x Y;refine CF is _ (fun j y hy=>?_) id o hg
   grind [Tr.bV]
  ·exact CF is t ht id o hg
def Cz:List (W×List AV)->List (W×List AV)->Bool
 |[],[]=>true
 |(i,a)::x,(j,b)::y=>ga i j&&jn a b&&Cz x y
 |_,_=>false
theorem Jc: ∀{a b:List (W×List AV)},Cz a b=true->a=b
 |[],[],_=>rfl
 |[],_::_,h=>by simp [Cz] at h
 |_::_,[],h=>by simp [Cz] at h
 |(i,a)::x,(j,b)::y,h=>by simp only [Cz,an] at h;rw [dy _ _ h.1.1,gE _ _ h.1.2,Jc h.2]
def Le:eL->eL->Bool
 | .cells a e,.cells b f=>jn a b&&Nat.beq e f
 | .vec a t e x,.vec b u f y=>ga a b&&Nat.beq t u&&Nat.beq e f&&Cz x y
 |_,_=>false
theorem Ru {a b:eL} (h:Le a b=true):a=b:=by
 cases a<;>cases b<;>simp only [Le,aQ,an] at h
 ·rw [gE _ _ h.1,az h.2]
 ·rw [dy _ _ h.1.1.1,az h.1.1.2,az h.1.2,Jc h.2]
def wD {α:Type} (f:α->α->Bool):Tr α->Tr α->Bool
 | .nil,.nil=>true
 | .node v l r,.node u x y=>(match v,u with |some a,some b=>f a b|none,none=>true|_,_=>false)&&wD f l x&&wD f r y
 |_,_=>false
theorem AG {α:Type} {f:α->α->Bool} (hf: ∀a b,f a b=true->a=b): ∀(a b:Tr α),wD f a b=true->a=b
 | .nil,b,h=>by cases b<;>simp [wD] at h; rfl
 | .node v l r,b,h=>by
   cases b with
   |nil=>simp [wD] at h
   |node u x y=>
    simp only [wD,an] at h;rw [AG hf l x h.1.2,AG hf r y h.2]
    grind
def inL (i:Nat):List Nat->Bool
 |[]=>false
 |j::l=>match Nat.beq i j with
  |true=>true
  |false=>inL i l
theorem LN {i:Nat}: ∀{l:List Nat},inL i l=true↔i∈l
 |[]=>by simp [inL]
 |j::l=>by
  simp only [inL,aH];split
  ·rename_i h; simp [az h]
  ·rename_i h; rw [LN]; simp [asn h]
def ug (i:Nat):List Nat->List Nat
 |[]=>[]
 |j::l=>match Nat.beq i j with
  |true=>ug i l
  |false=>j::ug i l
theorem su {i k:Nat}: ∀{l:List Nat},k∈ug i l↔k∈l/\k≠i
 |[]=>by simp [ug]
 |j::l=>by
  simp only [ug];split
  ·rename_i h;have:=az h;subst this;rw [su]
   grind
  ·rename_i h;have:=asn h;simp only [aH];rw [su]
   grind
def JK (all:List Oper) (rem:List Nat) (i:Nat):Bool:=match gb all i with
 |some o=>o.after.toList.all fun e=>!Region.binds .any e||(!inL e.on rem&&Nat.blt e.on all.length)
 |none=>false
def PH (tt:TT) (call:eP) (all:List Oper) (pc:List (SB×Bool)) (tS:Tr AV) (tH:Hp):Nat->List Nat->Tr AV->Hp->Bool
 |0,rem,S,H=>match rem with
  |[]=>wD fq S tS&&wD Le H.m tH.m&&Nat.beq H.next tH.next&&(match H.res with |none=>true|_=>false)
  |_=>false
 |n+1,rem,S,H=>match rem with
  |[]=>false
  |_=>rem.any (JK all rem)&&rem.all fun i=>match JK all rem i with
   |false=>true
   |true=>match gb all i with
    |some o=>match ev1 tt call all o ⟨S,H,pc⟩ with
     | .ret (v,s')=>PH tt call all pc tS tH n (ug i rem) (wu S o.dst v) s'.h
     |_=>false
    |none=>false
section
variable {P:Program}
theorem w_ {E:En} {h:Array Obj} {S:Tr AV} {a:Act} (sr:SR E h S a) {d:Option Nat} {v:AV} {u:Value} (V: ∀t,d=some t->t<a.tmps.size) (hv:VR E h v u):SR E h (wu S d v) (a.put d u):=by
 cases d with
 |none=>exact sr
 |some t=>exact sr.put (V t rfl) hv
theorem acV [bS] {tt:TT} (db:fj P tt) {call:eP} (hc:jh P call) {ops:Array Oper} {ρ:Nat->Int} {pc:List (SB×Bool)} (hpc:cD ρ pc) {tS:Tr AV} {tH:Hp} (htr:tH.res=none) {Q:Exit->Act->World->Prop} {m:Nat} (V: ∀o∈ops.toList,∀d,o.dst=some d->d<m) :
 ∀(n:Nat) (rem:List Nat) (S:Tr AV) (H:Hp) (E:En) (a:Act) (w:World) (listed:Array Bool),PH tt call ops.toList pc tS tH n rem S H=true->E.ρ=ρ->ca E H w->SR E w.heap S a->a.tmps.size=m->listed.size=ops.size->
  (∀i,i<ops.size->(listed[i]?=some true↔i∉rem))->(∀i∈rem,i<ops.size)->
  (∀(a':Act) (w':World) (E':En),fP E H w E' tH w'->ca E' tH w'->SR E' w'.heap tS a'->a'.tmps.size=m->a'.defers=a.defers->Q .normal a' w')->wpAny P .any ops Q n listed a w:=by
 intro n;have gz: ∀(i:Nat),gb ops.toList i=ops[i]?:=fun i=>by rw [dI,ary]
 have B_: ∀(rem:List Nat) (listed:Array Bool),listed.size=ops.size->(∀i,i<ops.size->(listed[i]?=some true↔i∉rem))->∀i,i∈Region.ready .any ops listed->i∈rem/\JK ops.toList rem i=true/\i<ops.size:=by
  intro rem listed iY hl i hi;obtain⟨o,ho,U,Z⟩:=kM.1 hi;have uc:i<ops.size:=(arP.1 ho).1
  have hf:listed[i]?=some false:=by simp_all
  refine⟨?_,?_,uc⟩
  ·grind
  ·unfold JK;rw [gz,ho];simp only [aP];intro e he
   cases hb:Region.binds .any e with
   |false=>rfl
   |true=>
    have:=Z e he hb
    have gy:e.on<ops.size:=by
     grind
    simp only [asv,asf,an,arR];refine⟨?_,by simpa [ash] using gy⟩
    cases aqm:inL e.on rem with
    |false=>rfl
    |true=> exfalso;have hm:=LN.1 aqm;simp_all
 have ajI: ∀(rem:List Nat) (listed:Array Bool),listed.size=ops.size->(∀i,i<ops.size->(listed[i]?=some true↔i∉rem))->(∀i∈rem,i<ops.size)->rem.any (JK ops.toList rem)=true->Region.ready .any ops listed≠[]:=by
  intro rem listed iY hl hr aoc pJ;rw [asO] at aoc;obtain⟨i,hi,hm⟩:=aoc;have uc:=hr i hi
  have:i∈Region.ready .any ops listed:=by
   rw [kM];unfold JK at hm;rw [gz] at hm;split at hm
   ·rename_i o ho;refine⟨o,ho,?_,fun e he hb=>?_⟩
    ·have e1:listed[i]?=some (listed[i]'J):=by simp [iY,uc]
     simp only [ar5,e1,ay]
     grind
    ·rw [aP] at hm;have:=hm e he;rw [hb] at this;simp only [asv,asf,an,arR] at this;obtain⟨this,gy⟩:=this;have gy:e.on<ops.size:=by simpa [ash] using gy
     have anT:e.on∉rem:=fun h=>by rw [LN.2 h] at this; simp at this
     simp_all
   grind
  grind
 induction n with
 |zero=>
  intro rem S H E a w listed h hρ r sr ha iY hl hr hq;simp only [PH] at h;split at h
  ·simp only [an] at h;obtain⟨⟨⟨U,Z⟩,h3⟩,h4⟩:=h;have e1:=AG lP _ _ U;have e2:=AG (fun _ _=>Ru) _ _ Z;have e3:=az h3
   have e4:H.res=none:=by
    grind
   have eH:H=tH:=by
    obtain⟨m1,n1,r1⟩:=H;obtain⟨m2,n2,r2⟩:=tH
    grind
   subst e1 eH;refine⟨?_,hq a w E (fP.refl _ _ _) r sr ha rfl⟩;rw [asN];intro i hi;have:=(B_ [] listed iY hl i hi).1
   grind
  grind
 |succ n ih=>
  intro rem S H E a w listed h hρ r sr ha iY hl hr hq;simp only [PH] at h;split at h
  ·grind
  ·rename_i jK;simp only [an] at h;refine⟨fun h0=>absurd h0 (ajI rem listed iY hl hr h.1),fun i hi=>?_⟩;obtain⟨g1,g2,g3⟩:=B_ rem listed iY hl i hi;have LP:=(aP.1 h.2) i g1;rw [g2] at LP;simp only at LP;split at LP
   ·rename_i o ho;have GV:ops[i]?=some o:=by rw [<- gz]; exact ho
    split at LP
    ·rename_i v s' hev;have aqA:=Mr db hc (ops:=ops) (o:=o) (s:=⟨S,H,pc⟩) (s':=s') (v:=v) (ρ:=ρ) hpc (by rw [hev]; rfl);refine aqA.wpOp hρ r sr GV fun u E' w' st r' hv=>?_
     have hdo: ∀t,o.dst=some t->t<a.tmps.size:=by intro t ht;rw [ha];exact V o (Array.mem_toList_iff.2 (as8 GV)) t ht
     have sr':SR E' w'.heap (wu S o.dst v) (a.put o.dst u):=w_ (sr.dv (st.keeps r)) hdo hv;refine ih (ug i rem) _ _ E' (a.put o.dst u) w' (listed.setIfInBounds i true) LP (st.ρ.trans hρ) r' sr' (by rw [Gc]; exact ha) (by simpa using iY) ?_ ?_ ?_
     ·intro k hk;rw [atc,su]
      grind
     ·intro k hk;exact hr k (su.1 hk).1
     ·intro a' w2 E2 Ir r2 sr2 Ap kR;exact hq a' w2 E2 (st.trans Ir) r2 sr2 Ap (by rw [kR,As.put_defers])
    grind
   grind
end
end
end Go.As
end
section
namespace Go.As
noncomputable section
def Hx (o:Oper) (j:Nat):Bool:=o.after.toList.any fun e=>Region.binds .any e&&Nat.beq e.on j
def K7 (n1:Nat) (all:List Oper):Bool:=
 Nat.blt 0 n1&&Nat.ble n1 all.length&&
 (List.range all.length).all (fun j=>match gb all j with
  |some o=>match Nat.blt j n1 with
   |true=>(o.after.toList.all fun e=>!Region.binds .any e||Nat.blt e.on j)&&(match o.guard with |some (k,_)=>Nat.blt k n1|none=>true)
   |false=>Hx o (n1-1)
  |none=>false)&&
 (match gb all (n1-1) with
  |some o=>(List.range (n1-1)).all fun i=>Hx o i
  |none=>false)
structure TU (n1:Nat) (ops:Array Oper):Prop where
 pos:0<n1
 le:n1<=ops.size
 back: ∀(i:Nat) (o:Oper),i<n1->ops[i]?=some o->∀e∈o.after.toList,Region.binds .any e=true->e.on<i
 guard: ∀(i:Nat) (o:Oper),i<n1->ops[i]?=some o->∀k b,o.guard=some (k,b)->k<n1
 late: ∀(i:Nat) (o:Oper),n1<=i->ops[i]?=some o->∃e∈o.after.toList,Region.binds .any e=true/\e.on=n1-1
 last: ∀(o:Oper),ops[n1-1]?=some o->∀i,i<n1-1->∃e∈o.after.toList,Region.binds .any e=true/\e.on=i
theorem Kh {o:Oper} {j:Nat} (h:Hx o j=true): ∃e∈o.after.toList,Region.binds .any e=true/\e.on=j:=by unfold Hx at h;rw [asO] at h;simp_all
theorem Rm {n1:Nat} {ops:Array Oper} (h:K7 n1 ops.toList=true):TU n1 ops:=by
 have gz: ∀(i:Nat),gb ops.toList i=ops[i]?:=fun i=>by rw [dI,ary]
 unfold K7 at h;simp only [an] at h;obtain⟨⟨⟨U,Z⟩,h3⟩,h4⟩:=h;have U:0<n1:=by simpa [ash] using U
 have Z:n1<=ops.size:=by simpa using arw Z
 rw [aP] at h3
 have h3: ∀(i:Nat) (o:Oper),ops[i]?=some o->(match Nat.blt i n1 with
  |true=>(o.after.toList.all fun e=>!Region.binds .any e||Nat.blt e.on i)&&(match o.guard with |some (k,_)=>Nat.blt k n1|none=>true)
  |false=>Hx o (n1-1))=true:=by
  intro i o ho;have hi:i<ops.size:=(arP.1 ho).1;have:=h3 i (arE.2 (by simpa using hi));rw [gz,ho] at this;exact this
 refine⟨U,Z,?_,?_,?_,?_⟩
 ·intro i o hi ho e he hb;have:=h3 i o ho;rw [show Nat.blt i n1=true by simpa [ash] using hi] at this;simp only [an] at this;have:=(aP.1 this.1) e he;simp_all
 ·intro i o hi ho k b hg;have:=h3 i o ho;rw [show Nat.blt i n1=true by simpa [ash] using hi] at this;simp_all
 ·intro i o hi ho;have:=h3 i o ho
  rw [show Nat.blt i n1=false by
   cases hb:Nat.blt i n1 with
   |false=>rfl
   |true=>rw [ash] at hb; omega] at this
  exact Kh this
 ·intro o ho i hi;rw [gz,ho] at h4;exact Kh ((aP.1 h4) i (arE.2 hi))
section
variable {P:Program}
theorem wp_exit {o:Oper} {a:Act} {w:World} {K:Act->World->Prop} {Q1 Q:Exit->Act->World->Prop} (h: ∀e a w,e≠.normal->Q1 e a w->Q e a w) (hh:o.wp P a w K Q1):o.wp P a w K Q:=by
 have hl:LetsOut Q1->LetsOut Q:=fun⟨a,w,U⟩=> ⟨a,w,h _ _ _ ad U⟩;unfold Oper.wp at *;generalize (execOp a.eval o).run P w=r at *
 cases r with
 |ok n w'=>
  cases n<;>simp only [Oper.upon] at hh ⊢<;>
   first
    |exact hh
    |exact Calls.mono hh (fun e w'' he=>by cases e<;>first |exact he|exact h _ _ _ ad he|exact hl he)
 |halt x w'=>cases x<;>simp only [Oper.upon] at hh ⊢<;>first |exact hh|exact h _ _ _ ad hh
theorem Ok {l l':Nat->Bool} {i:Nat} (U:l i=false) (Z:l' i=true) (h: ∀j,j≠i->l' j=l j): ∀n,i<n->left l' n+1=left l n
 |0,hi=>by omega
 |n+1,hi=>by
  simp only [left];by_cases uc:i=n
  ·subst uc
   have: ∀m,m<=i->left l' m=left l m:=by
    intro m
    induction m with
    |zero=>intro _; rfl
    |succ m ih=>
     intro hm
     grind [left]
   grind
  ·have:=Ok U Z h n J
   grind
theorem Ol {l:Nat->Bool}: ∀n,(∀i,i<n->l i=true)->left l n=0
 |0,_=>rfl
 |n+1,h=>by simp only [left];rw [Ol n (fun i hi=>h i J),h n J];rfl
def xl (n1 n:Nat):Array Bool:=(Array.range n).map fun i=>decide (i<n1)
theorem Nw {n1:Nat} {ops:Array Oper} (sf:TU n1 ops) {Q Q1:Exit->Act->World->Prop} (hq: ∀e a w,e≠.normal->Q1 e a w->Q e a w) (hn: ∀a w,Q1 .normal a w->wpAny P .any ops Q (ops.size-n1) (xl n1 ops.size) a w) :
 ∀(f:Nat) (l1 l:Array Bool) (a:Act) (w:World),l1.size=n1->l.size=ops.size->(∀i,i<n1->l[i]?=l1[i]?)->(∀i,n1<=i->i<ops.size->l[i]?=some false)->left (fun i=>l1.getD i true) n1=f->(l1[n1-1]?=some true->f=0)->
  wpAny P .any (ops.toList.take n1).toArray Q1 f l1 a w->wpAny P .any ops Q (f+(ops.size-n1)) l a w:=by
 have hR: ∀i,i<n1->(ops.toList.take n1).toArray[i]?=ops[i]?:=by
  intro i hi
  grind
 have hRs:(ops.toList.take n1).toArray.size=n1:=by
  have:=sf.le
  grind
 have uQ:LetsOut Q1->LetsOut Q:=fun⟨a,w,U⟩=> ⟨a,w,hq _ _ _ ad U⟩
 have yH: ∀(l:Array Bool) (i:Nat),i<l.size->(l.getD i true=true↔l[i]?=some true)/\(l.getD i false=true↔l[i]?=some true):=by intro l i hi;simp_all
 intro f
 induction f with
 |zero=>
  intro l1 l a w U Z h3 h4 h5 h6 hw;have G6:=CX n1 h5
  have:l=xl n1 ops.size:=by
   grind [xl]
  rw [this,aK];exact hn a w hw.2
 |succ f ih=>
  intro l1 l a w U Z h3 h4 h5 h6 hw;rw [show f+1+(ops.size-n1)=(f+(ops.size-n1))+1 by omega];have hle:=sf.le;have nz:=sf.pos;have agu:l1[n1-1]?=some true->False:=fun h=>by have:=h6 h; omega
  refine⟨fun pJ=>?_,fun i hi=>?_⟩
  ·exfalso
   have G6: ∀i,i<n1->l[i]?=some true:=by
    intro i
    induction i using Nat.strongRecOn with
    |_ i vO=>
     intro hi;apply Classical.byContradiction;intro vR;have hio:ops[i]?=some (ops[i]'J):=ad
     have:i∈Region.ready .any ops l:=by
      rw [kM];refine⟨_,hio,?_,fun e he hb=>?_⟩
      ·grind
      ·have gy:=sf.back i _ hi hio e he hb
       grind
     grind
   grind
  ·obtain⟨o,ho,g1,g2⟩:=kM.1 hi;have uc:i<ops.size:=(arP.1 ho).1
   have hi1:i<n1:=by
    rcases aZ i n1 with h|h
    ·exact h
    ·exfalso;obtain⟨e,e1,e2,e3⟩:=sf.late i o h ho
     grind
   have C2:l1.getD i true=false:=by
    grind
   have hed: ∀e∈o.after.toList,Region.binds .any e=true->l1.getD e.on false=true:=by
    intro e he hb
    grind
   have hr1:i∈Region.ready .any (ops.toList.take n1).toArray l1:=by
    rw [kM]
    grind
   have pe:=hw.2 i hr1
   have agq: ∀a w,wpAny P .any (ops.toList.take n1).toArray Q1 f (l1.setIfInBounds i true) a w->wpAny P .any ops Q (f+(ops.size-n1)) (l.setIfInBounds i true) a w:=by
    intro a w hw2
    have Vy:left (fun j=>(l1.setIfInBounds i true).getD j true) n1=f:=by
     have:=Ok (l:=fun j=>l1.getD j true) (l':=fun j=>(l1.setIfInBounds i true).getD j true) (i:=i) C2 (by
      simp only [ar5,Array.getElem?_setIfInBounds_self]
      split<;>rfl) (fun j hj=>by
      simp only [ar5]
      rw [Array.getElem?_setIfInBounds_ne (fun e=>hj e.symm)]) n1 hi1
     omega
    refine ih _ _ a w (by simpa using U) (by simpa using Z) (fun k hk=>?_) (fun k hk1 D7=>?_) Vy (fun gy=>?_) hw2
    ·grind
    ·grind
    ·by_cases di:i=n1-1
     ·rw [<- Vy];refine Ol n1 fun k hk=>?_;by_cases D7:k=i
      ·grind
      ·obtain⟨e,e1,e2,e3⟩:=sf.last o (by rw [<- di]; exact ho) k J
       grind
     grind
   have pe:=wpOp_mono agq pe;unfold wpOp at pe ⊢;rw [hR i hi1,ho] at pe;rw [ho];simp only at pe ⊢
   have anI:Region.wanted o (yielded (ops.toList.take n1).toArray a.tmps)=Region.wanted o (yielded ops a.tmps):=by
    unfold Region.wanted
    cases hg:o.guard with
    |none=>rfl
    |some g=>
     obtain⟨k,b⟩:=g;simp only;have:=sf.guard i o hi1 ho k b hg;unfold yielded
     grind
   rw [anI] at pe;split
   ·rename_i hwt;rw [ag hwt] at pe;rcases pe with h|⟨h,h'⟩
    ·exact .inl (wp_exit hq h)
    grind
   grind
end
end
end Go.As
end

import Derived.Deep.LoopGhost
import Derived.IntWalk
import Derived.ChangeArms
import Derived.DataReads
import GoSem.ClaimJoined
import Derived.OpenShut
import Derived.KernelRfl
import Derived.Test.YtakeldbjhhiinaaGreatDoorProg
import Derived.Shelf.Strings.Search3
import Derived.Shelf.LaysM
import Derived.Shelf.Strings.Shaped
import Derived.Test.YtakeldbjhhiinaaGreatDoorAsZT1
set_option linter.unusedSectionVars false
set_option linter.unusedVariables false
set_option linter.unusedSimpArgs false
section
namespace Go.As
noncomputable section
def ER (pos:Nat->Nat) (o:Oper):Oper:={ o with after:=o.after.map (fun e=>{ e with on:=pos e.on }),guard:=match o.guard with |none=>none|some (j,b)=>some (pos j,b) }
def posOf:List Nat->Nat->Nat
 |[],_=>0
 |x::xs,i=>match Nat.beq x i with
  |true=>0
  |false=>posOf xs i+1
def Kq (pos:Nat->Nat) (all:List Oper):List Nat->List Oper
 |[]=>[]
 |i::is=>match iD all i with
  |some o=>ER pos o::Kq pos all is
  |none=>[]
def jA (ord:List Nat) (all:List Oper):List Oper:=Kq (posOf ord) all ord
def VJ (ord:List Nat) (n:Nat):Bool:=
 Nat.beq ord.length n&&(List.range n).all (fun i=>match iD ord (posOf ord i) with |some j=>Nat.beq i j|none=>false)&&
 (List.range n).all (fun j=>match iD ord j with |some i=>Nat.blt i n&&Nat.beq (posOf ord i) j|none=>false)
theorem Yc: ∀(ord:List Nat) (i:Nat),posOf ord i<=ord.length
 |[],_=>aJi _
 |x::xs,i=>by
  simp only [posOf,aJr];split
  ·omega
  ·have:=Yc xs i; omega
theorem Tc: ∀(ord:List Nat) (i:Nat),posOf ord i<ord.length->ord[posOf ord i]?=some i
 |[],_,h=>by simp [posOf] at h
 |x::xs,i,h=>by
  simp only [posOf,aJr] at h ⊢;split
  ·rename_i he;simp [aJj he]
  ·rename_i he;rw [he] at h;simp only at h;simpa using Tc xs i (by omega)
structure Perm (n:Nat) (ord:List Nat):Prop where
 len:ord.length=n
 at': ∀i,i<n->ord[posOf ord i]?=some i
 back: ∀j,j<n->∃i,ord[j]?=some i/\i<n/\posOf ord i=j
theorem akB {ord:List Nat} {n:Nat} (h:VJ ord n=true):Perm n ord:=by
 unfold VJ at h;simp only [aJh,aJD,aJ8] at h;obtain⟨⟨h1,h2⟩,h3⟩:=h;refine⟨aJj h1,fun i hi=>?_,fun j hj=>?_⟩
 ·have:=h2 i hi;split at this
  ·rename_i j hjj;rw [dD] at hjj;rw [hjj,aJj this]
  ·simp at this
 ·have:=h3 j hj;split at this
  ·rename_i i hii;rw [dD] at hii;simp only [aJh] at this;exact⟨i,hii,by simpa [aKn] using this.1,aJj this.2⟩
  ·simp at this
theorem Perm.lt {n:Nat} {ord:List Nat} (p:Perm n ord) {i:Nat} (hi:i<n):posOf ord i<n:=by have:=p.at' i hi;rw [<- p.len];exact (aJC.1 this).1
theorem Perm.ge {n:Nat} {ord:List Nat} (p:Perm n ord) {i:Nat} (hi: ¬i<n):posOf ord i=n:=by
 have h1:=Yc ord i;rw [p.len] at h1;rcases aJx (posOf ord i) n with h|h
 ·have h2:=Tc ord i (by rw [p.len]; exact h);obtain⟨k,h3,h4,_⟩:=p.back _ h;rw [h2] at h3;simp only [aJf] at h3;omega
 ·omega
theorem Perm.inj {n:Nat} {ord:List Nat} (p:Perm n ord) {i j:Nat} (hi:i<n) (hj:j<n) (h:posOf ord i=posOf ord j):i=j:=by have h1:=p.at' i hi;have h2:=p.at' j hj;rw [h,h2] at h1;simpa using h1.symm
theorem Tf {pos:Nat->Nat} {all:List Oper}: ∀{is:List Nat},(∀i∈is,i<all.length)->∀j:Nat,(Kq pos all is)[j]?=(is[j]?).bind fun i=>(all[i]?).map (ER pos)
 |[],_,j=>by simp [Kq]
 |i::is,h,j=>by
  have hi:=h i (by simp);have ih:=Tf (pos:=pos) (is:=is) fun k hk=>h k (by simp [hk]);simp only [Kq];rw [dD,aJu hi]
  cases j with
  |zero=>simp [aJu hi]
  |succ j=>simpa using ih j
section
variable {P:Program}
theorem uD {ord:List Nat} {ops:Array Oper} (p:Perm ops.size ord) {i:Nat} (hi:i<ops.size):(jA ord ops.toList)[posOf ord i]?=(ops[i]?).map (ER (posOf ord)):=by
 unfold jA
 rw [Tf (by
  intro k hk;obtain⟨j,hj,rfl⟩:=aKG hk;obtain⟨i',h1,h2,_⟩:=p.back j (by rw [<- p.len]; exact hj);rw [aJu hj] at h1;simp only [aJf] at h1;rw [h1]
  simpa using h2),p.at' i hi]
 simp
theorem xI {ord:List Nat} {ops:Array Oper} (p:Perm ops.size ord):(jA ord ops.toList).length=ops.size:=by
 have h0: ∀j,j<ops.size->(jA ord ops.toList)[j]?.isSome=true:=by intro j hj;obtain⟨i,_,h2,h3⟩:=p.back j hj;have:=uD p h2;rw [h3] at this;rw [this];simp [h2]
 have hle:(jA ord ops.toList).length<=ops.size:=by
  have: ∀(is:List Nat),(Kq (posOf ord) ops.toList is).length<=is.length:=by
   intro is
   induction is with
   |nil=>simp [Kq]
   |cons i is ih=>simp only [Kq]; split<;>simp; omega
  have:=this ord;rw [p.len] at this;exact this
 rcases aJx (jA ord ops.toList).length ops.size with h|h
 ·have:=h0 _ h;rw [aJ6 (aJi _)] at this;simp at this
 ·omega
theorem apS (pos:Nat->Nat) (o:Oper) (a:Act) (w:World) (K:Act->World->Prop) (Q:Exit->Act->World->Prop):(ER pos o).wp P a w K Q=o.wp P a w K Q:=rfl
theorem abC (pos:Nat->Nat) (o:Oper) (a:Act) (w:World):(ER pos o).asks P a w=o.asks P a w:=rfl
theorem U8 {ord:List Nat} {ops:Array Oper} (p:Perm ops.size ord) (tmps:Array Value) (j:Nat):yielded (jA ord ops.toList).toArray tmps (posOf ord j)=yielded ops tmps j:=by
 unfold yielded
 have:((jA ord ops.toList).toArray[posOf ord j]?).bind (·.dst)=(ops[j]?).bind (·.dst):=by
  rw [aK1];rcases aJx j ops.size with h|h
  ·rw [uD p h];cases ops[j]?<;>rfl
  ·rw [p.ge (by omega),aJ6 (by rw [xI p]; exact aJi _),aKH h]
 rw [this]
theorem XH {ord:List Nat} {ops:Array Oper} (p:Perm ops.size ord) (tmps:Array Value) (o:Oper) :
 Region.wanted (ER (posOf ord) o) (yielded (jA ord ops.toList).toArray tmps)=Region.wanted o (yielded ops tmps):=by
 unfold Region.wanted ER
 cases hg:o.guard with
 |none=>rfl
 |some g=> obtain⟨j,b⟩:=g;simp only;rw [U8 p]
theorem nG {md:Region.Mode} {ops:Array Oper} {listed:Array Bool} {i:Nat}:i∈Region.ready md ops listed↔∃o,ops[i]?=some o/\listed.getD i true=false/\∀e∈o.after.toList,Region.binds md e=true->listed.getD e.on false=true:=by
 unfold Region.ready;simp only [aKh,aJ8,aJh,aKm];constructor
 ·rintro⟨h1,h2,h3⟩;have e:=aLu h1;refine⟨_,e,h2,?_⟩;rw [e] at h3;simp only [aJU,aJl,aLX] at h3;intro x hx hb;have:=h3 x (by simpa using hx);rw [hb] at this;simpa using this
 ·rintro⟨o,h1,h2,h3⟩;have hi:i<ops.size:=(aJK.1 h1).1;refine⟨hi,h2,?_⟩;rw [h1];simp only [aJU,aJl,aLX];intro x hx
  cases hb:Region.binds md x with
  |false=>rfl
  |true=>simpa using h3 x (by simpa using hx) hb
theorem FD {md:Region.Mode} {ord:List Nat} {ops:Array Oper} (p:Perm ops.size ord) {listed listed':Array Bool} (hz:listed.size=ops.size) (hz':listed'.size=ops.size) (hl: ∀i,i<ops.size->listed'[posOf ord i]?=listed[i]?) {i:Nat} (hi:i<ops.size) :
 posOf ord i∈Region.ready md (jA ord ops.toList).toArray listed'↔i∈Region.ready md ops listed:=by
 have hg: ∀(k:Nat) (d:Bool),listed'.getD (posOf ord k) d=listed.getD k d:=by
  intro k d;simp only [aJY];rcases aJx k ops.size with h|h
  ·rw [hl k h]
  ·rw [p.ge (by omega),aKH (by omega),aKH (by omega)]
 rw [nG,nG,aK1,uD p hi,hg];constructor
 ·rintro⟨o,h1,h2,h3⟩;rw [aJA] at h1;obtain⟨o0,h0,rfl⟩:=h1;refine⟨o0,h0,h2,fun e he hb=>?_⟩
  have:=h3 { e with on:=posOf ord e.on } (by
   simp only [ER,aLz,aJE]
   exact⟨e,he,rfl⟩) hb
  rwa [hg] at this
 ·rintro⟨o,h1,h2,h3⟩;refine⟨ER (posOf ord) o,by rw [h1]; rfl,h2,fun e he hb=>?_⟩;simp only [ER,aLz,aJE] at he;obtain⟨e0,he0,rfl⟩:=he;show listed'.getD (posOf ord e0.on) false=true;rw [hg];exact h3 e0 he0 hb
theorem ZW {md:Region.Mode} {ord:List Nat} {ops:Array Oper} (p:Perm ops.size ord) {Q:Exit->Act->World->Prop}: ∀(fuel:Nat) (listed listed':Array Bool) (a:Act) (w:World),listed.size=ops.size->listed'.size=ops.size->
 (∀i,i<ops.size->listed'[posOf ord i]?=listed[i]?)->wpAny P md (jA ord ops.toList).toArray Q fuel listed' a w->wpAny P md ops Q fuel listed a w:=by
 have aGp: ∀(listed listed':Array Bool),listed.size=ops.size->listed'.size=ops.size->(∀i,i<ops.size->listed'[posOf ord i]?=listed[i]?)->
  (Region.ready md (jA ord ops.toList).toArray listed'= []↔Region.ready md ops listed= []):=by
  intro listed listed' hz hz' hl;constructor
  ·intro h;rw [aLh] at h ⊢;intro i hm
   have hi:i<ops.size:=by obtain⟨o,ho,_⟩:=nG.1 hm;exact (aJK.1 ho).1
   exact h _ ((FD p hz hz' hl hi).2 hm)
  ·intro h;rw [aLh] at h ⊢;intro j hm
   have hj:j<ops.size:=by obtain⟨o,ho,_⟩:=nG.1 hm;rw [aK1] at ho;rw [<- xI p];exact (aJC.1 ho).1
   obtain⟨i,_,h2,h3⟩:=p.back j hj;subst h3;exact h _ ((FD p hz hz' hl h2).1 hm)
 intro fuel
 induction fuel with
 |zero=> intro listed listed' a w hz hz' hl h;exact⟨(aGp _ _ hz hz' hl).1 h.1,h.2⟩
 |succ fuel ih=>
  intro listed listed' a w hz hz' hl h;refine⟨fun h0=>h.1 ((aGp _ _ hz hz' hl).2 h0),fun i hm=>?_⟩
  have hi:i<ops.size:=by obtain⟨o,ho,_⟩:=nG.1 hm;exact (aJK.1 ho).1
  have hh:=h.2 _ ((FD p hz hz' hl hi).2 hm)
  have hstep: ∀a w,wpAny P md (jA ord ops.toList).toArray Q fuel (listed'.setIfInBounds (posOf ord i) true) a w->wpAny P md ops Q fuel (listed.setIfInBounds i true) a w:=by
   intro a w hw;refine ih _ _ a w (by simp [hz]) (by simp [hz']) (fun k hk=>?_) hw;rw [aK2,aK2];by_cases hik:i=k
   ·subst hik;rw [aJe rfl,aJe rfl,hz,hz',aJe hi,aJe (p.lt hi)]
   ·rw [aJd hik,aJd (fun h=>hik (p.inj hi hk h)),hl k hk]
  have h2:=wpOp_mono hstep hh;unfold wpOp at h2 ⊢;rw [aK1,uD p hi] at h2
  cases ho:ops[i]? with
  |none=>rw [ho] at h2; exact h2
  |some o=> rw [ho] at h2;simp only [aJU] at h2 ⊢;rw [XH p,apS,abC] at h2;exact h2
structure axJ where
 ord:List Nat
 h:ZJ
def avX (tt:TT) (H:Nat->Nat->Option axJ) (call:dS) (g id:Nat) (all:List Oper) (s:St):T St:=match H g id with
 |some p=>match p.ord with
  |[]=>PO tt call all (statOf all p.h) s
  |o::os=>match jA (o::os) all with
   |all'=>PO tt call all' (statOf all' p.h) s
 |none=> .fail
def aFx (tt:TT) (H:Nat->Nat->Option axJ) (g id:Nat) (all:List Oper):Bool:=match H g id with
 |some p=>match p.ord with
  |[]=>Dc tt all p.h
  |o::os=>VJ (o::os) all.length&&Dc tt (jA (o::os) all) p.h
 |none=>true
theorem avW [Glob] {tt:TT} (htt:eY P tt) (hm:P.follows .mixedOrders=true) {H:Nat->Nat->Option axJ} {call:dS} (hc:kU P call) (g:Nat):DJ P (aFx tt H g) (avX tt H call g):=by
 intro id ops hk E s s' a w Q hd fit h hq;unfold aFx at hk;unfold avX at h;split at hk
 ·rename_i p hp;rw [hp] at h;simp only at h;split at hk
  ·rename_i he;rw [he] at h;have:=Jy hk;refine aBd htt hm hc id ops E s s' a w Q hd fit ?_ hq;unfold draw;rw [this];exact h
  ·rename_i o os he;rw [he] at h;simp only at h;simp only [aJh] at hk;have hp:=akB hk.1;have hp:Perm ops.size (o::os):=by simpa using hp
   have:=Jy hk.2;refine wp_region_any hm ?_
   have hd': ∀x∈((jA (o::os) ops.toList).toArray).toList,∀d,x.dst=some d->d<a.tmps.size:=by
    intro x hx d hxd;obtain⟨j,hj,rfl⟩:=aKG hx;have hj':j<ops.size:=by rw [<- xI hp]; exact hj
    obtain⟨i,_,h2,h3⟩:=hp.back j hj';have hg:=uD hp h2;rw [h3] at hg
    have hx2:(jA (o::os) ops.toList)[j]?=some ((jA (o::os) ops.toList).toArray.toList[j]):=by rw [aJu hj]
    rw [hx2] at hg;rw [aLu h2] at hg;simp only [aJU,aJf] at hg;rw [hg] at hxd;exact hd (ops[i]) (by simp) d hxd
   have key:=PN (ops:=(jA (o::os) ops.toList).toArray) htt hc hd' fit (by
    unfold draw;rw [this]
    exact h) hq
   have hsz:(jA (o::os) ops.toList).toArray.size=ops.size:=by simpa using xI hp
   rw [hsz] at key;refine ZW hp _ _ _ _ _ (by simp) (by simp) (fun i hi=>?_) key;rw [aKI,aKI,aJe hi,aJe (hp.lt hi)]
 ·rename_i hh;rw [hh] at h;simp [T.leaf] at h
end
end
end Go.As
end
section
namespace Go.As
noncomputable section
def Ti (h:Hp):List Nat->Tr dW->Tr dW
 |[],t=>t
 |i::is,t=>match h.get i with
  |some o=>Ti h is (t.put i (some o))
  |none=>Ti h is t
theorem Jh {h:Hp}: ∀(is:List Nat) (t:Tr dW),(∀id o,t.get id=some o->h.get id=some o)->∀id o,(Ti h is t).get id=some o->h.get id=some o
 |[],_,ht,id,o,hg=>ht id o hg
 |i::is,t,ht,id,o,hg=>by
  simp only [Ti] at hg;split at hg
  ·rename_i x hx;refine Jh is _ (fun j y hy=>?_) id o hg;rw [Tr.get_put] at hy;split at hy
   ·rename_i he;subst he;simp only [aJf] at hy;subst hy;exact hx
   ·exact ht j y hy
  ·exact Jh is t ht id o hg
def Jf:List (SE×List AV)->List (SE×List AV)->Bool
 |[],[]=>true
 |(i,a)::x,(j,b)::y=>gZ i j&&lC a b&&Jf x y
 |_,_=>false
theorem SI: ∀{a b:List (SE×List AV)},Jf a b=true->a=b
 |[],[],_=>rfl
 |[],_::_,h=>by simp [Jf] at h
 |_::_,[],h=>by simp [Jf] at h
 |(i,a)::x,(j,b)::y,h=>by simp only [Jf,aJh] at h;rw [bZ _ _ h.1.1,iH _ _ h.1.2,SI h.2]
def Vx:dW->dW->Bool
 | .cells a e,.cells b f=>lC a b&&Nat.beq e f
 | .vec a t e x,.vec b u f y=>gZ a b&&Nat.beq t u&&Nat.beq e f&&Jf x y
 |_,_=>false
theorem aaW {a b:dW} (h:Vx a b=true):a=b:=by
 cases a<;>cases b<;>simp only [Vx,aJw,aJh] at h
 ·rw [iH _ _ h.1,aJj h.2]
 ·rw [bZ _ _ h.1.1.1,aJj h.1.1.2,aJj h.1.2,SI h.2]
def J6 {α:Type} (f:α->α->Bool):Tr α->Tr α->Bool
 | .nil,.nil=>true
 | .node v l r,.node u x y=>(match v,u with |some a,some b=>f a b|none,none=>true|_,_=>false)&&J6 f l x&&J6 f r y
 |_,_=>false
theorem GK {α:Type} {f:α->α->Bool} (hf: ∀a b,f a b=true->a=b): ∀(a b:Tr α),J6 f a b=true->a=b
 | .nil,b,h=>by cases b<;>simp [J6] at h; rfl
 | .node v l r,b,h=>by
   cases b with
   |nil=>simp [J6] at h
   |node u x y=>
    simp only [J6,aJh] at h;rw [GK hf l x h.1.2,GK hf r y h.2];have h1:=h.1.1;cases v<;>cases u<;>simp only [aJw] at h1
    ·rfl
    ·rw [hf _ _ h1]
def inL (i:Nat):List Nat->Bool
 |[]=>false
 |j::l=>match Nat.beq i j with
  |true=>true
  |false=>inL i l
theorem V9 {i:Nat}: ∀{l:List Nat},inL i l=true↔i∈l
 |[]=>by simp [inL]
 |j::l=>by
  simp only [inL,aJq];split
  ·rename_i h; simp [aJj h]
  ·rename_i h; rw [V9]; simp [aKO h]
def without (i:Nat):List Nat->List Nat
 |[]=>[]
 |j::l=>match Nat.beq i j with
  |true=>without i l
  |false=>j::without i l
theorem xK {i k:Nat}: ∀{l:List Nat},k∈without i l↔k∈l/\k≠i
 |[]=>by simp [without]
 |j::l=>by
  simp only [without];split
  ·rename_i h;have:=aJj h;subst this;rw [xK];simp only [aJq];constructor
   ·rintro⟨h1,h2⟩; exact⟨.inr h1,h2⟩
   ·rintro⟨h1|h1,h2⟩
    ·exact absurd h1 h2
    ·exact⟨h1,h2⟩
  ·rename_i h;have:=aKO h;simp only [aJq];rw [xK];constructor
   ·rintro (rfl|⟨h1,h2⟩)
    ·exact⟨.inl rfl,fun e=>this e.symm⟩
    ·exact⟨.inr h1,h2⟩
   ·rintro⟨h1|h1,h2⟩
    ·exact .inl h1
    ·exact .inr ⟨h1,h2⟩
def TM (all:List Oper) (rem:List Nat) (i:Nat):Bool:=match iD all i with
 |some o=>o.after.toList.all fun e=>!Region.binds .any e||(!inL e.on rem&&Nat.blt e.on all.length)
 |none=>false
def Zv (tt:TT) (call:dS) (all:List Oper) (pc:List (SB×Bool)) (tS:Tr AV) (tH:Hp):Nat->List Nat->Tr AV->Hp->Bool
 |0,rem,S,H=>match rem with
  |[]=>J6 fC S tS&&J6 Vx H.m tH.m&&Nat.beq H.next tH.next&&(match H.res with |none=>true|_=>false)
  |_=>false
 |n+1,rem,S,H=>match rem with
  |[]=>false
  |_=>rem.any (TM all rem)&&rem.all fun i=>match TM all rem i with
   |false=>true
   |true=>match iD all i with
    |some o=>match ev1 tt call all o ⟨S,H,pc⟩ with
     | .ret (v,s')=>Zv tt call all pc tS tH n (without i rem) (Ci S o.dst v) s'.h
     |_=>false
    |none=>false
section
variable {P:Program}
theorem apE {E:En} {h:Array Obj} {S:Tr AV} {a:Act} (sr:SR E h S a) {d:Option Nat} {v:AV} {u:Value} (hd: ∀t,d=some t->t<a.tmps.size) (hv:VR E h v u):SR E h (Ci S d v) (a.put d u):=by
 cases d with
 |none=>exact sr
 |some t=>exact sr.put (hd t rfl) hv
theorem axC [Glob] {tt:TT} (htt:eY P tt) {call:dS} (hc:kU P call) {ops:Array Oper} {ρ:Nat->Int} {pc:List (SB×Bool)} (hpc:bM ρ pc) {tS:Tr AV} {tH:Hp} (htr:tH.res=none) {Q:Exit->Act->World->Prop} {m:Nat} (hd: ∀o∈ops.toList,∀d,o.dst=some d->d<m) :
 ∀(n:Nat) (rem:List Nat) (S:Tr AV) (H:Hp) (E:En) (a:Act) (w:World) (listed:Array Bool),Zv tt call ops.toList pc tS tH n rem S H=true->E.ρ=ρ->bJ E H w->SR E w.heap S a->a.tmps.size=m->listed.size=ops.size->
  (∀i,i<ops.size->(listed[i]?=some true↔i∉rem))->(∀i∈rem,i<ops.size)->
  (∀(a':Act) (w':World) (E':En),Stp E H w E' tH w'->bJ E' tH w'->SR E' w'.heap tS a'->a'.tmps.size=m->a'.defers=a.defers->Q .normal a' w')->wpAny P .any ops Q n listed a w:=by
 intro n;have hat: ∀(i:Nat),iD ops.toList i=ops[i]?:=fun i=>by rw [dD,aJS]
 have apT: ∀(rem:List Nat) (listed:Array Bool),listed.size=ops.size->(∀i,i<ops.size->(listed[i]?=some true↔i∉rem))->∀i,i∈Region.ready .any ops listed->i∈rem/\TM ops.toList rem i=true/\i<ops.size:=by
  intro rem listed hsz hl i hi;obtain⟨o,ho,h1,h2⟩:=nG.1 hi;have hin:i<ops.size:=(aJK.1 ho).1
  have hf:listed[i]?=some false:=by
   have e:listed[i]?=some (listed[i]'(by omega)):=by simp
   rw [e];simp only [aJY,e,aJl] at h1;rw [h1]
  refine⟨?_,?_,hin⟩
  ·apply Classical.byContradiction;intro hn;rw [(hl i hin).2 hn] at hf;simp at hf
  ·unfold TM;rw [hat,ho];simp only [aJD];intro e he
   cases hb:Region.binds .any e with
   |false=>rfl
   |true=>
    have:=h2 e he hb
    have hlt:e.on<ops.size:=by
     rcases aJx e.on ops.size with h|h
     ·exact h
     ·simp [aJY,aKH (show listed.size<=e.on by omega)] at this
    simp only [aLj,aKZ,aJh,aKm];refine⟨?_,by simpa [aKn] using hlt⟩
    cases hin2:inL e.on rem with
    |false=>rfl
    |true=>
     exfalso;have hm:=V9.1 hin2;have e1:listed[e.on]?=some (listed[e.on]'(by omega)):=by simp [hsz,hlt]
     simp only [aJY,e1,aJl] at this;rw [this] at e1;exact (hl e.on hlt).1 e1 hm
 have aDK: ∀(rem:List Nat) (listed:Array Bool),listed.size=ops.size->(∀i,i<ops.size->(listed[i]?=some true↔i∉rem))->(∀i∈rem,i<ops.size)->rem.any (TM ops.toList rem)=true->Region.ready .any ops listed≠[]:=by
  intro rem listed hsz hl hr hany hnil;rw [aLJ] at hany;obtain⟨i,hi,hm⟩:=hany;have hin:=hr i hi
  have:i∈Region.ready .any ops listed:=by
   rw [nG];unfold TM at hm;rw [hat] at hm;split at hm
   ·rename_i o ho;refine⟨o,ho,?_,fun e he hb=>?_⟩
    ·have e1:listed[i]?=some (listed[i]'(by omega)):=by simp [hsz,hin]
     simp only [aJY,e1,aJl]
     cases hb:listed[i]'(by omega) with
     |false=>rfl
     |true=> rw [hb] at e1;exact absurd hi ((hl i hin).1 e1)
    ·rw [aJD] at hm;have:=hm e he;rw [hb] at this;simp only [aLj,aKZ,aJh,aKm] at this;obtain⟨this,hlt⟩:=this;have hlt:e.on<ops.size:=by simpa [aKn] using hlt
     have hnot:e.on∉rem:=fun h=>by rw [V9.2 h] at this; simp at this
     have:=(hl e.on hlt).2 hnot;simp [aJY,this]
   ·simp at hm
  rw [hnil] at this;simp at this
 induction n with
 |zero=>
  intro rem S H E a w listed h hρ r sr ha hsz hl hr hq;simp only [Zv] at h;split at h
  ·simp only [aJh] at h;obtain⟨⟨⟨h1,h2⟩,h3⟩,h4⟩:=h;have e1:=GK oN _ _ h1;have e2:=GK (fun _ _=>aaW) _ _ h2;have e3:=aJj h3
   have e4:H.res=none:=by
    split at h4
    ·assumption
    ·simp at h4
   have eH:H=tH:=by obtain⟨m1,n1,r1⟩:=H;obtain⟨m2,n2,r2⟩:=tH;simp only at e2 e3 e4 htr;subst e2 e3 e4 htr;rfl
   subst e1 eH;refine⟨?_,hq a w E (Stp.refl _ _ _) r sr ha rfl⟩;rw [aLh];intro i hi;have:=(apT [] listed hsz hl i hi).1;simp at this
  ·simp at h
 |succ n ih=>
  intro rem S H E a w listed h hρ r sr ha hsz hl hr hq;simp only [Zv] at h;split at h
  ·simp at h
  ·rename_i hne;simp only [aJh] at h;refine⟨fun h0=>absurd h0 (aDK rem listed hsz hl hr h.1),fun i hi=>?_⟩;obtain⟨g1,g2,g3⟩:=apT rem listed hsz hl i hi;have hi2:=(aJD.1 h.2) i g1;rw [g2] at hi2;simp only at hi2;split at hi2
   ·rename_i o ho;have ho':ops[i]?=some o:=by rw [<- hat]; exact ho
    split at hi2
    ·rename_i v s' hev;have hact:=WU htt hc (ops:=ops) (o:=o) (s:=⟨S,H,pc⟩) (s':=s') (v:=v) (ρ:=ρ) hpc (by rw [hev]; rfl);refine hact.wpOp hρ r sr ho' fun u E' w' st r' hv=>?_
     have hdo: ∀t,o.dst=some t->t<a.tmps.size:=by intro t ht;rw [ha];exact hd o (Array.mem_toList_iff.2 (aLg ho')) t ht
     have sr':SR E' w'.heap (Ci S o.dst v) (a.put o.dst u):=apE (sr.keep (st.keeps r)) hdo hv;refine ih (without i rem) _ _ E' (a.put o.dst u) w' (listed.setIfInBounds i true) hi2 (st.ρ.trans hρ) r' sr' (by rw [Oc]; exact ha) (by simpa using hsz) ?_ ?_ ?_
     ·intro k hk;rw [aK2,xK];by_cases hik:i=k
      ·subst hik;rw [aJe rfl,aJe (by omega)];simp
      ·rw [aJd hik,hl k hk];constructor
       ·intro h1 h2; exact h1 h2.1
       ·intro h1 h2; exact h1 ⟨h2,fun e=>hik e.symm⟩
     ·intro k hk;exact hr k (xK.1 hk).1
     ·intro a' w2 E2 st2 r2 sr2 hs2 hd2;exact hq a' w2 E2 (st.trans st2) r2 sr2 hs2 (by rw [hd2,As.put_defers])
    ·simp at hi2
   ·simp at hi2
end
end
end Go.As
end
section
namespace Go.As
noncomputable section
def PI (o:Oper) (j:Nat):Bool:=o.after.toList.any fun e=>Region.binds .any e&&Nat.beq e.on j
def Vw (n1:Nat) (all:List Oper):Bool:=
 Nat.blt 0 n1&&Nat.ble n1 all.length&&
 (List.range all.length).all (fun j=>match iD all j with
  |some o=>match Nat.blt j n1 with
   |true=>(o.after.toList.all fun e=>!Region.binds .any e||Nat.blt e.on j)&&(match o.guard with |some (k,_)=>Nat.blt k n1|none=>true)
   |false=>PI o (n1-1)
  |none=>false)&&
 (match iD all (n1-1) with
  |some o=>(List.range (n1-1)).all fun i=>PI o i
  |none=>false)
structure adV (n1:Nat) (ops:Array Oper):Prop where
 pos:0<n1
 le:n1<=ops.size
 back: ∀(i:Nat) (o:Oper),i<n1->ops[i]?=some o->∀e∈o.after.toList,Region.binds .any e=true->e.on<i
 guard: ∀(i:Nat) (o:Oper),i<n1->ops[i]?=some o->∀k b,o.guard=some (k,b)->k<n1
 late: ∀(i:Nat) (o:Oper),n1<=i->ops[i]?=some o->∃e∈o.after.toList,Region.binds .any e=true/\e.on=n1-1
 last: ∀(o:Oper),ops[n1-1]?=some o->∀i,i<n1-1->∃e∈o.after.toList,Region.binds .any e=true/\e.on=i
theorem Uy {o:Oper} {j:Nat} (h:PI o j=true): ∃e∈o.after.toList,Region.binds .any e=true/\e.on=j:=by unfold PI at h;rw [aLJ] at h;obtain⟨e,he,h⟩:=h;simp only [aJh] at h;exact⟨e,he,h.1,aJj h.2⟩
theorem aaS {n1:Nat} {ops:Array Oper} (h:Vw n1 ops.toList=true):adV n1 ops:=by
 have hat: ∀(i:Nat),iD ops.toList i=ops[i]?:=fun i=>by rw [dD,aJS]
 unfold Vw at h;simp only [aJh] at h;obtain⟨⟨⟨h1,h2⟩,h3⟩,h4⟩:=h;have h1:0<n1:=by simpa [aKn] using h1
 have h2:n1<=ops.size:=by simpa using aJ9 h2
 rw [aJD] at h3
 have h3: ∀(i:Nat) (o:Oper),ops[i]?=some o->(match Nat.blt i n1 with
  |true=>(o.after.toList.all fun e=>!Region.binds .any e||Nat.blt e.on i)&&(match o.guard with |some (k,_)=>Nat.blt k n1|none=>true)
  |false=>PI o (n1-1))=true:=by
  intro i o ho;have hi:i<ops.size:=(aJK.1 ho).1;have:=h3 i (aJ8.2 (by simpa using hi));rw [hat,ho] at this;exact this
 refine⟨h1,h2,?_,?_,?_,?_⟩
 ·intro i o hi ho e he hb;have:=h3 i o ho;rw [show Nat.blt i n1=true by simpa [aKn] using hi] at this;simp only [aJh] at this;have:=(aJD.1 this.1) e he;rw [hb] at this;simpa [aKn] using this
 ·intro i o hi ho k b hg;have:=h3 i o ho;rw [show Nat.blt i n1=true by simpa [aKn] using hi] at this;simp only [aJh,hg] at this;simpa [aKn] using this.2
 ·intro i o hi ho;have:=h3 i o ho
  rw [show Nat.blt i n1=false by
   cases hb:Nat.blt i n1 with
   |false=>rfl
   |true=>rw [aKn] at hb; omega] at this
  exact Uy this
 ·intro o ho i hi;rw [hat,ho] at h4;exact Uy ((aJD.1 h4) i (aJ8.2 hi))
section
variable {P:Program}
theorem wp_exit {o:Oper} {a:Act} {w:World} {K:Act->World->Prop} {Q1 Q:Exit->Act->World->Prop} (h: ∀e a w,e≠.normal->Q1 e a w->Q e a w) (hh:o.wp P a w K Q1):o.wp P a w K Q:=by
 have hl:LetsOut Q1->LetsOut Q:=fun⟨a,w,h1⟩=> ⟨a,w,h _ _ _ (by simp) h1⟩;unfold Oper.wp at *;generalize (execOp a.eval o).run P w=r at *
 cases r with
 |ok n w'=>
  cases n<;>simp only [Oper.upon] at hh ⊢<;>
   first
    |exact hh
    |exact Calls.mono hh (fun e w'' he=>by cases e<;>first |exact he|exact h _ _ _ (by simp) he|exact hl he)
 |halt x w'=>cases x<;>simp only [Oper.upon] at hh ⊢<;>first |exact hh|exact h _ _ _ (by simp) hh
theorem Yu {l l':Nat->Bool} {i:Nat} (h1:l i=false) (h2:l' i=true) (h: ∀j,j≠i->l' j=l j): ∀n,i<n->left l' n+1=left l n
 |0,hi=>by omega
 |n+1,hi=>by
  simp only [left];by_cases hin:i=n
  ·subst hin
   have: ∀m,m<=i->left l' m=left l m:=by
    intro m
    induction m with
    |zero=>intro _; rfl
    |succ m ih=> intro hm;simp only [left];rw [ih (by omega),h m (by omega)]
   rw [this i (aJi _)];simp [h1,h2]
  ·have:=Yu h1 h2 h n (by omega);rw [h n (fun e=>hin e.symm)];omega
theorem OG {l:Nat->Bool}: ∀n,(∀i,i<n->l i=true)->left l n=0
 |0,_=>rfl
 |n+1,h=>by simp only [left];rw [OG n (fun i hi=>h i (by omega)),h n (by omega)];rfl
def firstT (n1 n:Nat):Array Bool:=(Array.range n).map fun i=>decide (i<n1)
theorem XE {n1:Nat} {ops:Array Oper} (sf:adV n1 ops) {Q Q1:Exit->Act->World->Prop} (hq: ∀e a w,e≠.normal->Q1 e a w->Q e a w) (hn: ∀a w,Q1 .normal a w->wpAny P .any ops Q (ops.size-n1) (firstT n1 ops.size) a w) :
 ∀(f:Nat) (l1 l:Array Bool) (a:Act) (w:World),l1.size=n1->l.size=ops.size->(∀i,i<n1->l[i]?=l1[i]?)->(∀i,n1<=i->i<ops.size->l[i]?=some false)->left (fun i=>l1.getD i true) n1=f->(l1[n1-1]?=some true->f=0)->
  wpAny P .any (ops.toList.take n1).toArray Q1 f l1 a w->wpAny P .any ops Q (f+(ops.size-n1)) l a w:=by
 have hR: ∀i,i<n1->(ops.toList.take n1).toArray[i]?=ops[i]?:=by intro i hi;rw [aK1,aKk,aJe hi,aJS]
 have hRs:(ops.toList.take n1).toArray.size=n1:=by have:=sf.le;simp;omega
 have hlf:LetsOut Q1->LetsOut Q:=fun⟨a,w,h1⟩=> ⟨a,w,hq _ _ _ (by simp) h1⟩
 have hget: ∀(l:Array Bool) (i:Nat),i<l.size->(l.getD i true=true↔l[i]?=some true)/\(l.getD i false=true↔l[i]?=some true):=by
  intro l i hi;have e:l[i]?=some (l[i]'hi):=by simp
  simp only [aJY,e,aJl];simp
 intro f
 induction f with
 |zero=>
  intro l1 l a w h1 h2 h3 h4 h5 h6 hw;have hall:=Ju n1 h5
  have:l=firstT n1 ops.size:=by
   apply Array.ext_getElem?;intro i;unfold firstT;rcases aJx i ops.size with hi|hi
   ·rw [aLs,aLt,aJe hi];rcases aJx i n1 with hi1|hi1
    ·rw [h3 i hi1,((hget l1 i (by omega)).1.1 (hall i hi1))];simp [hi1]
    ·rw [h4 i hi1 hi];simp;omega
   ·rw [aKH (by omega),aKH (by simp; omega)]
  rw [this,aJp];exact hn a w hw.2
 |succ f ih=>
  intro l1 l a w h1 h2 h3 h4 h5 h6 hw;rw [show f+1+(ops.size-n1)=(f+(ops.size-n1))+1 by omega];have hle:=sf.le;have hpos:=sf.pos;have hlast:l1[n1-1]?=some true->False:=fun h=>by have:=h6 h; omega
  refine⟨fun hnil=>?_,fun i hi=>?_⟩
  ·exfalso
   have hall: ∀i,i<n1->l[i]?=some true:=by
    intro i
    induction i using Nat.strongRecOn with
    |_ i ih2=>
     intro hi;apply Classical.byContradiction;intro hno;have hio:ops[i]?=some (ops[i]'(by omega)):=by simp
     have:i∈Region.ready .any ops l:=by
      rw [nG];refine⟨_,hio,?_,fun e he hb=>?_⟩
      ·cases hb:l.getD i true with
       |false=>rfl
       |true=>exact absurd ((hget l i (by omega)).1.1 hb) hno
      ·have hlt:=sf.back i _ hi hio e he hb;exact (hget l e.on (by omega)).2.2 (ih2 e.on hlt (by omega))
     rw [hnil] at this;simp at this
   have:=OG (l:=fun i=>l1.getD i true) n1 (fun i hi=>(hget l1 i (by omega)).1.2 (by rw [<- h3 i hi]; exact hall i hi));omega
  ·obtain⟨o,ho,g1,g2⟩:=nG.1 hi;have hin:i<ops.size:=(aJK.1 ho).1
   have hi1:i<n1:=by
    rcases aJx i n1 with h|h
    ·exact h
    ·exfalso;obtain⟨e,e1,e2,e3⟩:=sf.late i o h ho;have:=g2 e e1 e2;rw [e3] at this;have:=(hget l (n1-1) (by omega)).2.1 this;rw [h3 _ (by omega)] at this;exact hlast this
   have hl1:l1.getD i true=false:=by
    cases hb:l1.getD i true with
    |false=>rfl
    |true=> have:=(hget l1 i (by omega)).1.1 hb;rw [<- h3 i hi1] at this;have:=(hget l i (by omega)).1.2 this;rw [g1] at this;simp at this
   have hed: ∀e∈o.after.toList,Region.binds .any e=true->l1.getD e.on false=true:=by intro e he hb;have hlt:=sf.back i o hi1 ho e he hb;have:=(hget l e.on (by omega)).2.1 (g2 e he hb);rw [h3 _ (by omega)] at this;exact (hget l1 e.on (by omega)).2.2 this
   have hr1:i∈Region.ready .any (ops.toList.take n1).toArray l1:=by rw [nG];exact⟨o,by rw [hR i hi1]; exact ho,hl1,hed⟩
   have hop:=hw.2 i hr1
   have hnext: ∀a w,wpAny P .any (ops.toList.take n1).toArray Q1 f (l1.setIfInBounds i true) a w->wpAny P .any ops Q (f+(ops.size-n1)) (l.setIfInBounds i true) a w:=by
    intro a w hw2
    have hleft:left (fun j=>(l1.setIfInBounds i true).getD j true) n1=f:=by
     have:=Yu (l:=fun j=>l1.getD j true) (l':=fun j=>(l1.setIfInBounds i true).getD j true) (i:=i) hl1 (by
      simp only [aJY,aLi]
      split<;>rfl) (fun j hj=>by
      simp only [aJY]
      rw [aKd (fun e=>hj e.symm)]) n1 hi1
     omega
    refine ih _ _ a w (by simpa using h1) (by simpa using h2) (fun k hk=>?_) (fun k hk1 hk2=>?_) hleft (fun hlt=>?_) hw2
    ·rw [aK2,aK2,h3 k hk,h1,h2];by_cases hik:i=k
     ·rw [aJe hik,aJe hik,aJe hin,aJe hi1]
     ·rw [aJd hik,aJd hik]
    ·rw [aKd (by omega)];exact h4 k hk1 hk2
    ·by_cases hil:i=n1-1
     ·rw [<- hleft];refine OG n1 fun k hk=>?_;by_cases hk2:k=i
      ·subst hk2;simp only [aJY,aLi];split<;>rfl
      ·obtain⟨e,e1,e2,e3⟩:=sf.last o (by rw [<- hil]; exact ho) k (by omega);have:=hed e e1 e2;rw [e3] at this;have:=(hget l1 k (by omega)).2.1 this;simp only [aJY];rw [aKd (fun e=>hk2 e.symm),this];rfl
     ·rw [aKd hil] at hlt;exact absurd hlt hlast
   have hop:=wpOp_mono hnext hop;unfold wpOp at hop ⊢;rw [hR i hi1,ho] at hop;rw [ho];simp only at hop ⊢
   have hwant:Region.wanted o (yielded (ops.toList.take n1).toArray a.tmps)=Region.wanted o (yielded ops a.tmps):=by
    unfold Region.wanted
    cases hg:o.guard with
    |none=>rfl
    |some g=> obtain⟨k,b⟩:=g;simp only;have:=sf.guard i o hi1 ho k b hg;unfold yielded;rw [hR k this]
   rw [hwant] at hop;split
   ·rename_i hwt;rw [aJe hwt] at hop;rcases hop with h|⟨h,h'⟩
    ·exact .inl (wp_exit hq h)
    ·exact .inr ⟨h,hlf h'⟩
   ·rename_i hwt;rw [aJd hwt] at hop;exact hop
end
end
end Go.As
end
section
namespace Go.As
noncomputable section
def N9 (n1 n:Nat):List Nat:=(List.range (n-n1)).map fun k=>k+n1
def aGe:AV->List Nat
 | .ptr i _=>[i]
 | .slice i _ _ _=>[i]
 |_=>[]
def aD7 (S:Tr AV):List Nat->List Nat
 |[]=>[]
 |t::ts=>match S.get t with
  |some v=>aGe v++aD7 S ts
  |none=>aD7 S ts
def ahD (all:List Oper) (S:Tr AV):List Nat->List Nat
 |[]=>[]
 |i::is=>match iD all i with
  |some o=>aD7 S (Ot o.op)++ahD all S is
  |none=>ahD all S is
def apH (tt:TT) (call:dS) (all:List Oper) (pc:List (SB×Bool)):List Nat->Tr AV->Hp->Option (Tr AV×Hp)
 |[],S,H=>some (S,H)
 |i::is,S,H=>match iD all i with
  |some o=>match ev1 tt call all o ⟨S,H,pc⟩ with
   | .ret (v,s')=>apH tt call all pc is (Ci S o.dst v) s'.h
   |_=>none
  |none=>none
def Xb (tt:TT) (call:dS) (all:List Oper) (n1:Nat) (s1:St):T St:=
 match s1.h.res with
 |some _=> .fail
 |none=>match (⟨Ti s1.h (ahD all s1.slots (N9 n1 all.length)) .nil,s1.h.next,none⟩ : Hp) with
  |small=>match apH tt call all s1.pc (N9 n1 all.length) s1.slots small with
   |some (S,H)=>match H.res with
    |none=>match Nat.beq H.next s1.h.next&&Zv tt call all s1.pc S H (all.length-n1) (N9 n1 all.length) s1.slots small with
     |true=> .ret ⟨S,⟨Tr.over H.m (Tr.minus small.m s1.h.m),s1.h.next,none⟩,s1.pc⟩
     |false=> .fail
    |some _=> .fail
   |none=> .fail
structure U5 where
 ord:List Nat
 n1:Nat
 h:ZJ
def UC (tt:TT) (H:Nat->Nat->Option U5) (call:dS) (g id:Nat) (all:List Oper) (s:St):T St:=match H g id with
 |some p=>match p.n1 with
  |0=>match p.ord with
   |[]=>PO tt call all (statOf all p.h) s
   |o::os=>match jA (o::os) all with
    |all'=>PO tt call all' (statOf all' p.h) s
  |n1=>(PO tt call (all.take n1) (statOf (all.take n1) p.h) s).bind (Xb tt call all n1)
 |none=> .fail
def Xj (tt:TT) (H:Nat->Nat->Option U5) (g id:Nat) (all:List Oper):Bool:=match H g id with
 |some p=>match p.n1 with
  |0=>match p.ord with
   |[]=>Dc tt all p.h
   |o::os=>VJ (o::os) all.length&&Dc tt (jA (o::os) all) p.h
  |n1=>Vw n1 all&&Dc tt (all.take n1) p.h
 |none=>true
section
variable {P:Program}
theorem TJ {n1 n i:Nat} (h:n1<=n):i∈N9 n1 n↔n1<=i/\i<n:=by
 unfold N9;rw [aJE];constructor
 ·rintro⟨k,hk,rfl⟩;rw [aJ8] at hk;omega
 ·rintro⟨h1,h2⟩;exact⟨i-n1,aJ8.2 (by omega),by omega⟩
theorem akN (n:Nat): ∀m,m<=n->left (fun i=>(Array.replicate n false).getD i true) m=m:=by
 intro m
 induction m with
 |zero=>intro _; rfl
 |succ m ih=>
  intro hm;have hlt:m<n:=by omega
  simp only [left];rw [ih (by omega)];simp [hlt]
theorem adN [Glob] {tt:TT} (htt:eY P tt) {call:dS} (hc:kU P call) {ops:Array Oper} {n1:Nat} (sf:adV n1 ops) {E:En} {s s1 s':St} {a a1:Act} {w w1:World} {Q:Exit->Act->World->Prop}
 (hd: ∀o∈ops.toList,∀d,o.dst=some d->d<a.tmps.size) (ht:Then E s a w s1 a1 w1) (h:(Xb tt call ops.toList n1 s1).leaf E.ρ=some s') (hq: ∀a' w',Then E s a w s' a' w'->Q .normal a' w') :
 wpAny P .any ops Q (ops.size-n1) (firstT n1 ops.size) a1 w1:=by
 obtain⟨d1,z1,E1,st1,f1⟩:=ht;have hlen:ops.toList.length=ops.size:=aJM;unfold Xb at h;split at h
 ·simp [T.leaf] at h
 ·rename_i hres;simp only at h;split at h
  ·rename_i S H hseq;split at h
   ·rename_i hHr;split at h
    ·rename_i hall;simp only [aJh] at hall;have hnx:=aJj hall.1;have:=aH h;subst this
     have hsub: ∀id o,(⟨Ti s1.h (ahD ops.toList s1.slots (N9 n1 ops.toList.length)) .nil,s1.h.next,none⟩ : Hp).get id=some o->s1.h.get id=some o:=
      fun id o hg=>Jh _ _ (fun _ _ hh=>by simp [Tr.get] at hh) id o hg
     have rs:=f1.rel.part hsub (aJi _) (by simp);have hpc:bM E1.ρ s1.pc:=f1.pc;have hal:=hall.2;rw [hlen] at hal;refine axC htt hc (ops:=ops) (ρ:=E1.ρ) (pc:=s1.pc) hpc hHr (m:=a.tmps.size) hd (ops.size-n1) (N9 n1 ops.size) s1.slots _ E1 a1 w1 (firstT n1 ops.size) hal rfl (by rw [hlen] at rs; exact rs) f1.sr z1 (by simp [firstT]) ?_ ?_ ?_
     ·intro i hi;rw [TJ sf.le];unfold firstT;rw [aLs,aLt,aJe hi];simp only [aJU,aJf,decide_eq_true_eq];omega
     ·intro i hi;exact ((TJ sf.le).1 hi).2
     ·intro a2 w2 E2 st2 r2 sr2 z2 d2;rw [hlen] at hsub;obtain⟨Hc,e0,_,_,r3,ZL⟩:=asH f1.rel hsub st2 r2 s1.h.next (fun id hid=>r2.fresh id (by omega))
      have dX:=ZL.strong (by rw [e0]; exact aJi _) (by rw [e0]) (fun id hdm=>by
       rcases st2.dmn id hdm with h1|h1|h1
       ·exact .inl h1
       ·have h1':s1.h.next<=id/\id<H.next:=h1;omega
       ·simp at h1)
      subst e0;refine hq a2 w2 ⟨d2.trans d1,z2,E2,st1.trans ?_,?_⟩
      ·rw [hlen]; exact dX
      ·refine⟨by rw [hlen]; exact r3,sr2,?_⟩;show bM E2.ρ s1.pc;rw [st2.ρ];exact hpc
    ·simp [T.leaf] at h
   ·simp [T.leaf] at h
  ·simp [T.leaf] at h
theorem Ik [Glob] {tt:TT} (htt:eY P tt) (hm:P.follows .mixedOrders=true) {H:Nat->Nat->Option U5} {call:dS} (hc:kU P call) (g:Nat):DJ P (Xj tt H g) (UC tt H call g):=by
 intro id ops hk E s s' a w Q hd fit h hq;unfold Xj at hk;unfold UC at h;split at hk
 ·rename_i p hp;rw [hp] at h;simp only at h;split at hk
  ·rename_i hn;rw [hn] at h;simp only at h
   have hP:=avW (P:=P) htt hm (H:=fun _ _=>some ⟨p.ord,p.h⟩) hc g id ops (by
    unfold aFx
    exact hk) E s s' a w Q hd fit (by
    unfold avX
    exact h) hq
   exact hP
  ·rename_i n1 hn;split at h
   ·rename_i h0;exact absurd h0 hn
   ·rename_i n1' _;simp only [aJh] at hk;have sf:=aaS hk.1;have hst:=Jy hk.2;obtain⟨s1,h1,h2⟩:=T.gQ h;refine wp_region_any hm ?_;have hle:=sf.le;have hRs:(ops.toList.take p.n1).toArray.size=p.n1:=by simp; omega
    have hd1: ∀o∈(ops.toList.take p.n1).toArray.toList,∀d,o.dst=some d->d<a.tmps.size:=by intro o ho;exact hd o (aJX (by simpa using ho))
    have key:=PN (P:=P) (ops:=(ops.toList.take p.n1).toArray) (Q:=fun e a' w'=>match e with | .normal=>wpAny P .any ops Q (ops.size-p.n1) (firstT p.n1 ops.size) a' w'|e=>Q e a' w') htt hc hd1 fit (s':=s1) (by
     unfold draw;rw [List.toList_toArray,hst]
     exact h1) (fun a' w' ht=>adN htt hc sf hd ht h2 hq)
    rw [hRs] at key
    have:=XE sf (Q:=Q) (fun e a w hne hh=>by
     cases e with
     |normal=>exact absurd rfl hne
     |_=>exact hh) (fun a w hh=>hh) p.n1 (Array.replicate p.n1 false) (Array.replicate ops.size false) a _ (by simp) (by simp) (fun i hi=>by
     rw [aKI,aKI,aJe hi,aJe (by omega)]) (fun i _ hi=>by
     rw [aKI,aJe hi]) (by
     exact akN p.n1 p.n1 (aJi _)) (fun hh=>by
     rw [aKI,aJe (by have:=sf.pos; omega)] at hh
     simp at hh) key
    rw [show p.n1+(ops.size-p.n1)=ops.size by omega] at this;exact this
 ·rename_i hh;rw [hh] at h;simp [T.leaf] at h
end
end
end Go.As
end
section
namespace Go.As
noncomputable section
def lim {α:Type} (n:Nat) (t:Tr α) (k:Nat):Option α:=match Nat.ble n k with
 |true=>none
 |false=>t.get k
theorem agN {α:Type} {n:Nat} {t:Tr α} {f:Nat->Option α} (h:(List.range n).map t.get=(List.range n).map f) {k:Nat} {x:α} (hk:lim n t k=some x):f k=some x:=by
 unfold lim at hk;split at hk
 ·simp at hk
 ·rename_i hle
  have hlt:k<n:=by
   have: ¬(n<=k):=by intro h;rw [aK3 h] at hle;simp at hle
   omega
  have:=congrArg (fun l=>l[k]?) h;simp only [aJF,aKA hlt,aJU,aJf] at this;rw [<- this];exact hk
section
variable {P:Program}
theorem axT {n:Nat} {tab:Tr TI} (h:(List.range n).map tab.get=(List.range n).map (ayA P)):eY P (lim n tab):=fun _ _ hk=>axZ (agN h hk)
def aDN (chk:Nat->List Oper->Bool) (f:Func):Bool:=!(f.name == "runtime.NumGoroutine")&&(match f.body with |some c=>nN chk f.ntmps c|none=>true)
def hAt {α:Type} (t:Tr (Tr α)) (g id:Nat):Option α:=match t.get g with
 |some u=>u.get id
 |none=>none
theorem aAr {n:Nat} {Wn:Tr Func} (h:(List.range n).map Wn.get=(List.range n).map (fun g=>P.funcs[g]?)) {chk:Nat->Nat->List Oper->Bool} (hc:(List.range n).all (fun g=>match Wn.get g with |some f=>aDN (chk g) f|none=>true)=true):amA P chk (lim n Wn):=by
 intro g fn hk;have h1:=agN h hk;refine⟨h1,?_⟩
 have hlt:g<n:=by
  unfold lim at hk;split at hk
  ·simp at hk
  ·rename_i hle;rcases aJx g n with h|h
   ·exact h
   ·rw [aK3 h] at hle; simp at hle
 have hget:Wn.get g=some fn:=by
  unfold lim at hk;split at hk
  ·simp at hk
  ·exact hk
 have:=aJD.1 hc g (aJ8.2 hlt);rw [hget] at this;simp only [aDN,aJh,aKm] at this;refine⟨this.1,fun c hb=>?_⟩;rw [hb] at this;exact this.2
end
end
end Go.As
end
section
namespace Go.As
noncomputable section
structure Ren where
 ns:List SE
 bl:List Nat
 sh:List Nat
def Ren.se (r:Ren):SE->SE
 | .lit n=> .lit n
 | .aP i=>match iD r.ns i with |some e=>e|none=> .aP i
 | .add a b=> .add (r.se a) (r.se b)
 | .sub a b=> .sub (r.se a) (r.se b)
 | .mul a b=> .mul (r.se a) (r.se b)
 | .quo a b=> .quo (r.se a) (r.se b)
 | .rem a b=> .rem (r.se a) (r.se b)
 | .wrap k a=> .wrap k (r.se a)
 | .inp b e=> .inp b (r.se e)
 | .dat d=> .dat d
 | .op o a b=>match o with
   | .len=>fB (r.se a)
   |o=> .op o (r.se a) (r.se b)
 | .ap f a=> .ap f (r.se a)
def Ren.sb (r:Ren):SB->SB
 | .lit b=> .lit b
 | .lt a b=>lQ (r.se a) (r.se b)
 | .le a b=> .le (r.se a) (r.se b)
 | .eq a b=>ED (r.se a) (r.se b)
 | .not s=> .not (r.sb s)
 | .and a b=> .and (r.sb a) (r.sb b)
def Ren.id (r:Ren) (i:Nat):Nat:=match iD r.bl i with |some j=>j|none=>0
def Ren.BN (r:Ren) (i:Nat):Nat:=match iD r.sh i with |some j=>j|none=>0
mutual
def Ren.av (r:Ren):AV->AV
 | .bool b=> .bool (r.sb b)
 | .int k e=> .int k (r.se e)
 | .str s=> .str s
 | .ptr i o=> .ptr (r.id i) (r.BN i+o)
 | .lD=> .lD
 | .sG cs=> .sG (r.Ls cs)
 | .slice i o l c=> .slice (r.id i) (r.BN i+o) l c
 | .aA=> .aA
 | .ro cs n f=> .ro (r.Ls cs) n f
 | .map i=> .map (r.id i)
 | .qI=> .qI
 | .func f a b=> .func f (r.Ls a) (r.Ls b)
 | .CW=> .CW
 | .iface t v=> .iface t (r.av v)
 | .FM=> .FM
 | .agg cs=> .agg (r.Ls cs)
 | .tuple cs=> .tuple (r.Ls cs)
 | .opq i=> .opq i
 | .inp k ks=> .inp k ks
 | .emp=> .emp
 | .dat e t=> .dat (r.se e) t
 | .nJ e=> .nJ (r.se e)
 | .vZ i n t=>match r.BN i with
   |0=> .vZ (r.id i) (r.se n) t
   |_=> .opq 0
 | .qZ i es x o=>match r.BN i with
   |0=> .qZ (r.id i) es (r.se x) o
   |_=> .opq 0
 | .BL i lo n t=>match r.BN i with
   |0=> .BL (r.id i) (r.se lo) (r.se n) t
   |_=> .opq 0
 | .any=> .any
 | .IW z t=> .IW (r.se z) t
def Ren.Ls (r:Ren):List AV->List AV
 |[]=>[]
 |x::xs=>r.av x::r.Ls xs
end
mutual
def rP (n:Nat):AV->Bool
 | .ptr i _=>Nat.blt i n
 | .slice i _ _ _=>Nat.blt i n
 | .map i=>Nat.blt i n
 | .vZ i _ _=>Nat.blt i n
 | .qZ i _ _ _=>Nat.blt i n
 | .BL i _ _ _=>Nat.blt i n
 | .sG cs=>uX n cs
 | .ro cs _ _=>uX n cs
 | .func _ a b=>uX n a&&uX n b
 | .iface _ v=>rP n v
 | .agg cs=>uX n cs
 | .tuple cs=>uX n cs
 |_=>true
def uX (n:Nat):List AV->Bool
 |[]=>true
 |x::xs=>rP n x&&uX n xs
end
def Ren.env (r:Ren) (ρ:Nat->Int) (i:Nat):Int:=match iD r.ns i with |some e=>e.den ρ|none=>ρ i
theorem TA {α:Type}: ∀{l:List α} {i:Nat},l.length<=i->iD l i=none
 |[],_,_=>rfl
 |_::_,0,h=>by simp at h
 |_::l,i+1,h=>by simp only [iD]; exact TA (by simpa using h)
theorem Ren.qC {r:Ren} (h:r.ns.length<=900) {ρ:Nat->Int} {i:Nat} (hi:900<=i):r.env ρ i=ρ i:=by unfold Ren.env;rw [TA (by omega)]
theorem Ren.eU {r:Ren} (h:r.ns.length<=900) (ρ:Nat->Int): ∀e:SE,(r.se e).den ρ=e.den (r.env ρ)
 | .lit n=>rfl
 | .aP i=>by simp only [Ren.se,SE.den,Ren.env];split<;>rfl
 | .add a b=>by simp only [Ren.se,SE.den,Ren.eU h ρ a,Ren.eU h ρ b]
 | .sub a b=>by simp only [Ren.se,SE.den,Ren.eU h ρ a,Ren.eU h ρ b]
 | .mul a b=>by simp only [Ren.se,SE.den,Ren.eU h ρ a,Ren.eU h ρ b]
 | .quo a b=>by simp only [Ren.se,SE.den,Ren.eU h ρ a,Ren.eU h ρ b]
 | .rem a b=>by simp only [Ren.se,SE.den,Ren.eU h ρ a,Ren.eU h ρ b]
 | .wrap k a=>by simp only [Ren.se,SE.den,Ren.eU h ρ a]
 | .inp b e=>by simp only [Ren.se,SE.den,Ren.eU h ρ e];rw [Ren.qC h (by omega)]
 | .dat d=>rfl
 | .op o a b=>by
   cases o with
   |len=> simp only [Ren.se,dF,Ren.eU h ρ a];simp [SE.den,iY.den]
   |_=>simp only [Ren.se,SE.den,Ren.eU h ρ a,Ren.eU h ρ b]
 | .ap f a=>by simp only [Ren.se,SE.den,Ren.eU h ρ a];rw [Ren.qC h (by unfold lI; omega)]
theorem Ren.Jd {r:Ren} (h:r.ns.length<=900) (ρ:Nat->Int): ∀c:SB,(r.sb c).den ρ=c.den (r.env ρ)
 | .lit b=>rfl
 | .lt a b=>by simp only [Ren.sb,dV,SB.den,Ren.eU h]
 | .le a b=>by simp only [Ren.sb,SB.den,Ren.eU h]
 | .eq a b=>by simp only [Ren.sb,mZ,SB.den,Ren.eU h]
 | .not s=>by simp only [Ren.sb,SB.den,Ren.Jd h ρ s]
 | .and a b=>by simp only [Ren.sb,SB.den,Ren.Jd h ρ a,Ren.Jd h ρ b]
def En.ren (E:En) (r:Ren):En:={ ρ:=r.env E.ρ,θ:=fun i=>((E.θ (r.id i)).1,(E.θ (r.id i)).2+r.BN i),κ:=fun i=>E.κ (r.id i)-r.BN i,dm:=fun i=>i<r.bl.length/\E.dm (r.id i),ro:=E.ro }
theorem F7 {i n:Nat} (h:Nat.blt i n=true):i<n:=by have:=aJ9 h;omega
mutual
theorem VR.ren {E:En} {r:Ren} {h:Array Obj} (hl:r.ns.length<=900): ∀(x:AV) (u:Value),rP r.bl.length x=true->VR E h (r.av x) u->VR (E.ren r) h x u
 | .bool b,u,_,hv=>by simp only [Ren.av,VR,En.ren,Ren.Jd hl] at *; exact hv
 | .int k e,u,_,hv=>by simp only [Ren.av,VR,En.ren,Ren.eU hl] at *; exact hv
 | .str s,u,_,hv=>by simp only [Ren.av,VR] at *; exact hv
 | .ptr i o,u,hi,hv=>by simp only [Ren.av,VR,En.ren,rP] at *; exact⟨by rw [hv.1,aJP],F7 hi,hv.2⟩
 | .lD,u,_,hv=>by simp only [Ren.av,VR] at *; exact hv
 | .sG cs,u,hi,hv=>by simp only [Ren.av,VR,rP] at *;obtain⟨b,o,us,h1,h2,h3,h4⟩:=hv;exact⟨b,o,us,h1,h2,bP.ren hl cs us hi h3,h4⟩
 | .slice i o l c,u,hi,hv=>by
   simp only [Ren.av,VR,rP] at *;obtain⟨h1,a,cap,h2,h3,h4⟩:=hv;refine⟨⟨F7 hi,h1⟩,a,cap,h2,h3,?_⟩
   cases c with
   |exact k=> simp only [gJ,En.ren] at *;exact⟨h4.1,h4.2.imp (fun h=>by rw [h,aJP]) id⟩
   |rest es=>
    simp only [gJ,En.ren] at *;rcases h4 with ⟨q1,q2⟩|⟨q1,q2,q3⟩
    ·exact .inl ⟨by rw [q1,aJP],by omega⟩
    ·exact .inr ⟨q1,q2,by omega⟩
 | .aA,u,_,hv=>by simp only [Ren.av,VR] at *; exact hv
 | .ro cs n f,u,hi,hv=>by simp only [Ren.av,VR,rP] at *;obtain⟨b,o,cap,us,h1,h2,h3,h4,h5,h6⟩:=hv;exact⟨b,o,cap,us,h1,h2,h3,h4,bP.ren hl cs us hi h5,h6⟩
 | .map i,u,hi,hv=>by simp only [Ren.av,VR,En.ren,rP] at *; exact⟨hv.1,F7 hi,hv.2⟩
 | .qI,u,_,hv=>by simp only [Ren.av,VR] at *; exact hv
 | .func f a b,u,hi,hv=>by simp only [Ren.av,VR,rP,aJh] at *;obtain⟨us,ws,h1,h2,h3⟩:=hv;exact⟨us,ws,h1,bP.ren hl a us hi.1 h2,bP.ren hl b ws hi.2 h3⟩
 | .CW,u,_,hv=>by simp only [Ren.av,VR] at *; exact hv
 | .iface t v,u,hi,hv=>by simp only [Ren.av,VR,rP] at *;obtain⟨y,h1,h2⟩:=hv;exact⟨y,h1,VR.ren hl v y hi h2⟩
 | .FM,u,_,hv=>by simp only [Ren.av,VR] at *; exact hv
 | .agg cs,u,hi,hv=>by simp only [Ren.av,VR,rP] at *;obtain⟨us,h1,h2⟩:=hv;exact⟨us,h1,bP.ren hl cs us hi h2⟩
 | .tuple cs,u,hi,hv=>by simp only [Ren.av,VR,rP] at *;obtain⟨us,h1,h2⟩:=hv;exact⟨us,h1,bP.ren hl cs us hi h2⟩
 | .opq i,u,_,hv=>by simp only [Ren.av,VR] at hv
 | .inp k ks,u,_,hv=>by
   simp only [Ren.av,VR,En.ren] at *;rw [Ren.qC hl (by omega)];rcases hv with hv|⟨b,o,n,cap,h1,h2,h3,h4,h5⟩
   ·exact .inl hv
   ·refine .inr ⟨b,o,n,cap,h1,h2,h3,h4,fun i j kd hi hj=>?_⟩;rw [Ren.qC hl (by omega)];exact h5 i j kd hi hj
 | .emp,u,_,hv=>by simp only [Ren.av,VR] at *; exact hv
 | .dat e t,u,_,hv=>by simp only [Ren.av,VR,En.ren,Ren.eU hl] at *; exact hv
 | .nJ e,u,_,hv=>by simp only [Ren.av,VR,En.ren,Ren.eU hl] at *; exact hv
 | .vZ i n t,u,hi,hv=>by
   simp only [Ren.av] at hv;split at hv
   ·rename_i hs;simp only [VR,En.ren,rP,Ren.eU hl] at *;obtain⟨h1,k,a,cap,h2,h3,h4,h5⟩:=hv;refine⟨⟨F7 hi,h1⟩,k,a,cap,h2,h3,h4,?_⟩;simp only [gJ,hs] at *;simpa using h5
   ·simp [VR] at hv
 | .any,u,_,_=>by simp only [VR]
 | .IW z t,u,_,hv=>by simp only [Ren.av,VR,En.ren,Ren.eU hl] at *; exact hv
 | .BL i lo n t,u,hi,hv=>by
   simp only [Ren.av] at hv;split at hv
   ·rename_i hs;simp only [VR,En.ren,rP,Ren.eU hl] at *;obtain⟨h1,l,k,a,cap,h2,h3,h4,h5,h6⟩:=hv;refine⟨⟨F7 hi,h1⟩,l,k,a,cap,h2,h3,h4,h5,?_⟩;simp only [gJ,hs] at *;simpa using h6
   ·simp [VR] at hv
 | .qZ i es x o,u,hi,hv=>by
   simp only [Ren.av] at hv;split at hv
   ·rename_i hs;simp only [VR,En.ren,rP,Ren.eU hl] at *;obtain⟨h1,k,h2,h3⟩:=hv;exact⟨⟨F7 hi,h1⟩,k,h2,by rw [h3,hs,aJG]⟩
   ·simp [VR] at hv
theorem bP.ren {E:En} {r:Ren} {h:Array Obj} (hl:r.ns.length<=900): ∀(xs:List AV) (us:List Value),uX r.bl.length xs=true->bP E h (r.Ls xs) us->bP (E.ren r) h xs us
 |[],us,_,hv=>by simp only [Ren.Ls,bP] at *; exact hv
 |x::xs,us,hi,hv=>by simp only [Ren.Ls,bP,uX,aJh] at *;obtain⟨u,vs,h1,h2,h3⟩:=hv;exact⟨u,vs,h1,VR.ren hl x u hi.1 h2,bP.ren hl xs vs hi.2 h3⟩
end
theorem aBx {E:En} {r:Ren} {h:Array Obj} {xs ys:List AV} {us:List Value} (hs:lC (r.Ls xs) ys=true) (hv:bP E h ys us):bP E h (r.Ls xs) us:=by rw [iH _ _ hs]; exact hv
def yU (r:Ren):List (AV×AV×Nat)->List (AV×AV×Nat)->Bool
 |[],[]=>true
 |(k,v,_)::xs,(k',v',_)::ys=>match fC (r.av k) k' with
  |true=>match fC (r.av v) v' with
   |true=>yU r xs ys
   |false=>false
  |false=>false
 |_,_=>false
def WV (n:Nat):List (AV×AV×Nat)->Bool
 |[]=>true
 |(k,v,_)::xs=>rP n k&&rP n v&&WV n xs
def Yi (n:Nat):List (SE×List AV)->Bool
 |[]=>true
 |(_,cs)::l=>uX n cs&&Yi n l
def rG (r:Ren):List (SE×List AV)->List (SE×List AV)->Bool
 |[],[]=>true
 |(i,a)::x,(j,b)::y=>gZ (r.se i) j&&lC (r.Ls a) b&&rG r x y
 |_,_=>false
def akH (n:Nat):dW->Bool
 | .vec _ _ _ ov=>Yi n ov
 | .cells cs _=>uX n cs
 | .map es _=>WV n es
 | .oW _ _=>true
 | .jJ _ _=>true
def iV (r:Ren) (k:Nat):dW->dW->Bool
 | .cells cs e,.cells ds f=>match Nat.beq e f with
   |true=>match fV k ds with
    |some ds=>lC (r.Ls cs) ds
    |none=>false
   |false=>false
 | .map es _,.map fs _=>yU r es fs
 | .oW s p,.oW t q=>jW s t&&Nat.beq p q&&Nat.beq k 0
 | .jJ e t,.jJ e' t'=>gZ (r.se e) e'&&Nat.beq t t'&&Nat.beq k 0
 | .vec e t ty ov,.vec e' t' ty' xA=>gZ (r.se e) e'&&Nat.beq t t'&&Nat.beq ty ty'&&rG r ov xA&&Nat.beq k 0
 |_,_=>false
theorem fF.ren {E:En} {r:Ren} {h:Array Obj} (hl:r.ns.length<=900): ∀{xs ys:List (AV×AV×Nat)} {es:List MapEntry},WV r.bl.length xs=true->yU r xs ys=true->fF E h ys es->fF (E.ren r) h xs es
 |[],[],es,_,_,h=>by simp only [fF] at *; exact h
 |[],_::_,_,_,hs,_=>by simp [yU] at hs
 |(_,_,_)::_,[],_,_,hs,_=>by simp [yU] at hs
 |(k,v,b)::xs,(k',v',b')::ys,es,hi,hs,h=>by
  simp only [WV,aJh] at hi;simp only [yU] at hs;simp only [fF] at *;obtain⟨e,rr,rfl,h1,h2,_,h4⟩:=h;split at hs
  ·rename_i e1;split at hs
   ·rename_i e2;refine⟨e,rr,rfl,VR.ren hl k _ hi.1.1 (by rw [oN _ _ e1]; exact h1),VR.ren hl v _ hi.1.2 (by rw [oN _ _ e2]; exact h2),trivial,fF.ren hl hi.2 hs h4⟩
   ·simp at hs
  ·simp at hs
theorem wS {r:Ren}: ∀xs:List AV,(r.Ls xs).length=xs.length
 |[]=>rfl
 |_::xs=>by simp [Ren.Ls,wS xs]
theorem Tn {r:Ren} (hl:r.ns.length<=900) {ρ:Nat->Int} {i:Nat}: ∀{ov xA:List (SE×List AV)},rG r ov xA=true->dR ρ i xA=(dR (r.env ρ) i ov).map r.Ls
 |[],[],_=>rfl
 |[],_::_,h=>by simp [rG] at h
 |_::_,[],h=>by simp [rG] at h
 |(j,a)::x,(k,b)::y,h=>by simp only [rG,aJh] at h;have h1:=bZ _ _ h.1.1;have h2:=iH _ _ h.1.2;simp only [dR];rw [<- h1,Ren.eU hl,<- h2,Tn hl h.2];split<;>rfl
theorem Tm {n:Nat}: ∀{ov:List (SE×List AV)},Yi n ov=true->∀p∈ov,uX n p.2=true
 |[],_,p,hp=>by simp at hp
 |(j,a)::x,h,p,hp=>by
  simp only [Yi,aJh] at h;rcases aJq.1 hp with rfl|hp
  ·exact h.1
  ·exact Tm h.2 p hp
theorem Io {E:En} {r:Ren} {h:Array Obj} (hl:r.ns.length<=900) {row:Row} {ov xA:List (SE×List AV)} (hs:rG r ov xA=true) (hi:Yi r.bl.length ov=true): ∀(ds:List D) (i:Nat) {us:List Value},
 bP E h (aO E.ρ row xA ds i) us->bP (E.ren r) h (aO (E.ren r).ρ row ov ds i) us
 |[],_,us,hv=>by simp only [aO,bP] at *; exact hv
 |d::ds,i,us,hv=>by
  simp only [aO] at *;obtain⟨a,b,rfl,h1,h2⟩:=hv.split;refine bP.append ?_ (Io hl hs hi ds (i+1) h2);rw [Tn hl hs] at h1;show bP (E.ren r) h (match dR (r.env E.ρ) i ov with |some cs=>cs|none=>jS row (.dat d)) a
  cases ho:dR (r.env E.ρ) i ov with
  |none=> rw [ho] at h1;simp only [Option.map_none] at h1;exact (iI (E:=E.ren r)).2 (show EN E.ro h row (dec (enc d)) a from (iI (E:=E)).1 h1)
  |some cs=> rw [ho] at h1;simp only [aJU] at h1;obtain⟨p,p1,p2,_⟩:=oO ho;exact bP.ren hl cs a (by rw [<- p2]; exact Tm hi p p1) h1
theorem NW {r:Ren} {row:Row}: ∀{ov xA:List (SE×List AV)},rG r ov xA=true->GY row xA->GY row ov
 |[],[],_,h=>h
 |[],_::_,h,_=>by simp [rG] at h
 |_::_,[],h,_=>by simp [rG] at h
 |(j,a)::x,(k,b)::y,h,ho=>by
  simp only [rG,aJh] at h;intro p hp;rcases aJq.1 hp with rfl|hp
  ·have:=congrArg List.length (iH _ _ h.1.2);rw [wS] at this;simp only;rw [this];exact ho (k,b) (by simp)
  ·exact NW h.2 (fun q hq=>ho q (by simp [hq])) p hp
theorem OR.ren {E:En} {r:Ren} {h:Array Obj} (hl:r.ns.length<=900) {id:Nat} {o o':dW} (hi:akH r.bl.length o=true) (hs:iV r (r.BN id) o o'=true) (ho:OR E h (r.id id) o'):OR (E.ren r) h id o:=by
 cases o with
 |cells cs e=>
  cases o' with
  |cells ds f=>
   simp only [iV] at hs;simp only [akH] at hi;split at hs
   ·rename_i he;have he:=aJj he;subst he;split at hs
    ·rename_i ds' hdr;simp only [OR] at *;obtain⟨arr,lo,hi',us,h1,h2,h3,h4,h5,h6,h7⟩:=ho;obtain⟨g1,g2,g3⟩:=h2.fV hdr;have hlen:=congrArg List.length (iH _ _ hs);rw [wS] at hlen;refine⟨arr,lo,hi',us.drop (r.BN id),h1,bP.ren hl cs _ hi (aBx hs g1),fun i u hu=>?_,?_,?_,h6,fun u hu=>h7 u (aJT hu)⟩
     ·rw [aKv] at hu;have:=h3 _ u hu;show arr[(E.θ (r.id id)).2+r.BN id+i]?=some u;rw [aJP];exact this
     ·show cs.length<=E.κ (r.id id)-r.BN id;omega
     ·show (E.θ (r.id id)).2+r.BN id+(E.κ (r.id id)-r.BN id)=arr.size;omega
    ·simp at hs
   ·simp at hs
  |map _ _=>simp [iV] at hs
  |oW _ _=>simp [iV] at hs
  |vec _ _ _ _=>simp [iV] at hs
  |jJ _ _=>simp [iV] at hs
 |map es c=>
  cases o' with
  |map fs d=> simp only [iV] at hs;simp only [akH] at hi;simp only [OR] at *;obtain⟨ents,c',h1,h2⟩:=ho;exact⟨ents,c',h1,fF.ren hl hi hs h2⟩
  |cells _ _=>simp [iV] at hs
  |oW _ _=>simp [iV] at hs
  |vec _ _ _ _=>simp [iV] at hs
  |jJ _ _=>simp [iV] at hs
 |oW s p=>
  cases o' with
  |oW t q=> simp only [iV,aJh] at hs;have h1:=(qL _ _).1 hs.1.1;have h2:=aJj hs.1.2;have h3:=aJj hs.2;subst h1 h2;simp only [OR,En.ren,h3] at *;exact ho
  |cells _ _=>simp [iV] at hs
  |map _ _=>simp [iV] at hs
  |vec _ _ _ _=>simp [iV] at hs
  |jJ _ _=>simp [iV] at hs
 |jJ e t=>
  cases o' with
  |cells _ _=>simp [iV] at hs
  |map _ _=>simp [iV] at hs
  |oW _ _=>simp [iV] at hs
  |vec _ _ _ _=>simp [iV] at hs
  |jJ e' t'=> simp only [iV,aJh] at hs;have h1:=bZ _ _ hs.1.1;have h2:=aJj hs.1.2;subst h1 h2;simp only [OR] at *;have hden:e.den (E.ren r).ρ=(r.se e).den E.ρ:=(Ren.eU hl E.ρ e).symm;rw [hden];exact ho
 |vec e t ty ov=>
  cases o' with
  |cells _ _=>simp [iV] at hs
  |map _ _=>simp [iV] at hs
  |oW _ _=>simp [iV] at hs
  |jJ _ _=>simp [iV] at hs
  |vec e' t' ty' xA=>
   simp only [iV,aJh] at hs;simp only [akH] at hi;have h1:=bZ _ _ hs.1.1.1.1;have h2:=aJj hs.1.1.1.2;have h3:=aJj hs.1.1.2;have h4:=aJj hs.2;have hov:=hs.1.2;subst h1 h2 h3;simp only [OR] at *;obtain⟨h0,arr,lo,hi',us,q1,q2,q3,q4,q5,q6,q7⟩:=ho;have hok:=NW hov h0.1;have hden:e.den (E.ren r).ρ=(r.se e).den E.ρ:=(Ren.eU hl E.ρ e).symm;rw [hden];refine⟨⟨hok,h0.2⟩,arr,lo,hi',us,q1,Io hl hov hi _ _ q2,?_,?_,?_,q6,q7⟩
   ·intro i u hu;show arr[(E.θ (r.id id)).2+r.BN id+i]?=some u;rw [h4,aJG];exact q3 i u hu
   ·show _<=E.κ (r.id id)-r.BN id;rw [bY hok,h4,aKc,<- bY (ρ:=E.ρ) h0.1];exact q4
   ·show (E.θ (r.id id)).2+r.BN id+(E.κ (r.id id)-r.BN id)=arr.size;rw [h4,aJG,aKc];exact q5
end
end Go.As
end
section
namespace Go.As
noncomputable section
open Go.RowKit
structure CS where
 k:Nat
 slots:List (Nat×AV)
 objs:List dW
 pc:List (SB×Bool)
 m:SE
def sS:List (Nat×AV)->Tr AV->Tr AV
 |[],t=>t
 |(i,v)::l,t=>sS l (t.put i (some v))
def wI:List dW->Nat->Tr dW->Tr dW
 |[],_,t=>t
 |o::os,i,t=>wI os (i+1) (t.put i (some o))
def CS.st (c:CS):St:=⟨sS c.slots .nil,⟨wI c.objs 0 .nil,c.objs.length,none⟩,c.pc⟩
structure Gs where
 ns:Tr SE
 bl:Tr (Nat×Nat)
def Gs.num (g:Gs) (i:Nat) (e:SE):Gs:=match g.ns.get i with
 |some _=>g
 |none=> ⟨g.ns.put i (some e),g.bl⟩
def Gs.blk (g:Gs) (i j k:Nat):Gs:=match g.bl.get i with
 |some _=>g
 |none=> ⟨g.ns,g.bl.put i (some (j,k))⟩
def Jz (x y:SE) (g:Gs):Gs:=match x with
 | .aP i=>g.num i y
 |_=>g
def aGR:SB->SB->Gs->Gs
 | .not a,.not b,g=>aGR a b g
 | .eq a b,.eq c d,g=>Jz b d (Jz a c g)
 |_,_,g=>g
mutual
def asA:AV->AV->Gs->Gs
 | .bool a,.bool b,g=>aGR a b g
 | .int _ e,.int _ f,g=>Jz e f g
 | .ptr i o,.ptr j p,g=>g.blk i j (p-o)
 | .slice i o _ _,.slice j p _ _,g=>g.blk i j (p-o)
 | .map i,.map j,g=>g.blk i j 0
 | .agg a,.agg b,g=>Hz a b g
 | .tuple a,.tuple b,g=>Hz a b g
 | .iface _ a,.iface _ b,g=>asA a b g
 | .func _ a b,.func _ c d,g=>Hz b d (Hz a c g)
 | .sG a,.sG b,g=>Hz a b g
 | .ro a _ _,.ro b _ _,g=>Hz a b g
 | .dat a _,.dat b _,g=>Jz a b g
 | .nJ a,.nJ b,g=>Jz a b g
 | .vZ i a _,.vZ j b _,g=>(Jz a b g).blk i j 0
 | .qZ i _ a _,.qZ j _ b _,g=>(Jz a b g).blk i j 0
 | .IW a _,.IW b _,g=>Jz a b g
 | .BL i l a _,.BL j k b _,g=>(Jz l k (Jz a b g)).blk i j 0
 |_,_,g=>g
def Hz:List AV->List AV->Gs->Gs
 |x::xs,y::ys,g=>Hz xs ys (asA x y g)
 |_,_,g=>g
end
def arZ:List (AV×AV×Nat)->List (AV×AV×Nat)->Gs->Gs
 |(k,v,_)::xs,(k',v',_)::ys,g=>arZ xs ys (asA v v' (asA k k' g))
 |_,_,g=>g
def aCi:List (SE×List AV)->List (SE×List AV)->Gs->Gs
 |(i,a)::x,(j,b)::y,g=>aCi x y (Hz a b (Jz i j g))
 |_,_,g=>g
def aIB (k:Nat) (o o':dW) (g:Gs):Gs:=match o,o' with
 | .cells a _,.cells b _=>match fV k b with
   |some b=>Hz a b g
   |none=>g
 | .map a _,.map b _=>arZ a b g
 | .vec a _ _ ov,.vec b _ _ xA=>aCi ov xA (Jz a b g)
 | .jJ a _,.jJ b _=>Jz a b g
 |_,_=>g
def Me (s:Tr AV):List (Nat×AV)->Gs->Gs
 |[],g=>g
 |(t,v)::l,g=>match s.get t with
  |some v'=>Me s l (asA v v' g)
  |none=>Me s l g
def JA (h:Hp):List dW->Nat->Gs->Gs
 |[],_,g=>g
 |o::os,i,g=>match g.bl.get i with
  |some (j,k)=>match h.get j with
   |some o'=>JA h os (i+1) (aIB k o o' g)
   |none=>JA h os (i+1) g
  |none=>JA h os (i+1) g
def FT (g:Tr SE):Nat->Nat->List SE
 |0,_=>[]
 |n+1,i=>match g.get i with
  |some e=>e::FT g n (i+1)
  |none=> .lit 0::FT g n (i+1)
def V4 (g:Tr (Nat×Nat)):Nat->Nat->List Nat
 |0,_=>[]
 |n+1,i=>match g.get i with
  |some (e,_)=>e::V4 g n (i+1)
  |none=>0::V4 g n (i+1)
def V3 (g:Tr (Nat×Nat)):Nat->Nat->List Nat
 |0,_=>[]
 |n+1,i=>match g.get i with
  |some (_,e)=>e::V3 g n (i+1)
  |none=>0::V3 g n (i+1)
def CS.guess (c:CS) (s:St):Ren:=match JA s.h c.objs 0 (Me s.slots c.slots ⟨.nil,.nil⟩) with
 |⟨ns,bl⟩=> ⟨FT ns c.k 0,V4 bl c.objs.length 0,V3 bl c.objs.length 0⟩
def agH (i:Nat):List Nat->Bool
 |[]=>true
 |j::l=>match Nat.beq i j with
  |true=>false
  |false=>agH i l
def Es:List Nat->Bool
 |[]=>true
 |i::l=>agH i l&&Es l
def LM (r:Ren) (n:Nat) (s:Tr AV):List (Nat×AV)->Bool
 |[]=>true
 |(t,v)::l=>match s.get t with
  |some v'=>rP n v&&fC (r.av v) v'&&LM r n s l
  |none=>false
def Jl (r:Ren) (n:Nat) (h:Hp):List dW->Nat->Bool
 |[],_=>true
 |o::os,i=>match h.get (r.id i) with
  |some o'=>akH n o&&iV r (r.BN i) o o'&&Jl r n h os (i+1)
  |none=>false
def Zp (pc:List (SB×Bool)) (e:SE):Option Int×Option Int:=match e with
 | .lit z=>(some z,some z)
 |e=>bounds e pc
def ahC (a b:Int):Bool:=decide (-9223372036854775808<=a)&&decide (b<=9223372036854775807)
def QH (pc:List (SB×Bool)) (e:SE):Option Int×Option Int:=match e with
 | .wrap .i64 (.add a b)=>match Zp pc a,Zp pc b with
   |(some la,some ha),(some lb,some hb)=>if ahC (la+lb) (ha+hb) then (some (la+lb),some (ha+hb)) else bounds e pc
   |_,_=>bounds e pc
 | .wrap .i64 (.sub a b)=>match Zp pc a,Zp pc b with
   |(some la,some ha),(some lb,some hb)=>if ahC (la-hb) (ha-lb) then (some (la-hb),some (ha-lb)) else bounds e pc
   |_,_=>bounds e pc
 |e=>Zp pc e
def QJ (a b:Option Int):Bool:=match a,b with
 |some x,some y=>decide (x<y)
 |_,_=>false
def Xo (a b:Option Int):Bool:=match a,b with
 |some x,some y=>decide (x<=y)
 |_,_=>false
def prv (pc:List (SB×Bool)) (c:SB) (v:Bool):Bool:=
 match nP pc c with
 |some b=>b == v
 |none=>match c with
  | .lt a b=>match v with
    |true=>QJ (QH pc a).2 (QH pc b).1
    |false=>Xo (QH pc b).2 (QH pc a).1
  | .eq a b=>match v with
    |true=>false
    |false=>QJ (QH pc a).2 (QH pc b).1||QJ (QH pc b).2 (QH pc a).1
  |_=>false
def MB (pv:List (SB×Bool)->SB->Bool->Bool) (r:Ren) (pc:List (SB×Bool)):List (SB×Bool)->Bool
 |[]=>true
 |(c,v)::l=>pv pc (r.sb c) v&&MB pv r pc l
def CS.fits (pv:List (SB×Bool)->SB->Bool->Bool) (c:CS) (s:St) (r:Ren):Bool:=
 Nat.ble r.ns.length 900&&Nat.beq r.bl.length c.objs.length&&Es r.bl&&LM r c.objs.length s.slots c.slots&&Jl r c.objs.length s.h c.objs 0&&MB pv r s.pc c.pc
theorem Ce: ∀{l:List (Nat×AV)} {t:Tr AV} {i:Nat} {v:AV},(sS l t).get i=some v->(i,v)∈l\/t.get i=some v
 |[],t,i,v,h=> .inr h
 |(j,x)::l,t,i,v,h=>by
  simp only [sS] at h;rcases Ce h with h|h
  ·exact .inl (by simp [h])
  ·rw [Tr.get_put] at h;split at h
   ·rename_i e;simp only [aJf] at h;exact .inl (by rw [e,h]; simp)
   ·exact .inr h
theorem oD: ∀{l:List dW} {i:Nat} {t:Tr dW} {j:Nat},(wI l i t).get j=if i<=j/\j<i+l.length then l[j-i]? else t.get j
 |[],i,t,j=>by rw [aJd (by simp)];rfl
 |o::os,i,t,j=>by
  simp only [wI];rw [oD,Tr.get_put];simp only [aJr];by_cases h1:i+1<=j/\j<i+1+os.length
  ·rw [aJe h1,aJe (by omega)];have:j-i=(j-(i+1))+1:=by omega
   rw [this,aJk]
  ·rw [aJd h1];by_cases h3:j=i
   ·subst h3;rw [aJe rfl,aJe (by omega)];simp
   ·rw [aJd h3,aJd (by omega)]
theorem Ym {i:Nat}: ∀{l:List Nat},agH i l=true->i∉l
 |[],_=>by simp
 |j::l,h=>by
  simp only [agH] at h;split at h
  ·simp at h
  ·rename_i hb;have:=aKO hb;simp [this,Ym h]
theorem vN: ∀{l:List Nat},Es l=true->∀{i j x:Nat},iD l i=some x->iD l j=some x->i=j
 |[],_,i,_,_,h,_=>by simp [iD] at h
 |y::l,hd,i,j,x,h1,h2=>by
  simp only [Es,aJh] at hd;have hn:=Ym hd.1
  have hm: ∀{i:Nat} {l:List Nat} {x:Nat},iD l i=some x->x∈l:=by intro i l x h;rw [dD] at h;exact aJL h
  cases i with
  |zero=>
   cases j with
   |zero=>rfl
   |succ j=> simp only [iD,aJf] at h1 h2;subst h1;exact absurd (hm h2) hn
  |succ i=>
   cases j with
   |zero=> simp only [iD,aJf] at h1 h2;subst h2;exact absurd (hm h1) hn
   |succ j=> simp only [iD] at h1 h2;rw [vN hd.2 h1 h2]
theorem J3 {r:Ren} {n:Nat} {s:Tr AV}: ∀{l:List (Nat×AV)},LM r n s l=true->∀{t:Nat} {v:AV},(t,v)∈l->∃v',s.get t=some v'/\rP n v=true/\r.av v=v'
 |[],_,_,_,h=>by simp at h
 |(t0,v0)::l,hs,t,v,h=>by
  simp only [LM] at hs;split at hs
  ·rename_i v' hv;simp only [aJh] at hs;rcases aJq.1 h with h|h
   ·simp only [aJg] at h;obtain⟨rfl,rfl⟩:=h;exact⟨v',hv,hs.1.1,oN _ _ hs.1.2⟩
   ·exact J3 hs.2 h
  ·simp at hs
theorem mM {r:Ren} {n:Nat} {h:Hp}: ∀{l:List dW} {i:Nat},Jl r n h l i=true->∀{j:Nat} {o:dW},l[j]?=some o->∃o',h.get (r.id (i+j))=some o'/\akH n o=true/\iV r (r.BN (i+j)) o o'=true
 |[],_,_,_,_,h=>by simp at h
 |o0::os,i,hs,j,o,hj=>by
  simp only [Jl] at hs;split at hs
  ·rename_i o' ho;simp only [aJh] at hs
   cases j with
   |zero=> simp at hj;subst hj;exact⟨o',ho,hs.1.1,hs.1.2⟩
   |succ j=> have:=mM hs.2 (j:=j) (by simpa using hj);rw [show i+(j+1)=i+1+j by omega];exact this
  ·simp at hs
def axI (pv:List (SB×Bool)->SB->Bool->Bool):Prop:= ∀(ρ:Nat->Int) (pc:List (SB×Bool)) (c:SB) (v:Bool),bM ρ pc->pv pc c v=true->c.den ρ=v
theorem IC {ρ:Nat->Int} {pc:List (SB×Bool)} (hp:bM ρ pc) (e:SE):Within (Zp pc e).1 (Zp pc e).2 (e.den ρ):=by
 unfold Zp;split
 ·simp [Within,SE.den]
 ·exact qN hp
theorem OT {a b x:Int} (h:ahC a b=true) (h1:a<=x) (h2:x<=b):IntKind.i64.wrap x=x:=by simp only [ahC,aJh,decide_eq_true_eq] at h;rw [<- qB];simp only [BH];rw [aJe (by omega)]
theorem aiQ {ρ:Nat->Int} {pc:List (SB×Bool)} (hp:bM ρ pc) (e:SE):Within (QH pc e).1 (QH pc e).2 (e.den ρ):=by
 unfold QH;split
 ·rename_i a b;have ha:=IC hp a;have hb:=IC hp b;split
  ·rename_i la ha' lb hb' e1 e2;rw [e1] at ha;rw [e2] at hb;have a1:=ha.1 la rfl;have a2:=ha.2 ha' rfl;have b1:=hb.1 lb rfl;have b2:=hb.2 hb' rfl;split
   ·rename_i hi;simp only [SE.den];rw [OT hi (by omega) (by omega)];constructor<;>intro l hl<;>simp at hl<;>omega
   ·exact qN hp
  ·exact qN hp
 ·rename_i a b;have ha:=IC hp a;have hb:=IC hp b;split
  ·rename_i la ha' lb hb' e1 e2;rw [e1] at ha;rw [e2] at hb;have a1:=ha.1 la rfl;have a2:=ha.2 ha' rfl;have b1:=hb.1 lb rfl;have b2:=hb.2 hb' rfl;split
   ·rename_i hi;simp only [SE.den];rw [OT hi (by omega) (by omega)];constructor<;>intro l hl<;>simp at hl<;>omega
   ·exact qN hp
  ·exact qN hp
 ·exact IC hp e
theorem JI {a b:Option Int} {x y:Int} (h:QJ a b=true) (h1: ∀z,a=some z->x<=z) (h2: ∀z,b=some z->z<=y):x<y:=by
 unfold QJ at h;split at h
 ·have:=h1 _ rfl;have:=h2 _ rfl;simp at h;omega
 ·simp at h
theorem adU {a b:Option Int} {x y:Int} (h:Xo a b=true) (h1: ∀z,a=some z->x<=z) (h2: ∀z,b=some z->z<=y):x<=y:=by
 unfold Xo at h;split at h
 ·have:=h1 _ rfl;have:=h2 _ rfl;simp at h;omega
 ·simp at h
theorem abG:axI prv:=by
 intro ρ pc c v hp h;unfold prv at h;split at h
 ·rename_i b hb;rw [jP hp hb];simpa using h
 ·split at h
  ·have ha:=fun a=>aiQ hp a;split at h
   ·have:=JI h (ha _).2 (ha _).1;simp [SB.den,this]
   ·have:=adU h (ha _).2 (ha _).1;simp [SB.den]; omega
  ·have ha:=fun a=>aiQ hp a;split at h
   ·simp at h
   ·simp only [aKw] at h;simp only [SB.den,beq_eq_false_iff_ne,ne_eq];rcases h with h|h
    ·have:=JI h (ha _).2 (ha _).1;omega
    ·have:=JI h (ha _).2 (ha _).1;omega
  ·simp at h
theorem O8 {pv:List (SB×Bool)->SB->Bool->Bool} (hpv:axI pv) {r:Ren} (hl:r.ns.length<=900) {ρ:Nat->Int} {pc:List (SB×Bool)} (hp:bM ρ pc): ∀{l:List (SB×Bool)},MB pv r pc l=true->bM (r.env ρ) l
 |[],_=>by intro c b h; simp at h
 |(c0,v0)::l,h=>by
  simp only [MB,aJh] at h;intro c b hm;rcases aJq.1 hm with hm|hm
  ·simp only [aJg] at hm;obtain⟨rfl,rfl⟩:=hm;rw [<- Ren.Jd hl];exact hpv ρ pc _ _ hp h.1
  ·exact O8 hpv hl hp h.2 c b hm
theorem H8 [Glob] {pv:List (SB×Bool)->SB->Bool->Bool} (hpv:axI pv) {E:En} {c:CS} {s:St} {r:Ren} {a:Act} {w:World} (f:Fit E s a w) (h:c.fits pv s r=true):r.ns.length<=900/\Fit (E.ren r) c.st a w/\
 ∀id o,c.st.h.get id=some o->∃o',s.h.get (r.id id)=some o':=by
 unfold CS.fits at h;simp only [aJh] at h;obtain⟨⟨⟨⟨⟨h1,h2⟩,h3⟩,h4⟩,h5⟩,h6⟩:=h;have hl:=aJ9 h1;have hn:=aJj h2
 have hget: ∀id o,c.st.h.get id=some o->c.objs[id]?=some o:=by
  intro id o ho;have:(wI c.objs 0 .nil).get id=some o:=ho;rw [oD] at this;split at this
  ·simpa using this
  ·simp [Tr.get] at this
 refine⟨hl,⟨⟨?_,?_,?_,?_,f.rel.CG,Glob.ren f.rel.glob fun i hi=>Ren.qC hl hi⟩,?_,O8 hpv hl f.pc h6⟩,?_⟩
 ·intro id hid hd;have:id<r.bl.length:=hd.1;have hid:c.objs.length<=id:=hid;omega
 ·intro x hx;simp [CS.st] at hx
 ·intro id o ho;obtain⟨o',g1,g2,g3⟩:=mM h5 (hget id o ho);rw [aJp] at g1 g3;obtain⟨q1,q2,q3⟩:=f.rel.live _ _ g1;have hlt:=(aJC.1 (hget id o ho)).1;exact⟨⟨by omega,q1⟩,OR.ren hl (by rw [hn]; exact g2) g3 q2,q3⟩
 ·intro id id' o o' ho ho' he;obtain⟨p,g1,_⟩:=mM h5 (hget id o ho);obtain⟨p',g1',_⟩:=mM h5 (hget id' o' ho');rw [aJp] at g1 g1';have heq:=f.rel.inj _ _ _ _ g1 g1' he;have hlt:=(aJC.1 (hget id o ho)).1;have hlt':=(aJC.1 (hget id' o' ho')).1;unfold Ren.id at heq
  cases e1:iD r.bl id with
  |none=>rw [dD,aKU] at e1; omega
  |some x=>
   cases e2:iD r.bl id' with
   |none=>rw [dD,aKU] at e2; omega
   |some y=> rw [e1,e2] at heq;simp only at heq;subst heq;exact vN h3 e1 e2
 ·intro t v ht;have:(sS c.slots .nil).get t=some v:=ht;rcases Ce this with h|h
  ·obtain⟨v',g1,g2,g3⟩:=J3 h4 h;obtain⟨u,q1,q2⟩:=f.sr t v' g1;exact⟨u,q1,VR.ren hl v u (by rw [hn]; exact g2) (by rw [g3]; exact q2)⟩
  ·simp [Tr.get] at h
 ·intro id o ho;obtain⟨o',g1,_⟩:=mM h5 (hget id o ho);rw [aJp] at g1;exact⟨o',g1⟩
end
end Go.As
end
section
namespace Go.As
noncomputable section
open Go.RowKit
structure Base where
 w0:World
 ro:Nat->Prop
 ρ0:Nat->Int
structure Top [Glob] (B:Base) (E:En) (s:St) (a:Act) (w:World):Prop where
 fit:Fit E s a w
 hi: ∀i,900<=i->E.ρ i=B.ρ0 i
 ro: ∀b,B.ro b->E.ro b
 below:Below B.w0.heap.size B.w0 w
 own: ∀id o,s.h.get id=some o->B.w0.heap.size<=(E.θ id).1
theorem Top.then [Glob] {B:Base} {E:En} {s s':St} {a a':Act} {w w':World} (t:Top B E s a w) (h:Then E s a w s' a' w'): ∃E',Top B E' s' a' w'/\E'.ρ=E.ρ:=by
 obtain⟨_,_,E',st,f'⟩:=h;refine⟨E',⟨f',fun i hi=>by rw [st.ρ]; exact t.hi i hi,fun b hb=>st.ro b (t.ro b hb),?_,?_⟩,st.ρ⟩
 ·refine t.below.trans ⟨st.os,st.tape,st.output,st.size,fun k hk=>?_⟩
  exact st.keep k (aKb hk t.below.size) fun id o ho he=>by have:=t.own id o ho;omega
 ·intro id o ho;rcases aJx (E'.θ id).1 w.heap.size with h|h
  ·obtain⟨EI,o0,h0,he⟩:=st.own id o ho h;rw [<- he];exact t.own EI o0 h0
  ·exact aJO t.below.size h
theorem Top.fits [Glob] {pv:List (SB×Bool)->SB->Bool->Bool} (hpv:axI pv) {B:Base} {E:En} {c:CS} {s:St} {r:Ren} {a:Act} {w:World} (t:Top B E s a w) (h:c.fits pv s r=true):r.ns.length<=900/\Top B (E.ren r) c.st a w:=by
 obtain⟨hl,f,ho⟩:=H8 hpv t.fit h;refine⟨hl,f,fun i hi=>?_,t.ro,t.below,fun id o hid=>?_⟩
 ·show r.env E.ρ i=_;rw [Ren.qC hl hi];exact t.hi i hi
 ·obtain⟨o',h'⟩:=ho id o hid;exact t.own _ _ h'
inductive Fr where
 |seq (p:List Nat) (c:Code)
 |block (id:Nat)
def V7 {α:Type}:T α->(α->Bool)->Bool
 | .fail,_=>false
 | .ret a,f=>f a
 | .split _ x y,f=>V7 x f&&V7 y f
structure Cfg where
 tt:TT
 call:dS
 draw:Nat->List Oper->St->T St
 lf:Nat
 pv:List (SB×Bool)->SB->Bool->Bool
 res:List ResultVar
def Cfg.ev (g:Cfg) (c:Code) (s:St):T (Ex×St):=lV g.tt g.call g.draw g.lf c s
def isTrue:Option (List AV)->Bool
 |some [.bool (.lit b)]=>b
 |_=>false
def asT (g:Cfg) (e:Ex) (s:St):Bool:=match e with
 | .exit _=>false
 |_=>isTrue (oQ g.tt s g.res)
def aDL:AV->AV->Bool
 | .int _ (.lit a),.int _ (.lit b)=>a == b
 | .int _ (.lit _),.int _ _=>false
 | .slice _ _ n _,.slice _ _ m _=>Nat.beq n m
 | .slice _ _ _ _,_=>false
 | .aA,.aA=>true
 | .aA,_=>false
 |_,_=>true
def quick (s:Tr AV):List (Nat×AV)->Bool
 |[]=>true
 |(t,v)::l=>match s.get t with
  |some v'=>match aDL v v' with
   |true=>quick s l
   |false=>false
  |none=>false
def Xq (pv:List (SB×Bool)->SB->Bool->Bool) (s:St):List CS->Bool
 |[]=>false
 |c::cs=>match quick s.slots c.slots with
  |false=>Xq pv s cs
  |true=>match c.fits pv s (c.guess s) with
   |true=>true
   |false=>Xq pv s cs
abbrev Tabs:=List Nat->Option (List CS)
mutual
def go (g:Cfg) (tabs:Tabs):Nat->List Nat->Code->List Fr->St->Bool
 |0,_,_,_,_=>false
 |n+1,p,c,fr,s=>match tabs p with
  |some cs=>Xq g.pv s cs
  |none=>match c with
   | .seq a b=>go g tabs n (0::p) a (.seq (1::p) b::fr) s
   | .block id b=>go g tabs n (0::p) b (.block id::fr) s
   |c=>V7 (g.ev c s) fun (e,s')=>cont g tabs n fr e s'
def cont (g:Cfg) (tabs:Tabs):Nat->List Fr->Ex->St->Bool
 |0,_,_,_=>false
 |n+1,fr,e,s=>match fr with
  |[]=>asT g e s
  | .seq p c::fr=>match e with
    | .normal=>go g tabs n p c fr s
    |e=>cont g tabs n fr e s
  | .block id::fr=>match e with
    | .exit j=>match Nat.beq j id with
      |true=>cont g tabs n fr .normal s
      |false=>cont g tabs n fr (.exit j) s
    |e=>cont g tabs n fr e s
end
def apart (pc:List (SB×Bool)) (x:SE):List SE->Bool
 |[]=>true
 |y::l=>match decEq pc x y with
  |some false=>apart pc x l
  |_=>false
structure Hint where
 ts:List (SB×Bool):=[]
 xs:List SE:=[]
 n:Nat:=0
section
variable {P:Program} {g:Cfg} {chk:Nat->List Oper->Bool} {N:Nat} {body:Code} {B:Base} {Q:Exit->Act->World->Prop}
structure aI2 [Glob] (P:Program) (g:Cfg) (chk:Nat->List Oper->Bool):Prop where
 tt:eY P g.tt
 call:kU P g.call
 draw:DJ P chk g.draw
 pv:axI g.pv
theorem Top.pc [Glob] {B:Base} {E:En} {s:St} {a:Act} {w:World} {pc:List (SB×Bool)} (t:Top B E s a w) (hp:bM E.ρ pc):Top B E { s with pc:=pc } a w:=
 ⟨⟨t.fit.rel,t.fit.sr,hp⟩,t.hi,t.ro,t.below,t.own⟩
end
end
end Go.As
end
section
namespace Go.As
noncomputable section
open Go.RowKit
section
variable {P:Program} {c:Code} {Q:Exit->Act->World->Prop} {a:Act} {w:World}
def QV (P:Program) (c:Code) (Q:Exit->Act->World->Prop) (a:Act) (w:World):Prop:=
 ∀b k cs,∃e a' w',Q e a' w'/\Arrives P (lone (b.at a (.code c::.inLoop c::k)) cs w) b k cs e a' w'
theorem abN (h:c.wp P (Exit.then (QV P c Q) Q) a w):QV P c Q a w:=by
 intro b k cs;obtain⟨e,a₁,w₁,hq,harr⟩:=h b (.inLoop c::k) cs
 cases e with
 |normal=> obtain⟨e₂,a₂,w₂,hq₂,harr₂⟩:=hq b k cs;exact⟨e₂,a₂,w₂,hq₂,.of_steps (Steps.trans harr (.one step_inLoop)) harr₂⟩
 |exit id=>exact⟨_,a₁,w₁,hq,.pass (x:=.inLoop c) rfl (fun _ _=> .inl (by simp)) harr⟩
 |goto l=>exact⟨_,a₁,w₁,hq,.pass (x:=.inLoop c) rfl (fun _ _=> .inl (by simp)) harr⟩
 |ret=>exact⟨_,a₁,w₁,hq,.pass (x:=.inLoop c) rfl (fun _ _=> .inl (by simp)) harr⟩
 |panic ch=>exact⟨_,a₁,w₁,hq,.pass (x:=.inLoop c) rfl (fun _ _=> .inl (by simp)) harr⟩
 |outgrown=>exact⟨_,a₁,w₁,hq,.pass (x:=.inLoop c) rfl (fun _ _=> .inl (by simp)) harr⟩
theorem abO (h:QV P c Q a w):(Code.loop c).wp P Q a w:=by intro b k cs;obtain⟨e,a',w',hq,harr⟩:=h b k cs;exact⟨e,a',w',hq,.of_steps (.one step_loop) harr⟩
end
inductive FrE where
 |seq (p:List Nat) (c:Code)
 |block (id:Nat)
 |loop (p:List Nat) (b:Code)
 |scope
def vJ (body:Code):List Nat->Option (Code×List FrE)
 |[]=>some (body,[])
 |d::p=>match vJ body p with
  |some (.seq a b,fr)=>match d with
   |0=>some (a,.seq (1::p) b::fr)
   |_=>some (b,fr)
  |some (.block id b,fr)=>some (b,.block id::fr)
  |some (.cond _ a b,fr)=>match d with
   |0=>some (a,fr)
   |_=>some (b,fr)
  |some (.loop b,fr)=>some (b,.loop p b::fr)
  |some (.scope b,fr)=>some (b,.scope::fr)
  |_=>none
def QY (body:Code):List FrE->Prop
 |[]=>True
 | .seq p c::fr=>vJ body p=some (c,fr)/\QY body fr
 | .block _::fr=>QY body fr
 | .loop p b::fr=>vJ body p=some (.loop b,fr)/\QY body fr
 | .scope::fr=>QY body fr
def KE (P:Program) (Q:Exit->Act->World->Prop):List FrE->Exit->Act->World->Prop
 |[]=>Q
 | .seq _ c::fr=>Exit.then (fun a w=>c.wp P (KE P Q fr) a w) (KE P Q fr)
 | .block id::fr=>Exit.inBlock id (KE P Q fr)
 | .loop _ b::fr=>Exit.then (QV P b (KE P Q fr)) (KE P Q fr)
 | .scope::fr=>Exit.noGoto (KE P Q fr)
inductive RK where
 |one (c:CK)
 |agg (cs:List CK)
 deriving DecidableEq,Inhabited
def RK.flat:RK->List CK
 | .one c=>[c]
 | .agg cs=>cs
def vF:List RK->List CK
 |[]=>[]
 |r::rs=>r.flat++vF rs
def aiP (c:CK) (t:SE):AV:=match c with
 | .int k=> .int k t
 | .bool=> .bool (.not (.eq t (.lit 0)))
 | .str=> .nJ t
 | .sl ty=> .dat t ty
def QF:List CK->(Nat->SE)->Nat->List AV
 |[],_,_=>[]
 |c::cs,f,i=>aiP c (f i)::QF cs f (i+1)
def wJ:List RK->(Nat->SE)->Nat->List AV
 |[],_,_=>[]
 | .one c::r,f,i=>aiP c (f i)::wJ r f (i+1)
 | .agg cs::r,f,i=> .agg (QF cs f i)::wJ r f (i+cs.length)
def aqL (c:CK) (v:AV):Option SE:=match c with
 | .int k=>match v with
   | .int k' e=>if k=k' then some e else none
   |_=>none
 | .bool=>none
 | .str=>BG v
 | .sl t=>sN (.sl t) v
def aAy:AV->Bool
 | .agg _=>false
 | .tuple _=>false
 |_=>true
def cellsOf:List RK->List AV->Option (List AV)
 |[],[]=>some []
 | .one _::rs,v::vs=>match aAy v with
   |true=>match cellsOf rs vs with
    |some l=>some (v::l)
    |none=>none
   |false=>none
 | .agg cs::rs,v::vs=>match v with
   | .agg xs=>match Nat.beq xs.length cs.length with
     |true=>match cellsOf rs vs with
      |some l=>some (xs++l)
      |none=>none
     |false=>none
   |_=>none
 |_,_=>none
def outs {α:Type}:List CK->List AV->St->(List SE->St->T α)->T α
 |[],[],s,k=>k [] s
 |c::cs,v::vs,s,k=>match c with
  | .bool=>match v with
    | .bool b=>qX s b fun s b=>outs cs vs s fun es s=>k (.lit (if b then 1 else 0)::es) s
    |_=> .fail
  |c=>match aqL c v with
   |some e=>outs cs vs s fun es s=>k (e::es) s
   |none=> .fail
 |_,_,_,_=> .fail
def iU:List SE->SE
 |[]=> .dat (.i 0)
 |e::es=>iG (Jc e) (iU es)
def uZ (r:SE) (i:Nat):SE:=.op .num (.op (.cell i) r (.lit 0)) (.lit 0)
inductive Lf where
 |out (es:List SE)
 |jump (j:Nat) (es:List SE)
 deriving Inhabited
structure JO where
 tt:TT
 call:dS
 draw:Nat->List Oper->St->T St
 lf:Nat
 res:List ResultVar
 pX:List RK
 eG:List dW:=[]
 ko:Nat:=0
 wZ:List CS:=[]
 kV:Nat:=0
 fz:List (Nat×Nat×Nat):=[]
def JO.ev (g:JO) (c:Code) (s:St):T (Ex×St):=lV g.tt g.call g.draw g.lf c s
abbrev Lu:=List Nat->Option (List (Nat×CS))
def aD8:Nat->Tr (Nat×Nat)
 |0=> .nil
 |n+1=>(aD8 n).put n (some (n,0))
def jT (g:JO) (h:Hp):Ren:=match JA h g.eG 0 ⟨.nil,aD8 g.eG.length⟩ with
 |⟨ns,_⟩=> ⟨FT ns g.ko 0,List.range g.eG.length,[]⟩
def CS.mO (m:Nat) (c:CS) (s:St):Ren:=match JA s.h c.objs 0 (Me s.slots c.slots ⟨.nil,aD8 m⟩) with
 |⟨ns,bl⟩=> ⟨FT ns c.k 0,V4 bl c.objs.length 0,V3 bl c.objs.length 0⟩
def OV (m:Nat) (r:Ren):Bool:=match m with
 |0=>true
 |n+1=>(match iD r.bl n with |some j=>Nat.beq j n|none=>false)&&Nat.beq (r.BN n) 0&&OV n r
def KA:Nat->Nat->List SE->List SE
 |0,_,ns=>ns
 |_+1,_,[]=>[]
 |n+1,i,_::ns=> .aP i::KA n (i+1) ns
def yE (kV:Nat) (r:Ren):Ren:=match kV with
 |0=>r
 |n+1=>{ r with ns:=KA (n+1) 0 r.ns }
def Y7 (n m kV:Nat) (s:St):List CS->Nat->T Lf
 |[],_=> .fail
 |c::l,i=>match quick s.slots c.slots&&Nat.beq n c.slots.length with
  |false=>Y7 n m kV s l (i+1)
  |true=>match c.fits prv s (yE kV (c.mO m s))&&OV m (yE kV (c.mO m s)) with
   |true=> .ret (.out (.lit (Int.ofNat i)::(yE kV (c.mO m s)).ns))
   |false=>Y7 n m kV s l (i+1)
def acF {α:Type}:List (Nat×Nat×Nat)->List AV->St->(List AV->St->T α)->T α
 |[],vs,s,k=>k vs s
 |(r,f,t)::l,vs,s,k=>match iD vs r with
  |some (.agg xs)=>match iD xs f with
   |some x=>akX x s fun x s=>match sN (.sl t) x with
    |some e=>acF l (vs.set r (.agg (xs.set f (.dat e t)))) s k
    |none=> .fail
   |none=> .fail
  |_=> .fail
def asW (g:JO) (e:Ex) (s:St):T Lf:=match e with
 | .exit _=> .fail
 |_=>match oQ g.tt s g.res with
  |none=> .fail
  |some vs=>match g.wZ with
   |[]=>match cellsOf g.pX vs with
    |none=> .fail
    |some cells=>HY cells s fun cells s=>match Jl (jT g s.h) g.eG.length s.h g.eG 0 with
     |true=>outs (vF g.pX) cells s fun es _=> .ret (.out ((jT g s.h).ns++es))
     |false=> .fail
   |c::l=>acF g.fz vs s fun vs s=>Y7 vs.length g.eG.length g.kV ⟨bI vs 0 .nil,s.h,s.pc⟩ (c::l) 0
def yC (m kV:Nat) (s:St):List (Nat×CS)->T Lf
 |[]=> .fail
 |(j,c)::l=>match quick s.slots c.slots with
  |false=>yC m kV s l
  |true=>match c.fits prv s (yE kV (c.mO m s))&&OV m (yE kV (c.mO m s)) with
   |true=> .ret (.jump j (yE kV (c.mO m s)).ns)
   |false=>yC m kV s l
def ZY {α:Type} (k:St->T α):List (Nat×Nat)->St->T α
 |[],s=>k s
 |(t,g)::l,s=>match s.slots.get t with
  |some (.int _ e)=>qX s (.eq e (.aP g)) fun s _=>ZY k l s
  |_=>ZY k l s
def Dw {α:Type} (k:St->T α):List Nat->St->T α
 |[],s=>k s
 |t::ts,s=>match s.slots.get t with
  |some (.bool c)=>qX s c fun s b=>Dw k ts { s with slots:=s.slots.put t (some (.bool (.lit b))) }
  |_=>Dw k ts s
def awV:List (Nat×AV)->List Nat->List Nat
 |[],acc=>acc
 |(t,.bool _)::l,acc=>awV l (t::acc)
 |_::l,acc=>awV l acc
def awW:List (Nat×CS)->List Nat->List Nat
 |[],acc=>acc
 |(_,c)::l,acc=>awW l (awV c.slots acc)
mutual
def EJ (g:JO) (tabs:Lu):Nat->List Nat->Code->List FrE->St->T Lf
 |0,_,_,_,_=> .fail
 |n+1,p,c,fr,s=>match tabs p with
  |some l=>Dw (fun s=>yC g.eG.length g.kV s l) (awW l []) s
  |none=>match c with
   | .seq a b=>EJ g tabs n (0::p) a (.seq (1::p) b::fr) s
   | .block id b=>EJ g tabs n (0::p) b (.block id::fr) s
   | .scope b=>EJ g tabs n (0::p) b (.scope::fr) s
   | .cond v a b=>match As.ev s v with
     |some (.bool c)=>qX s c fun s t=>match t with
      |true=>EJ g tabs n (0::p) a fr s
      |false=>EJ g tabs n (1::p) b fr s
     |_=> .fail
   |c=>(g.ev c s).bind fun (e,s')=>AX g tabs n fr e s'
def AX (g:JO) (tabs:Lu):Nat->List FrE->Ex->St->T Lf
 |0,_,_,_=> .fail
 |n+1,fr,e,s=>match fr with
  |[]=>asW g e s
  | .seq p c::fr=>match e with
    | .normal=>EJ g tabs n p c fr s
    |e=>AX g tabs n fr e s
  | .block id::fr=>match e with
    | .exit j=>match Nat.beq j id with
      |true=>AX g tabs n fr .normal s
      |false=>AX g tabs n fr (.exit j) s
    |e=>AX g tabs n fr e s
  | .loop p _::fr=>match e with
    | .normal=>match tabs p with
      |some l=>Dw (fun s=>yC g.eG.length g.kV s l) (awW l []) s
      |none=> .fail
    |e=>AX g tabs n fr e s
  | .scope::fr=>AX g tabs n fr e s
end
abbrev uT:=Nat->List Int->Option (List Int)
def qY (xs:List Int):Int:=enc (dL (xs.map .i))
def Good (F:uT) (ρ:Nat->Int):Prop:= ∀j xs,ρ (lI (2*j) (qY xs))=(if (F j xs).isSome then 1 else 0)/\ρ (lI (2*j+1) (qY xs))=qY ((F j xs).getD [])
def low (xs:List Int) (i:Nat):Int:=xs.getD i 0
open Classical in
def bQ (F:uT) (lo:Nat->Int) (i:Nat):Int:=if i<900 then lo i else
 if h: ∃p:Nat×List Int,i=lI (2*p.1) (qY p.2) then (if (F h.choose.1 h.choose.2).isSome then 1 else 0) else
 if h: ∃p:Nat×List Int,i=lI (2*p.1+1) (qY p.2) then qY ((F h.choose.1 h.choose.2).getD []) else 0
theorem Zq {a b:List Int} (h:qY a=qY b):a=b:=by
 unfold qY at h;have:=P6 (jB h)
 have hinj: ∀{x y:List Int},x.map D.i=y.map D.i->x=y:=by
  intro x
  induction x with
  |nil=>intro y h; cases y with |nil=>rfl|cons z y=>simp at h
  |cons z x ih=>
   intro y h
   cases y with
   |nil=>simp at h
   |cons q y=> simp only [aJz,List.cons.injEq,D.i.injEq] at h;rw [h.1,ih h.2]
 exact hinj this
theorem zV {f g:Nat} {a b:Int} (h:lI f a=lI g b):f=g/\a=b:=by unfold lI at h;obtain⟨h1,h2⟩:=Jo (a:=f) (b:=zN a) (a':=g) (b':=zN b) (by omega);exact⟨h1,amL h2⟩
theorem DC (f:Nat) (a:Int):1000<=lI f a:=by unfold lI; omega
theorem wP {F:uT} {lo:Nat->Int} {i:Nat} (h:i<900):bQ F lo i=lo i:=by unfold bQ; rw [aJe h]
theorem oV (F:uT) (lo:Nat->Int):Good F (bQ F lo):=by
 intro j xs;have h1:=DC (2*j) (qY xs);have h2:=DC (2*j+1) (qY xs);constructor
 ·unfold bQ;rw [aJd (by omega)];have h: ∃p:Nat×List Int,lI (2*j) (qY xs)=lI (2*p.1) (qY p.2):=⟨(j,xs),rfl⟩;rw [dif_pos h];obtain⟨q1,q2⟩:=zV h.choose_spec;have q2:=Zq q2;have q1:h.choose.1=j:=by omega
  rw [<- q2,q1]
 ·unfold bQ;rw [aJd (by omega)]
  have hn: ¬∃p:Nat×List Int,lI (2*j+1) (qY xs)=lI (2*p.1) (qY p.2):=by rintro⟨p,hp⟩;have:=(zV hp).1;omega
  rw [dif_neg hn];have h: ∃p:Nat×List Int,lI (2*j+1) (qY xs)=lI (2*p.1+1) (qY p.2):=⟨(j,xs),rfl⟩;rw [dif_pos h];obtain⟨q1,q2⟩:=zV h.choose_spec;have q2:=Zq q2;have q1:h.choose.1=j:=by omega
  rw [<- q2,q1]
theorem Good.ren {F:uT} {ρ ρ':Nat->Int} (g:Good F ρ) (h: ∀i,900<=i->ρ' i=ρ i):Good F ρ':=by intro j xs;have h1:=DC (2*j) (qY xs);have h2:=DC (2*j+1) (qY xs);rw [h _ (by omega),h _ (by omega)];exact g j xs
def fD (tree:Nat->T Lf):Nat->uT
 |0,_,_=>none
 |n+1,j,xs=>match (tree j).leaf (bQ (fD tree n) (low xs)) with
  |none=>none
  |some (.out es)=>some (es.map (SE.den (bQ (fD tree n) (low xs))))
  |some (.jump j' es)=>fD tree n j' (es.map (SE.den (bQ (fD tree n) (low xs))))
def SG:List CK->Bool
 |[]=>true
 |c::l=>match c with
  | .int _=>SG l
  | .bool=>SG l
  |_=>false
def arT (j:Nat) (QM pX:List RK):List AV->St->T (AV×St):=fun args s=>match cellsOf QM args with
 |none=> .fail
 |some cells=>HY cells s fun cells s1=>outs (vF QM) cells s1 fun es s2=>
  qX s2 (.eq (.ap (2*j) (iU es)) (.lit 1)) fun s3 b=>match b with
   |true=> .ret (match wJ pX (uZ (.ap (2*j+1) (iU es))) 0 with |[v]=>v|vs=> .tuple vs,match SG (vF pX) with
    |true=>{ s3 with h:=s.h }
    |false=>s3)
   |false=> .fail
end
end Go.As
end
section
namespace Go.As
open Go.RowKit
def gY (K:Nat):SE->Bool
 | .lit _=>true
 | .aP i=>Nat.blt i K
 | .add a b=>gY K a&&gY K b
 | .sub a b=>gY K a&&gY K b
 | .mul a b=>gY K a&&gY K b
 | .quo a b=>gY K a&&gY K b
 | .rem a b=>gY K a&&gY K b
 | .wrap _ a=>gY K a
 | .inp _ _=>false
 | .dat _=>true
 | .op _ a b=>gY K a&&gY K b
 | .ap _ _=>false
def Cm (K:Nat):SB->Bool
 | .lit _=>true
 | .lt a b=>gY K a&&gY K b
 | .le a b=>gY K a&&gY K b
 | .eq a b=>gY K a&&gY K b
 | .not s=>Cm K s
 | .and a b=>Cm K a&&Cm K b
mutual
def pK (K:Nat):AV->Bool
 | .bool b=>Cm K b
 | .int _ e=>gY K e
 | .sG cs=>qM K cs
 | .ro cs _ _=>qM K cs
 | .func _ a b=>qM K a&&qM K b
 | .iface _ v=>pK K v
 | .agg cs=>qM K cs
 | .tuple cs=>qM K cs
 | .inp _ _=>false
 | .dat e _=>gY K e
 | .nJ e=>gY K e
 | .vZ _ n _=>gY K n
 | .qZ _ _ i _=>gY K i
 | .BL _ l n _=>gY K l&&gY K n
 | .IW z _=>gY K z
 |_=>true
def qM (K:Nat):List AV->Bool
 |[]=>true
 |x::xs=>pK K x&&qM K xs
end
def MK (K:Nat):List (AV×AV×Nat)->Bool
 |[]=>true
 |(k,v,_)::l=>pK K k&&pK K v&&MK K l
def Oq (K:Nat):List (SE×List AV)->Bool
 |[]=>true
 |(i,cs)::l=>gY K i&&qM K cs&&Oq K l
def G7 (K:Nat):dW->Bool
 | .cells cs _=>qM K cs
 | .map es _=>MK K es
 | .oW _ _=>true
 | .vec e _ _ ov=>gY K e&&Oq K ov
 | .jJ e _=>gY K e
def agD (K:Nat):List (SB×Bool)->Bool
 |[]=>true
 |(c,_)::l=>Cm K c&&agD K l
def yP (K:Nat):List (Nat×AV)->Bool
 |[]=>true
 |(_,v)::l=>pK K v&&yP K l
def LY (K:Nat):List dW->Bool
 |[]=>true
 |o::l=>G7 K o&&LY K l
def Dq (K:Nat) (c:CS):Bool:=yP K c.slots&&LY K c.objs&&agD K c.pc
section
variable {K:Nat} {ρ ρ':Nat->Int} (hρ: ∀i,i<K->ρ' i=ρ i)
include hρ
theorem dJ: ∀e:SE,gY K e=true->e.den ρ'=e.den ρ
 | .lit _,_=>rfl
 | .aP i,h=>by simp only [gY] at h; exact hρ i (F7 h)
 | .add a b,h=>by simp only [gY,aJh] at h; simp only [SE.den,dJ a h.1,dJ b h.2]
 | .sub a b,h=>by simp only [gY,aJh] at h; simp only [SE.den,dJ a h.1,dJ b h.2]
 | .mul a b,h=>by simp only [gY,aJh] at h; simp only [SE.den,dJ a h.1,dJ b h.2]
 | .quo a b,h=>by simp only [gY,aJh] at h; simp only [SE.den,dJ a h.1,dJ b h.2]
 | .rem a b,h=>by simp only [gY,aJh] at h; simp only [SE.den,dJ a h.1,dJ b h.2]
 | .wrap _ a,h=>by simp only [gY] at h; simp only [SE.den,dJ a h]
 | .inp _ _,h=>by simp [gY] at h
 | .dat _,_=>rfl
 | .op _ a b,h=>by simp only [gY,aJh] at h; simp only [SE.den,dJ a h.1,dJ b h.2]
 | .ap _ _,h=>by simp [gY] at h
theorem yT: ∀c:SB,Cm K c=true->c.den ρ'=c.den ρ
 | .lit _,_=>rfl
 | .lt a b,h=>by simp only [Cm,aJh] at h; simp only [SB.den,dJ hρ a h.1,dJ hρ b h.2]
 | .le a b,h=>by simp only [Cm,aJh] at h; simp only [SB.den,dJ hρ a h.1,dJ hρ b h.2]
 | .eq a b,h=>by simp only [Cm,aJh] at h; simp only [SB.den,dJ hρ a h.1,dJ hρ b h.2]
 | .not s,h=>by simp only [Cm] at h; simp only [SB.den,yT s h]
 | .and a b,h=>by simp only [Cm,aJh] at h; simp only [SB.den,yT a h.1,yT b h.2]
end
section
variable {K:Nat} {E E':En} (hρ: ∀i,i<K->E'.ρ i=E.ρ i) (hθ:E'.θ=E.θ) (hκ:E'.κ=E.κ) (hdm:E'.dm=E.dm) (hro:E'.ro=E.ro) {h:Array Obj}
include hρ hθ hκ hdm hro
theorem gJ.low {id off len:Nat} {a:Addr} {cap:Nat} {c:ZK} (hc:gJ E id off len a cap c):gJ E' id off len a cap c:=by
 cases c<;>simp only [gJ] at*<;>rw [hθ]
 ·exact hc
 ·rw [hκ]; exact hc
mutual
theorem VR.low: ∀(x:AV) (u:Value),pK K x=true->VR E h x u->VR E' h x u
 | .bool b,u,hl,hv=>by simp only [VR,pK] at *; rw [yT hρ b hl]; exact hv
 | .int _ e,u,hl,hv=>by simp only [VR,pK] at *; rw [dJ hρ e hl]; exact hv
 | .str s,u,_,hv=>by simp only [VR] at *; exact hv
 | .ptr id off,u,_,hv=>by simp only [VR] at *; rw [hθ,hdm]; exact hv
 | .lD,u,_,hv=>by simp only [VR] at *; exact hv
 | .sG cs,u,hl,hv=>by simp only [VR,pK] at *;obtain⟨b,o,us,h1,h2,h3,h4,h5⟩:=hv;exact⟨b,o,us,h1,by rw [hro]; exact h2,bP.low cs us hl h3,h4,h5⟩
 | .slice id off len c,u,_,hv=>by simp only [VR] at *;obtain⟨h1,a,cap,h2,h3,h4⟩:=hv;exact⟨by rw [hdm]; exact h1,a,cap,h2,h3,gJ.low hρ hθ hκ hdm hro h4⟩
 | .aA,u,_,hv=>by simp only [VR] at *; exact hv
 | .ro cs n full,u,hl,hv=>by simp only [VR,pK] at *;obtain⟨b,o,cap,us,h1,h2,h3,h4,h5,h6,h7⟩:=hv;exact⟨b,o,cap,us,h1,h2,h3,by rw [hro]; exact h4,bP.low cs us hl h5,h6,h7⟩
 | .map id,u,_,hv=>by simp only [VR] at *; rw [hθ,hdm]; exact hv
 | .qI,u,_,hv=>by simp only [VR] at *; exact hv
 | .func fn fs cs,u,hl,hv=>by simp only [VR,pK,aJh] at *;obtain⟨us,ws,h1,h2,h3⟩:=hv;exact⟨us,ws,h1,bP.low fs us hl.1 h2,bP.low cs ws hl.2 h3⟩
 | .CW,u,_,hv=>by simp only [VR] at *; exact hv
 | .iface t x,u,hl,hv=>by simp only [VR,pK] at *;obtain⟨y,h1,h2⟩:=hv;exact⟨y,h1,VR.low x y hl h2⟩
 | .FM,u,_,hv=>by simp only [VR] at *; exact hv
 | .agg cs,u,hl,hv=>by simp only [VR,pK] at *;obtain⟨us,h1,h2⟩:=hv;exact⟨us,h1,bP.low cs us hl h2⟩
 | .tuple cs,u,hl,hv=>by simp only [VR,pK] at *;obtain⟨us,h1,h2⟩:=hv;exact⟨us,h1,bP.low cs us hl h2⟩
 | .opq _,u,_,hv=>by simp only [VR] at hv
 | .inp _ _,u,hl,_=>by simp [pK] at hl
 | .emp,u,_,hv=>by simp only [VR] at *; exact hv
 | .dat e t,u,hl,hv=>by simp only [VR,pK] at *; rw [dJ hρ e hl,hro]; exact hv
 | .nJ e,u,hl,hv=>by simp only [VR,pK] at *; rw [dJ hρ e hl,hro]; exact hv
 | .vZ id n t,u,hl,hv=>by simp only [VR,pK] at *;obtain⟨h1,k,a,cap,h2,h3,h4,h5⟩:=hv;exact⟨by rw [hdm]; exact h1,k,a,cap,by rw [dJ hρ n hl]; exact h2,h3,h4,gJ.low hρ hθ hκ hdm hro h5⟩
 | .qZ id es i off,u,hl,hv=>by simp only [VR,pK] at *;obtain⟨h1,k,h2,h3⟩:=hv;exact⟨by rw [hdm]; exact h1,k,by rw [dJ hρ i hl]; exact h2,by rw [hθ]; exact h3⟩
 | .any,u,_,_=>by simp only [VR]
 | .IW z t,u,hl,hv=>by simp only [VR,pK] at *; rw [dJ hρ z hl,hro]; exact hv
 | .BL id lo n t,u,hl,hv=>by simp only [VR,pK,aJh] at *;obtain⟨h1,l,k,a,cap,h2,h3,h4,h5,h6⟩:=hv;exact⟨by rw [hdm]; exact h1,l,k,a,cap,by rw [dJ hρ lo hl.1]; exact h2,by rw [dJ hρ n hl.2]; exact h3,h4,h5,gJ.low hρ hθ hκ hdm hro h6⟩
theorem bP.low: ∀(xs:List AV) (us:List Value),qM K xs=true->bP E h xs us->bP E' h xs us
 |[],us,_,hv=>by simp only [bP] at *; exact hv
 |x::xs,us,hl,hv=>by simp only [bP,qM,aJh] at *;obtain⟨u,vs,h1,h2,h3⟩:=hv;exact⟨u,vs,h1,VR.low x u hl.1 h2,bP.low xs vs hl.2 h3⟩
end
theorem fF.low: ∀{es:List (AV×AV×Nat)} {ents:List MapEntry},MK K es=true->fF E h es ents->fF E' h es ents
 |[],_,_,hv=>by simp only [fF] at *; exact hv
 |(k,v,b)::es,ents,hl,hv=>by simp only [fF,MK,aJh] at *;obtain⟨e,r,h1,h2,h3,h4,h5⟩:=hv;exact⟨e,r,h1,VR.low hρ hθ hκ hdm hro k _ hl.1.1 h2,VR.low hρ hθ hκ hdm hro v _ hl.1.2 h3,h4,fF.low hl.2 h5⟩
theorem Tq {i:Nat}: ∀{ov:List (SE×List AV)},Oq K ov=true->dR E'.ρ i ov=dR E.ρ i ov
 |[],_=>rfl
 |(j,cs)::l,hl=>by simp only [Oq,aJh] at hl;simp only [dR];rw [dJ hρ j hl.1.1,Tq hl.2]
theorem Tv: ∀{ov:List (SE×List AV)},Oq K ov=true->∀p∈ov,qM K p.2=true
 |[],_,p,hp=>by simp at hp
 |(j,cs)::l,hl,p,hp=>by
  simp only [Oq,aJh] at hl;rcases aJq.1 hp with rfl|hp
  ·exact hl.1.2
  ·exact Tv hl.2 p hp
theorem Ip {r:Row} {ov:List (SE×List AV)} (hl:Oq K ov=true): ∀(ds:List D) (i:Nat) {us:List Value},bP E h (aO E.ρ r ov ds i) us->bP E' h (aO E'.ρ r ov ds i) us
 |[],_,us,hv=>by simp only [aO,bP] at *; exact hv
 |d::ds,i,us,hv=>by
  simp only [aO] at *;obtain⟨a,b,rfl,h1,h2⟩:=hv.split;refine bP.append ?_ (Ip hl ds (i+1) h2);rw [Tq hρ hθ hκ hdm hro hl]
  cases ho:dR E.ρ i ov with
  |none=> rw [ho] at h1;rw [iI] at h1 ⊢;rw [hro];exact h1
  |some cs=> rw [ho] at h1;obtain⟨p,p1,p2,_⟩:=oO ho;exact bP.low hρ hθ hκ hdm hro cs a (by rw [<- p2]; exact Tv hρ hθ hκ hdm hro hl p p1) h1
theorem OR.low {id:Nat} {o:dW} (hl:G7 K o=true) (ho:OR E h id o):OR E' h id o:=by
 cases o with
 |cells cs e=> simp only [OR,G7] at *;obtain⟨arr,lo,hi,us,h1,h2,h3,h4,h5,h6,h7⟩:=ho;rw [hθ,hκ];exact⟨arr,lo,hi,us,h1,bP.low hρ hθ hκ hdm hro cs us hl h2,h3,h4,h5,h6,h7⟩
 |map es c=> simp only [OR,G7] at *;obtain⟨ents,c',h1,h2⟩:=ho;rw [hθ];exact⟨ents,c',h1,fF.low hρ hθ hκ hdm hro hl h2⟩
 |oW s p=>simp only [OR] at *; rw [hθ]; exact ho
 |jJ e t=> simp only [OR,G7] at *;obtain⟨ents,c',h1,h2⟩:=ho;rw [hθ,dJ hρ e hl,hro];exact⟨ents,c',h1,h2⟩
 |vec e t ty ov=> simp only [OR,G7,aJh] at *;obtain⟨⟨h0,hw⟩,arr,lo,hi,us,h1,h2,h3,h4,h5,h6,h7⟩:=ho;have he:=dJ hρ e hl.1;rw [hθ,hκ,he];refine⟨⟨h0,hw⟩,arr,lo,hi,us,h1,Ip hρ hθ hκ hdm hro hl.2 _ _ h2,h3,?_,h5,h6,h7⟩;rw [bY h0] at h4 ⊢;exact h4
end
theorem Yf {K:Nat} {ρ ρ':Nat->Int} (hρ: ∀i,i<K->ρ' i=ρ i): ∀{pc:List (SB×Bool)},agD K pc=true->bM ρ pc->bM ρ' pc
 |[],_,_=>by intro c b h; simp at h
 |(c0,b0)::l,hl,hp=>by
  simp only [agD,aJh] at hl;intro c b hm;rcases aJq.1 hm with hm|hm
  ·simp only [aJg] at hm;obtain⟨rfl,rfl⟩:=hm;rw [yT hρ c hl.1];exact hp c b (by simp)
  ·exact Yf hρ hl.2 (fun c b h=>hp c b (by simp [h])) c b hm
theorem GI {K:Nat}: ∀{l:List (Nat×AV)},yP K l=true->∀{t:Nat} {v:AV},(t,v)∈l->pK K v=true
 |[],_,_,_,h=>by simp at h
 |(t0,v0)::l,hs,t,v,h=>by
  simp only [yP,aJh] at hs;rcases aJq.1 h with h|h
  ·simp only [aJg] at h;rw [h.2]; exact hs.1
  ·exact GI hs.2 h
theorem CV {K:Nat}: ∀{l:List dW},LY K l=true->∀{i:Nat} {o:dW},l[i]?=some o->G7 K o=true
 |[],_,_,_,h=>by simp at h
 |o0::l,hs,i,o,h=>by
  simp only [LY,aJh] at hs
  cases i with
  |zero=>simp at h; rw [<- h]; exact hs.1
  |succ i=>exact CV hs.2 (by simpa using h)
structure IL (E:En) (s:St) (a:Act) (w:World):Prop where
 fresh: ∀id,s.h.next<=id->¬E.dm id
 res: ∀r,s.h.res=some r->r<s.h.next/\¬E.dm r
 live: ∀id o,s.h.get id=some o->E.dm id/\OR E w.heap id o/\¬E.ro (E.θ id).1
 inj: ∀id id' o o',s.h.get id=some o->s.h.get id'=some o'->(E.θ id).1=(E.θ id').1->id=id'
 CG: ∀b,E.ro b->b<w.heap.size
 sr:SR E w.heap s.slots a
 pc:bM E.ρ s.pc
theorem Fit.x [Glob] {E:En} {s:St} {a:Act} {w:World} (f:Fit E s a w):IL E s a w:=⟨f.rel.fresh,f.rel.res,f.rel.live,f.rel.inj,f.rel.CG,f.sr,f.pc⟩
theorem IL.fit [Glob] {E:En} {s:St} {a:Act} {w:World} (f:IL E s a w) (hg:Glob.ok E.ρ E.ro w.heap):Fit E s a w:=⟨⟨f.fresh,f.res,f.live,f.inj,f.CG,hg⟩,f.sr,f.pc⟩
theorem IL.low {K:Nat} {E:En} {c:CS} {a:Act} {w:World} {ρ':Nat->Int} (hc:Dq K c=true) (hρ: ∀i,i<K->ρ' i=E.ρ i) (f:IL E c.st a w):IL { E with ρ:=ρ' } c.st a w:=by
 unfold Dq at hc;simp only [aJh] at hc;obtain⟨⟨h1,h2⟩,h3⟩:=hc;refine⟨f.fresh,f.res,fun id o ho=>?_,f.inj,f.CG,fun t v ht=>?_,Yf hρ h3 f.pc⟩
 ·obtain⟨q1,q2,q3⟩:=f.live id o ho;refine⟨q1,OR.low (E:=E) (E':={ E with ρ:=ρ' }) hρ rfl rfl rfl rfl ?_ q2,q3⟩;have:(wI c.objs 0 .nil).get id=some o:=ho;rw [oD] at this;split at this
  ·exact CV h2 this
  ·simp [Tr.get] at this
 ·obtain⟨u,q1,q2⟩:=f.sr t v ht;refine⟨u,q1,VR.low (E:=E) (E':={ E with ρ:=ρ' }) hρ rfl rfl rfl rfl v u ?_ q2⟩;have:(sS c.slots .nil).get t=some v:=ht;rcases Ce this with h|h
  ·exact GI h1 h
  ·simp [Tr.get] at h
end Go.As
end
section
namespace Go.As
open Go.RowKit
def DK (ro:Nat->Prop) (h:Array Obj) (c:CK) (n:Int) (u:Value):Prop:=match c with
 | .int k=>u= .int k n
 | .bool=>u= .bool (!(n == 0))
 |c=>Rd ro h c (dec n) u
def jY (ro:Nat->Prop) (h:Array Obj):List CK->List Int->List Value->Prop
 |[],ns,us=>ns= []/\us= []
 |c::cs,ns,us=> ∃n ns' u us',ns=n::ns'/\us=u::us'/\DK ro h c n u/\jY ro h cs ns' us'
theorem Zo {E:En} {h:Array Obj} {c:CK} {t:SE} {u:Value}:VR E h (aiP c t) u↔DK E.ro h c (t.den E.ρ) u:=by cases c<;>simp only [aiP,DK,VR,SB.den,SE.den]
theorem aqK {E:En} {h:Array Obj} {c:CK} {v:AV} {u:Value} {e:SE} (hv:VR E h v u) (hn:aqL c v=some e):DK E.ro h c (e.den E.ρ) u:=by
 unfold aqL at hn;split at hn
 ·split at hn
  ·split at hn
   ·rename_i hk;subst hk;simp only [aJf] at hn;subst hn;simpa only [DK,VR] using hv
   ·simp at hn
  ·simp at hn
 ·simp at hn
 ·obtain⟨s,rfl,hs⟩:=Gy hv hn;simp only [DK,hs];exact .str s
 ·exact qV hv hn
theorem jY.length {ro:Nat->Prop} {h:Array Obj}: ∀{cs:List CK} {ns:List Int} {us:List Value},jY ro h cs ns us->ns.length=cs.length/\us.length=cs.length
 |[],ns,us,hh=>by simp only [jY] at hh; simp [hh.1,hh.2]
 |c::cs,ns,us,hh=>by obtain⟨n,ns',u,us',rfl,rfl,_,h2⟩:=hh;have:=h2.length;simp [this.1,this.2]
theorem DK.keep {ro ro':Nat->Prop} {h h':Array Obj} (k1: ∀b,ro b->ro' b) (k2: ∀b,ro b->h'[b]?=h[b]?) {c:CK} {n:Int} {u:Value} (r:DK ro h c n u):DK ro' h' c n u:=by
 cases c with
 |int k=>exact r
 |bool=>exact r
 |str=>exact Rd.keep k1 k2 r
 |sl t=>exact Rd.keep k1 k2 r
theorem QD {E:En} {h:Array Obj} {f:Nat->SE}: ∀{cs:List CK} {i:Nat} {ns:List Int} {us:List Value},jY E.ro h cs ns us->(∀k n,ns[k]?=some n->(f (i+k)).den E.ρ=n)->bP E h (QF cs f i) us
 |[],_,_,us,hh,_=>by simp only [jY] at hh; rw [hh.2]; simp [QF,bP]
 |c::cs,i,ns,us,hh,hf=>by
  obtain⟨n,ns',u,us',rfl,rfl,h1,h2⟩:=hh;simp only [QF,bG];refine⟨u,us',rfl,?_,QD h2 fun k m hk=>?_⟩
  ·rw [Zo];have:=hf 0 n rfl;rw [aJG] at this;rw [this];exact h1
  ·have:=hf (k+1) m (by simpa using hk);rw [show i+1+k=i+(k+1) by omega];exact this
inductive Shape:List RK->List Value->List Value->Prop where
 |nil:Shape [] [] []
 |one (c:CK) {rs:List RK} {us fl:List Value} (u:Value):Shape rs us fl->Shape (.one c::rs) (u::us) (u::fl)
 |agg (cs:List CK) {rs:List RK} {us fl:List Value} (xs:List Value) (h:xs.length=cs.length):Shape rs us fl->Shape (.agg cs::rs) (.agg xs.toArray::us) (xs++fl)
theorem tC {E:En} {h:Array Obj}: ∀{pX:List RK} {vs cells:List AV} {us:List Value},bP E h vs us->cellsOf pX vs=some cells->∃fl,Shape pX us fl/\bP E h cells fl
 |[],[],cells,us,hv,hc=>by simp only [cellsOf,aJf] at hc;subst hc;simp only [bP] at hv;subst hv;exact⟨[],.nil,by simp [bP]⟩
 |[],_::_,cells,us,hv,hc=>by simp [cellsOf] at hc
 | .one _::_,[],cells,us,hv,hc=>by simp [cellsOf] at hc
 | .agg _::_,[],cells,us,hv,hc=>by simp [cellsOf] at hc
 | .one c::rs,v::vs,cells,us,hv,hc=>by
   rw [bG] at hv;obtain⟨u,us',rfl,h1,h2⟩:=hv;simp only [cellsOf] at hc;split at hc
   ·split at hc
    ·rename_i l hl;simp only [aJf] at hc;subst hc;obtain⟨fl,s,v2⟩:=tC h2 hl;exact⟨u::fl,.one c u s,by rw [bG]; exact⟨u,fl,rfl,h1,v2⟩⟩
    ·simp at hc
   ·simp at hc
 | .agg cs::rs,v::vs,cells,us,hv,hc=>by
   rw [bG] at hv;obtain⟨u,us',rfl,h1,h2⟩:=hv;simp only [cellsOf] at hc;split at hc
   ·rename_i xs;split at hc
    ·rename_i hlen;have hlen:=aJj hlen;split at hc
     ·rename_i l hl;simp only [aJf] at hc;subst hc;obtain⟨fl,s,v2⟩:=tC h2 hl;simp only [VR] at h1;obtain⟨ws,rfl,h3⟩:=h1;exact⟨ws++fl,.agg cs ws (by rw [h3.length,hlen]) s,h3.append v2⟩
     ·simp at hc
    ·simp at hc
   ·simp at hc
theorem E5 {ro:Nat->Prop} {h:Array Obj}: ∀{cs ds:List CK} {ns:List Int} {us vs:List Value},us.length=cs.length->jY ro h (cs++ds) ns (us++vs)->∃a b,ns=a++b/\jY ro h cs a us/\jY ro h ds b vs
 |[],ds,ns,us,vs,hl,hh=>by have:us= []:=aJV hl;subst this;exact⟨[],ns,rfl,by simp [jY],hh⟩
 |c::cs,ds,ns,us,vs,hl,hh=>by
  simp only [aJv,jY] at hh;obtain⟨n,ns',u,us',rfl,he,h1,h2⟩:=hh
  cases us with
  |nil=>simp at hl
  |cons x us=> simp only [aJv,List.cons.injEq] at he;obtain⟨rfl,rfl⟩:=he;obtain⟨a,b,rfl,h3,h4⟩:=E5 (by simpa using hl) h2;exact⟨n::a,b,rfl,⟨n,a,x,us,rfl,rfl,h1,h3⟩,h4⟩
theorem zA {E:En} {h:Array Obj} {f:Nat->SE}: ∀{pX:List RK} {us fl:List Value} {ns:List Int} {i:Nat},Shape pX us fl->jY E.ro h (vF pX) ns fl->(∀k n,ns[k]?=some n->(f (i+k)).den E.ρ=n)->bP E h (wJ pX f i) us
 |[],us,fl,ns,i,s,_,_=>by cases s; simp [wJ,bP]
 | .one c::rs,us,fl,ns,i,s,hc,hf=>by
   cases s with
   |one _ u s=>
    simp only [vF,RK.flat,aJv,aJo,jY] at hc;obtain⟨n,ns',u',us',rfl,he,h1,h2⟩:=hc;simp only [List.cons.injEq] at he;obtain⟨rfl,rfl⟩:=he;simp only [wJ,bG];refine⟨_,_,rfl,?_,zA s h2 fun k m hk=>?_⟩
    ·rw [Zo];have:=hf 0 n rfl;rw [aJG] at this;rw [this]; exact h1
    ·have:=hf (k+1) m (by simpa using hk);rw [show i+1+k=i+(k+1) by omega];exact this
 | .agg cs::rs,us,fl,ns,i,s,hc,hf=>by
   cases s with
   |agg _ xs hl s=>
    simp only [vF,RK.flat] at hc;obtain⟨a,b,rfl,h1,h2⟩:=E5 hl hc;have hal:=h1.length.1;simp only [wJ,bG,VR];refine⟨_,_,rfl,⟨xs,rfl,QD h1 fun k m hk=>hf k m ?_⟩,zA s h2 fun k m hk=>?_⟩
    ·rw [aLB (aJC.1 hk).1]; exact hk
    ·have:=hf (cs.length+k) m (by rw [aLe (by omega),show cs.length+k-a.length=k by omega]; exact hk);rw [show i+cs.length+k=i+(cs.length+k) by omega];exact this
section
variable {P:Program} {E:En} {w:World}
theorem LX {α:Type} {r:α} {h:Array Obj}: ∀{cs:List CK} {vs:List AV} {s:St} {k:List SE->St->T α} {us:List Value},bM E.ρ s.pc->bP E h vs us->(outs cs vs s k).leaf E.ρ=some r->
 ∃es pc',bM E.ρ pc'/\jY E.ro h cs (es.map (SE.den E.ρ)) us/\(k es { s with pc:=pc' }).leaf E.ρ=some r
 |[],[],s,k,us,hp,hv,hl=>by simp only [outs] at hl;simp only [bP] at hv;exact⟨[],s.pc,hp,by simp [jY,hv],hl⟩
 |[],_::_,s,k,us,hp,hv,hl=>by simp [outs,T.leaf] at hl
 |_::_,[],s,k,us,hp,hv,hl=>by simp [outs,T.leaf] at hl
 |c::cs,v::vs,s,k,us,hp,hv,hl=>by
  rw [bG] at hv;obtain⟨u,us',rfl,h1,h2⟩:=hv;simp only [outs] at hl;split at hl
  ·split at hl
   ·rename_i b;obtain⟨pc1,hp1,hl1⟩:=dB hp hl;obtain⟨es,pc2,hp2,q1,q2⟩:=LX (s:={ s with pc:=pc1 }) hp1 h2 hl1;refine⟨_::es,pc2,hp2,?_,q2⟩;simp only [aJz,jY];refine⟨_,_,u,us',rfl,rfl,?_,q1⟩;simp only [VR] at h1;subst h1;simp only [DK,SE.den];cases b.den E.ρ<;>rfl
   ·simp [T.leaf] at hl
  ·split at hl
   ·rename_i e he;obtain⟨es,pc2,hp2,q1,q2⟩:=LX hp h2 hl;refine⟨_::es,pc2,hp2,?_,q2⟩;simp only [aJz,jY];exact⟨_,_,u,us',rfl,rfl,aqK h1 he,q1⟩
   ·simp [T.leaf] at hl
theorem Fz (ρ:Nat->Int): ∀es:List SE,dec ((iU es).den ρ)=dL ((es.map (SE.den ρ)).map .i)
 |[]=>by simp only [iU,SE.den,aF]; rfl
 |e::es=>by simp only [iU,iG,SE.den,iY.den,aF,qA,Fz ρ es,aJz,dL]
theorem lY (ρ:Nat->Int): ∀es:List SE,(iU es).den ρ=qY (es.map (SE.den ρ))
 |[]=>rfl
 |e::es=>by have:=Fz ρ (e::es);simp only [iU,iG,SE.den,iY.den,aF,qA,Fz ρ es,aJz,qY,dL]
theorem DV {ρ:Nat->Int} {r:SE} {ys:List Int} (h:r.den ρ=qY ys) {i:Nat} {y:Int} (hi:ys[i]?=some y):(uZ r i).den ρ=y:=by simp only [uZ,SE.den,iY.den,h,qY,aF,D.hd,aW,aJF,hi,aJU,aJl,D.n]
def aBz (pX:List RK) (ys:List Int) (ro:Nat->Prop) (h:Array Obj) (u:Value):Prop:= ∃us fl,Shape pX us fl/\jY ro h (vF pX) ys fl/\u=if hh:us.toArray.size=1 then us.toArray[0] else .tuple us.toArray
def axG (P:Program) (GB:(Nat->Prop)->Array Obj->Prop) (g:FuncId) (QM pX:List RK) (f:List Int->Option (List Int)):Prop:=
 ∀xs ys,f xs=some ys->∀(ro:Nat->Prop) (w:World) (vals fl:List Value),(∀b,ro b->b<w.heap.size)->GB ro w.heap->Shape QM vals fl->jY ro w.heap (vF QM) xs fl->
  Calls P g vals.toArray w fun e w'=> ∃u,e= .returned u/\Below w.heap.size w w'/\∃ro':Nat->Prop,(∀b,ro b->ro' b)/\(∀b,ro' b->ro b\/w.heap.size<=b)/\(∀b,ro' b->b<w'.heap.size)/\aBz pX ys ro' w'.heap u
theorem jY.aDE {ro ro':Nat->Prop} {h h':Array Obj}: ∀{cs:List CK} {ns:List Int} {us:List Value},jY ro h cs ns us->SG cs=true->jY ro' h' cs ns us
 |[],ns,us,hh,_=>hh
 |c::cs,ns,us,hh,hs=>by
  obtain⟨n,ns',u,us',rfl,rfl,h1,h2⟩:=hh;simp only [SG] at hs;split at hs
  ·exact⟨n,ns',u,us',rfl,rfl,h1,h2.aDE hs⟩
  ·exact⟨n,ns',u,us',rfl,rfl,h1,h2.aDE hs⟩
  ·simp at hs
theorem arS [Glob] {GB:(Nat->Prop)->Array Obj->Prop} (hgb: ∀ρ ro h,Glob.ok ρ ro h->GB ro h) {F:uT} (hgood: ∀ρ ro h,Glob.ok ρ ro h->Good F ρ) {g:FuncId} {j:Nat} {QM pX:List RK} (hs:axG P GB g QM pX (F j))
 (hrun: ∀(args:Array Value) (w:World),(callFunc g args).run P w= .ok (.enter g args) w):nU P g (arT j QM pX):=by
 intro aJc s E w vals v s' r hv hp hl;unfold arT at hl;split at hl
 ·simp [T.leaf] at hl
 ·rename_i cells hc;obtain⟨fl,sh,hv2⟩:=tC hv hc;obtain⟨cells',h1,pcF,E1,hpF,f,hfr,hl⟩:=zJ rfl r hp hl;have hv3:=hfr _ hv2;have s1:=f.dX;have r1:=f.rel;have hρ:=f.ρ;rw [<- hρ] at hl hpF;obtain⟨es,pc1,hp1,q1,q2⟩:=LX (s:={ s with h:=h1,pc:=pcF }) hpF hv3 hl;obtain⟨pc2,hp2,q3⟩:=dB (s:={ s with h:=h1,pc:=pc1 }) hp1 q2;split at q3
  ·rename_i ht;have hg:=hgood _ _ _ r1.glob;have hg1:=(hg j (es.map (SE.den E1.ρ))).1;have hg2:=(hg j (es.map (SE.den E1.ρ))).2;simp only [SB.den,SE.den,lY,hg1,beq_iff_eq] at ht
   have hsome:(F j (es.map (SE.den E1.ρ))).isSome=true:=by
    cases hh:(F j (es.map (SE.den E1.ρ))).isSome with
    |true=>rfl
    |false=>rw [hh] at ht; simp at ht
   obtain⟨ys,hys⟩:=aKq.1 hsome;have hres:=aH q3;simp only [aJg] at hres;obtain⟨rfl,hs'⟩:=hres;have hrun':=hs _ ys hys E1.ro w vals fl r1.CG (hgb _ _ _ r1.glob) sh q1
   have hval: ∀(E2:En) (h2:Array Obj) (us fl':List Value),E2.ρ=E1.ρ->Shape pX us fl'->jY E2.ro h2 (vF pX) ys fl'->
    VR E2 h2 (match wJ pX (uZ (.ap (2*j+1) (iU es))) 0 with |[v]=>v|vs=> .tuple vs) (if hh:us.toArray.size=1 then us.toArray[0] else .tuple us.toArray):=by
    intro E2 h2 us fl' hE2 sh' c1
    have hvr:bP E2 h2 (wJ pX (uZ (.ap (2*j+1) (iU es))) 0) us:=by refine zA sh' c1 fun k n hk=>?_;rw [aJp];refine DV (ys:=ys) ?_ hk;show E2.ρ _=_;rw [hE2,lY,hg2,hys];rfl
    have:=LP hvr;unfold resV at this;exact this
   cases hsc:SG (vF pX) with
   |true=>
    rw [hsc] at hs';simp only at hs';subst hs';refine⟨rfl,by rw [<- hρ]; exact hp2,?_⟩;unfold vH vG;rw [hrun];refine Calls.mono hrun' fun e w' ⟨u,he,hb,ro',k1,k2,k3,k4⟩=> ⟨u,he,?_⟩;have hkeep:Keeps E w.heap E w'.heap:=⟨rfl,fun _ h=>h,fun _ _=>rfl,fun _ _=>rfl,fun _ h=>h,fun b hbr=>hb.block b (r.CG b hbr)⟩
    have st2:Stp E s.h w E s.h w':=
     ⟨rfl,fun _ h=>h,fun _ _=>rfl,fun _ _=>rfl,fun _ h=>h,fun b hbr=> .inl hbr,aJi _,.inr rfl,fun _ h=> .inl h,hb.os,hb.tape,hb.output,hb.size,fun b hbl _=>hb.block b hbl,fun id o h _=> ⟨id,o,h,rfl⟩⟩
    have r2:bJ E s.h w':=by refine⟨r.fresh,r.res,fun id o h=>?_,r.inj,fun b hbr=>aKb (r.CG b hbr) hb.size,Glob.keep r.glob (fun _ h=>h) hkeep.NZ⟩;obtain⟨g1,g2,g3⟩:=r.live id o h;exact⟨g1,g2.keep hkeep g1 (hb.block _ (jV r h)),g3⟩
    obtain⟨us,fl',sh',c1,rfl⟩:=k4;exact⟨E,st2,r2,hval E w'.heap us fl' hρ.symm sh' (c1.aDE hsc)⟩
   |false=>
    rw [hsc] at hs';simp only at hs';subst hs';refine⟨rfl,by rw [<- hρ]; exact hp2,?_⟩;unfold vH vG;rw [hrun];refine Calls.mono hrun' fun e w' ⟨u,he,hb,ro',k1,k2,k3,k4⟩=> ⟨u,he,?_⟩;have hkeep:Keeps E1 w.heap { E1 with ro:=ro' } w'.heap:=⟨rfl,fun _ h=>h,fun _ _=>rfl,fun _ _=>rfl,k1,fun b hbr=>hb.block b (r1.CG b hbr)⟩
    have st2:Stp E1 h1 w { E1 with ro:=ro' } h1 w':=
     ⟨rfl,fun _ h=>h,fun _ _=>rfl,fun _ _=>rfl,k1,fun b hbr=>(k2 b hbr).imp id .inr,aJi _,.inr rfl,fun _ h=> .inl h,hb.os,hb.tape,hb.output,hb.size,fun b hbl _=>hb.block b hbl,fun id o h _=> ⟨id,o,h,rfl⟩⟩
    have r2:bJ { E1 with ro:=ro' } h1 w':=by
     refine⟨r1.fresh,r1.res,fun id o h=>?_,r1.inj,k3,Glob.keep r1.glob k1 hkeep.NZ⟩;obtain⟨g1,g2,g3⟩:=r1.live id o h;refine⟨g1,g2.keep hkeep g1 (hb.block _ (jV r1 h)),fun hr=>?_⟩;rcases k2 _ hr with hr|hr
     ·exact g3 hr
     ·have hlt:(E1.θ id).1<w.heap.size:=jV r1 h;have hge:w.heap.size<=(E1.θ id).1:=hr;omega
    obtain⟨us,fl',sh',c1,rfl⟩:=k4;exact⟨{ E1 with ro:=ro' },s1.trans st2,r2,hval { E1 with ro:=ro' } w'.heap us fl' rfl sh' c1⟩
  ·simp [T.leaf] at q3
end
structure rV where
 w0:World
 ro:Nat->Prop
 m:Nat
 θ:Nat->Nat×Nat
 κ:Nat->Nat
def rV.fp (B:rV) (b:Nat):Prop:= ∃i,i<B.m/\(B.θ i).1=b
structure Bel (B:rV) (w:World):Prop where
 os:w.os=B.w0.os
 tape:w.tape=B.w0.tape
 output:w.output=B.w0.output
 size:B.w0.heap.size<=w.heap.size
 blk: ∀k,k<B.w0.heap.size->¬B.fp k->w.heap[k]?=B.w0.heap[k]?
structure rU (B:rV) (E:En) (s:St) (a:Act) (w:World):Prop where
 fit:IL E s a w
 ro: ∀b,B.ro b->E.ro b
 J7: ∀b,E.ro b->B.ro b\/B.w0.heap.size<=b\/B.fp b
 bel:Bel B w
 own: ∀id o,s.h.get id=some o->B.w0.heap.size<=(E.θ id).1\/B.fp (E.θ id).1
 inx: ∀i,i<B.m->E.dm i/\E.θ i=B.θ i/\E.κ i=B.κ i
section
variable {P:Program} {B:rV}
theorem rU.step [Glob] {E E':En} {s s':St} {a a':Act} {w w':World} (t:rU B E s a w) (st:Stp E s.h w E' s'.h w') (f':Fit E' s' a' w'):rU B E' s' a' w':=by
 have hown: ∀id o,s'.h.get id=some o->B.w0.heap.size<=(E'.θ id).1\/B.fp (E'.θ id).1:=by
  intro id o ho;rcases aJx (E'.θ id).1 w.heap.size with h|h
  ·obtain⟨EI,o0,h0,he⟩:=st.own id o ho h;rw [<- he];exact t.own EI o0 h0
  ·exact .inl (aJO t.bel.size h)
 refine⟨f'.x,fun b hb=>st.ro b (t.ro b hb),fun b hb=>?_,⟨st.os.trans t.bel.os,st.tape.trans t.bel.tape,st.output.trans t.bel.output,aJO t.bel.size st.size,fun k hk hn=>?_⟩,hown,fun i hi=>?_⟩
 ·rcases st.J7 b hb with h|⟨id,o,h1,h2⟩|h
  ·exact t.J7 b h
  ·rw [<- h2]; exact .inr (t.own id o h1)
  ·exact .inr (.inl (aJO t.bel.size h))
 ·rw [<- t.bel.blk k hk hn];refine st.keep k (aKb hk t.bel.size) fun id o ho he=>?_;rcases t.own id o ho with h|h
  ·omega
  ·rw [he] at h; exact hn h
 ·obtain⟨h1,h2,h3⟩:=t.inx i hi;exact⟨st.dm i h1,by rw [st.θ i h1]; exact h2,by rw [st.κ i h1]; exact h3⟩
theorem rU.then [Glob] {E:En} {s s':St} {a a':Act} {w w':World} (t:rU B E s a w) (h:Then E s a w s' a' w'): ∃E',rU B E' s' a' w'/\E'.ρ=E.ρ/\Glob.ok E'.ρ E'.ro w'.heap:=by obtain⟨_,_,E',st,f'⟩:=h;exact⟨E',t.step st f',st.ρ,f'.rel.glob⟩
theorem rU.pc {E:En} {s:St} {a:Act} {w:World} {pc:List (SB×Bool)} (t:rU B E s a w) (hp:bM E.ρ pc):rU B E { s with pc:=pc } a w:=
 ⟨⟨t.fit.fresh,t.fit.res,t.fit.live,t.fit.inj,t.fit.CG,t.fit.sr,hp⟩,t.ro,t.J7,t.bel,t.own,t.inx⟩
theorem OU {r:Ren}: ∀{m:Nat},OV m r=true->∀i,i<m->i<r.bl.length/\r.id i=i/\r.BN i=0
 |0,_,i,hi=>by omega
 |n+1,h,i,hi=>by
  simp only [OV,aJh] at h;obtain⟨⟨h1,h2⟩,h3⟩:=h;by_cases he:i=n
  ·subst he;split at h1
   ·rename_i j hj;have h1:=aJj h1;subst h1;refine⟨?_,?_,aJj h2⟩
    ·rw [dD] at hj;exact (aJC.1 hj).1
    ·unfold Ren.id; rw [hj]
   ·simp at h1
  ·exact OU h3 i (by omega)
theorem rU.fits [Glob] {E:En} {c:CS} {s:St} {r:Ren} {a:Act} {w:World} (t:rU B E s a w) (hg:Glob.ok E.ρ E.ro w.heap) (h:c.fits prv s r=true) (hid:OV B.m r=true):r.ns.length<=900/\rU B (E.ren r) c.st a w:=by
 obtain⟨hl,f,ho⟩:=H8 abG (t.fit.fit hg) h;refine⟨hl,f.x,t.ro,t.J7,t.bel,fun id o hid=>?_,fun i hi=>?_⟩
 ·obtain⟨o',h'⟩:=ho id o hid;exact t.own _ _ h'
 ·obtain⟨q1,q2,q3⟩:=OU hid i hi;obtain⟨h1,h2,h3⟩:=t.inx i hi;refine⟨⟨q1,by rw [q2]; exact h1⟩,?_,?_⟩
  ·show ((E.θ (r.id i)).1,(E.θ (r.id i)).2+r.BN i)=_;rw [q2,q3,aJG];exact h2
  ·show E.κ (r.id i)-r.BN i=_;rw [q2,q3,aKc];exact h3
theorem rU.low {K:Nat} {E:En} {c:CS} {a:Act} {w:World} {ρ':Nat->Int} (hc:Dq K c=true) (hρ: ∀i,i<K->ρ' i=E.ρ i) (t:rU B E c.st a w):rU B { E with ρ:=ρ' } c.st a w:=
 ⟨t.fit.low hc hρ,t.ro,t.J7,t.bel,t.own,t.inx⟩
def rV.out (B:rV) (ys:List Int) (ro:Nat->Prop):En:={ ρ:=low ys,θ:=B.θ,κ:=B.κ,dm:=fun i=>i<B.m,ro:=ro }
def QE (B:rV) (pX:List RK) (eG:List dW) (ko:Nat) (ys:List Int) (e:Ending) (w':World):Prop:=
 ∃u,e= .returned u/\Bel B w'/\∃ro':Nat->Prop,(∀b,B.ro b->ro' b)/\(∀b,ro' b->B.ro b\/B.w0.heap.size<=b)/\(∀b,ro' b->b<w'.heap.size)/\(∀i,i<B.m->¬ro' (B.θ i).1)/\
  (∀i o,eG[i]?=some o->OR (B.out ys ro') w'.heap i o)/\aBz pX (ys.drop ko) ro' w'.heap u
def ajU (us:List Value):Value:=if h:us.toArray.size=1 then us.toArray[0] else .tuple us.toArray
def QR (B:rV) (wZ:List CS) (ys:List Int) (e:Ending) (w':World):Prop:=
 ∃(us:List Value) (i:Nat) (c:CS) (E':En),e= .returned (ajU us)/\Bel B w'/\wZ[i]?=some c/\ys[0]?=some (i:Int)/\ys.length=c.k+1/\(∀a x,ys[a+1]?=some x->E'.ρ a=x)/\us.length=c.slots.length/\
  IL E' c.st { tmps:=us.toArray,defers:=[] } w'/\(∀b,B.ro b->E'.ro b)/\(∀b,E'.ro b->B.ro b\/B.w0.heap.size<=b)/\(∀i,i<B.m->i<c.objs.length/\E'.dm i/\E'.θ i=B.θ i/\E'.κ i=B.κ i)/\(∀id o,c.st.h.get id=some o->B.m<=id->B.w0.heap.size<=(E'.θ id).1)
def QX (B:rV) (pX:List RK) (eG:List dW) (ko:Nat) (wZ:List CS) (ys:List Int):Ending->World->Prop:=match wZ with
 |[]=>QE B pX eG ko ys
 |c::l=>QR B (c::l) ys
structure adY [Glob] (P:Program) (g:JO) (chk:Nat->List Oper->Bool):Prop where
 tt:eY P g.tt
 call:kU P g.call
 draw:DJ P chk g.draw
theorem zL {chk:Nat->List Oper->Bool} {N:Nat} {body:Code} (h:nN chk N body=true): ∀(p:List Nat) {c:Code} {fr:List FrE},vJ body p=some (c,fr)->nN chk N c=true
 |[],c,fr,hl=>by simp only [vJ,aJf,aJg] at hl;rw [<- hl.1]; exact h
 |d::p,c,fr,hl=>by
  simp only [vJ] at hl;split at hl
  ·rename_i a b fr' hp;have:=zL h p hp;simp only [nN,aJh] at this;split at hl
   ·simp only [aJf,aJg] at hl; rw [<- hl.1]; exact this.1
   ·simp only [aJf,aJg] at hl; rw [<- hl.1]; exact this.2
  ·rename_i id b fr' hp;have:=zL h p hp;simp only [nN] at this;simp only [aJf,aJg] at hl; rw [<- hl.1]; exact this
  ·rename_i v a b fr' hp;have:=zL h p hp;simp only [nN,aJh] at this;split at hl
   ·simp only [aJf,aJg] at hl; rw [<- hl.1]; exact this.1
   ·simp only [aJf,aJg] at hl; rw [<- hl.1]; exact this.2
  ·rename_i b fr' hp;have:=zL h p hp;simp only [nN] at this;simp only [aJf,aJg] at hl; rw [<- hl.1]; exact this
  ·rename_i b fr' hp;have:=zL h p hp;simp only [nN] at this;simp only [aJf,aJg] at hl; rw [<- hl.1]; exact this
  ·simp at hl
theorem D9 {body:Code}: ∀(p:List Nat) {c:Code} {fr:List FrE},vJ body p=some (c,fr)->QY body fr
 |[],c,fr,h=>by simp only [vJ,aJf,aJg] at h;rw [<- h.2]; trivial
 |d::p,c,fr,h=>by
  have h0:=h;simp only [vJ] at h;split at h
  ·rename_i a b fr' hp;have ih:=D9 p hp;split at h
   ·simp only [aJf,aJg] at h;obtain⟨rfl,rfl⟩:=h;refine⟨?_,ih⟩;simp only [vJ,hp]
   ·simp only [aJf,aJg] at h;rw [<- h.2]; exact ih
  ·rename_i id b fr' hp;have ih:=D9 p hp;simp only [aJf,aJg] at h;rw [<- h.2]; exact ih
  ·rename_i v a b fr' hp;have ih:=D9 p hp;split at h
   ·simp only [aJf,aJg] at h; rw [<- h.2]; exact ih
   ·simp only [aJf,aJg] at h; rw [<- h.2]; exact ih
  ·rename_i b fr' hp;have ih:=D9 p hp;simp only [aJf,aJg] at h;rw [<- h.2];exact⟨hp,ih⟩
  ·rename_i b fr' hp;have ih:=D9 p hp;simp only [aJf,aJg] at h;rw [<- h.2]; exact ih
  ·simp at h
def ZE (F:uT) (ρ:Nat->Int) (ys:List Int):Lf->Prop
 | .out es=>es.map (SE.den ρ)=ys
 | .jump j es=>F j (es.map (SE.den ρ))=some ys
def axL [Glob] (P:Program) (body:Code) (N:Nat) (B:rV) (Q:Exit->Act->World->Prop) (F:uT) (ys:List Int) (tabs:Lu):Prop:=
 ∀p l,tabs p=some l->∃b fr,vJ body p=some (.loop b,fr)/\∀j c,(j,c)∈l->∀E a w,rU B E c.st a w->Glob.ok E.ρ E.ro w.heap->(∃xs:List Int,(∀i x,xs[i]?=some x->E.ρ i=x)/\xs.length=c.k/\c.k<=900/\F j xs=some ys)->N<=a.tmps.size->a.defers= []->QV P b (KE P Q fr) a w
theorem sV (g:Tr SE): ∀(n i:Nat),(FT g n i).length=n
 |0,_=>rfl
 |n+1,i=>by simp only [FT];split<;>simp [sV g n (i+1)]
theorem AU (m:Nat) (c:CS) (s:St):(c.mO m s).ns.length=c.k:=by unfold CS.mO;split;exact sV _ _ _
theorem H7: ∀(n i:Nat) (ns:List SE),(KA n i ns).length=ns.length
 |0,_,_=>rfl
 |_+1,_,[]=>rfl
 |n+1,i,_::ns=>by simp only [KA,aJr,H7 n (i+1) ns]
theorem Dh (kV:Nat) (r:Ren):(yE kV r).ns.length=r.ns.length:=by
 unfold yE;split
 ·rfl
 ·exact H7 _ _ _
theorem Va {α:Type} {k:St->T α} {E:En} {a:Act} {w:World} {x:α}: ∀{ts:List (Nat×Nat)} {s:St},(ZY k ts s).leaf E.ρ=some x->rU B E s a w->∃s',rU B E s' a w/\(k s').leaf E.ρ=some x
 |[],s,h,t=> ⟨s,t,h⟩
 |(i,g)::ts,s,h,t=>by
  simp only [ZY] at h;split at h
  ·obtain⟨pc',hp',h1⟩:=dB t.fit.pc h;exact Va h1 (t.pc hp')
  ·exact Va h t
theorem Eb [Glob] {kV:Nat} {F:uT} {ys:List Int} {body:Code} {N:Nat} {Q:Exit->Act->World->Prop} {tabs:Lu} (hj:axL P body N B Q F ys tabs) {p:List Nat} {l0:List (Nat×CS)} (hp:tabs p=some l0) {b:Code} {fr:List FrE} (hl:vJ body p=some (.loop b,fr)) :
 ∀{l:List (Nat×CS)} {s:St} {lf:Lf} {E:En} {a:Act} {w:World},(∀x∈l,x∈l0)->(yC B.m kV s l).leaf E.ρ=some lf->ZE F E.ρ ys lf->rU B E s a w->Glob.ok E.ρ E.ro w.heap->N<=a.tmps.size->a.defers= []->QV P b (KE P Q fr) a w
 |[],s,lf,E,a,w,_,h,_,_,_,_,_=>by simp [yC,T.leaf] at h
 |(j,c)::l,s,lf,E,a,w,hsub,h,hlf,t,hg,hN,hd=>by
  simp only [yC] at h;split at h
  ·exact Eb hj hp hl (fun x hx=>hsub x (by simp [hx])) h hlf t hg hN hd
  ·split at h
   ·rename_i hf;have:=aH h;subst this;simp only [aJh] at hf;obtain⟨hle,t'⟩:=t.fits hg hf.1 hf.2;obtain⟨b',fr',hl',hh⟩:=hj p l0 hp;rw [hl] at hl';simp only [aJf,aJg,Code.loop.injEq] at hl';obtain⟨rfl,rfl⟩:=hl';have hgl:(yE kV (c.mO B.m s)).ns.length=c.k:=by rw [Dh,AU]
    refine hh j c (hsub _ (by simp)) (E.ren (yE kV (c.mO B.m s))) a w t' (Glob.ren hg fun i hi=>Ren.qC hle hi) ⟨(yE kV (c.mO B.m s)).ns.map (SE.den E.ρ),fun i x hi=>?_,by simp [hgl],by rw [<- hgl]; exact hle,hlf⟩ hN hd;rw [aJF,aJA] at hi;obtain⟨e,he,rfl⟩:=hi;show (yE kV (c.mO B.m s)).env E.ρ i=_;unfold Ren.env;rw [dD,he]
   ·exact Eb hj hp hl (fun x hx=>hsub x (by simp [hx])) h hlf t hg hN hd
theorem Ey {α:Type} {k:St->T α} {E:En} {a:Act} {w:World} {x:α}: ∀{ts:List Nat} {s:St},(Dw k ts s).leaf E.ρ=some x->rU B E s a w->∃s',rU B E s' a w/\(k s').leaf E.ρ=some x
 |[],s,h,t=> ⟨s,t,h⟩
 |i::ts,s,h,t=>by
  simp only [Dw] at h;split at h
  ·rename_i c hc;obtain⟨pc',hp',h1⟩:=dB t.fit.pc h;refine Ey h1 ⟨⟨t.fit.fresh,t.fit.res,t.fit.live,t.fit.inj,t.fit.CG,fun j v hj=>?_,hp'⟩,t.ro,t.J7,t.bel,t.own,t.inx⟩;simp only at hj;rw [Tr.get_put] at hj;split at hj
   ·rename_i he;subst he;simp only [aJf] at hj;subst hj;obtain⟨u,h2,h3⟩:=t.fit.sr _ _ hc;refine⟨u,h2,?_⟩;simp only [VR] at h3 ⊢;rw [h3];rfl
   ·exact t.fit.sr j v hj
  ·exact Ey h t
theorem akF (g:JO) (h:Hp):(jT g h).ns.length=g.ko/\(jT g h).bl=List.range g.eG.length/\(jT g h).sh= []:=by unfold jT;split;exact⟨sV _ _ _,rfl,rfl⟩
def rO (K:Nat):List dW->Bool
 |[]=>true
 |o::l=>G7 K o&&rO K l
theorem Am {K:Nat}: ∀{l:List dW},rO K l=true->∀{i:Nat} {o:dW},l[i]?=some o->G7 K o=true
 |[],_,_,_,h=>by simp at h
 |o0::l,hs,i,o,h=>by
  simp only [rO,aJh] at hs
  cases i with
  |zero=>simp at h; rw [<- h]; exact hs.1
  |succ i=>exact Am hs.2 (by simpa using h)
theorem ML {n m kV:Nat} {s:St} {ρ:Nat->Int} {lf:Lf}: ∀{l:List CS} {k:Nat},(Y7 n m kV s l k).leaf ρ=some lf->∃i c,l[i-k]?=some c/\(c.fits prv s (yE kV (c.mO m s))=true/\OV m (yE kV (c.mO m s))=true)/\n=c.slots.length/\lf= .out (.lit (i:Int)::(yE kV (c.mO m s)).ns)/\k<=i
 |[],k,h=>by simp [Y7,T.leaf] at h
 |c::l,k,h=>by
  simp only [Y7] at h;split at h
  ·obtain⟨i,c',q1,q2,q3,q4,q5⟩:=ML h;refine⟨i,c',?_,q2,q3,q4,by omega⟩;rw [show i-k=(i-(k+1))+1 by omega,aJk];exact q1
  ·rename_i hq;simp only [aJh] at hq;split at h
   ·rename_i hf;have:=aH h;simp only [aJh] at hf;exact⟨k,c,by simp,hf,aJj hq.2,this.symm,aJi _⟩
   ·obtain⟨i,c',q1,q2,q3,q4,q5⟩:=ML h;refine⟨i,c',?_,q2,q3,q4,by omega⟩;rw [show i-k=(i-(k+1))+1 by omega,aJk];exact q1
theorem Xt {E E':En} {h h':Array Obj} (kp:Keeps E h E' h'): ∀{xs:List AV} {us:List Value} {i:Nat} {x:AV},bP E h xs us->xs[i]?=some x->∃u,VR E h x u/\∀x',VR E' h' x' u->bP E' h' (xs.set i x') us
 |[],us,i,x,_,hx=>by simp at hx
 |y::ys,us,0,x,hv,hx=>by rw [bG] at hv;obtain⟨u,vs,rfl,a,b⟩:=hv;simp only [aJn,aJf] at hx;subst hx;refine⟨u,a,fun x' hx'=>?_⟩;rw [aLb,bG];exact⟨u,vs,rfl,hx',bP.keep kp _ _ b⟩
 |y::ys,us,i+1,x,hv,hx=>by rw [bG] at hv;obtain⟨u,vs,rfl,a,b⟩:=hv;rw [aJk] at hx;obtain⟨u',h1,h2⟩:=Xt kp b hx;refine⟨u',h1,fun x' hx'=>?_⟩;rw [aLc,bG];exact⟨u,vs,rfl,VR.keep kp _ _ a,h2 x' hx'⟩
theorem ahL [Glob] {α:Type} {ρ:Nat->Int} {w:World} {us:List Value} {k:List AV->St->T α} {x:α}: ∀{fz:List (Nat×Nat×Nat)} {vs:List AV} {s:St} {E:En},E.ρ=ρ->bJ E s.h w->bM ρ s.pc->bP E w.heap vs us->(acF fz vs s k).leaf ρ=some x->
 ∃vs' h' pc' E',bM ρ pc'/\ZI E w s.h E' h'/\bP E' w.heap vs' us/\(k vs' { s with h:=h',pc:=pc' }).leaf ρ=some x
 |[],vs,s,E,hρ,r,hp,hv,h=> ⟨vs,s.h,s.pc,E,hp,ZI.refl r,hv,h⟩
 |(i,f,t)::l,vs,s,E,hρ,r,hp,hv,h=>by
  simp only [acF] at h;split at h
  ·rename_i xs hi;split at h
   ·rename_i y hy;rw [dD] at hi hy;obtain⟨y',h1,pc1,E1,hp1,f1,q1,g1⟩:=ahK hρ r hp h;have kp:=f1.dX.keeps r;obtain⟨u,a,b⟩:=Xt kp hv hi;simp only [VR] at a;obtain⟨ws,rfl,a⟩:=a;obtain⟨u2,a2,b2⟩:=Xt kp a hy;split at g1
    ·rename_i e he;have hc:=qV (q1 _ a2) he
     have hv1:bP E1 w.heap (vs.set i (.agg (xs.set f (.dat e t)))) us:=by refine b _ ?_;simp only [VR];exact⟨ws,rfl,b2 _ (by simp only [VR]; exact hc)⟩
     obtain⟨vs2,h2,pc2,E2,hp2,f2,q2,g2⟩:=ahL (s:={ s with h:=h1,pc:=pc1 }) (f1.ρ.trans hρ) f1.rel hp1 hv1 g1;exact⟨vs2,h2,pc2,E2,hp2,f1.trans f2,q2,g2⟩
    ·simp [T.leaf] at g1
   ·simp [T.leaf] at h
  ·simp [T.leaf] at h
theorem aA2 [Glob] {g:JO} {chk:Nat->List Oper->Bool} (hg:adY P g chk) {fn:Func} (hres:g.res=fn.results.toList) (hm:g.eG.length=B.m) (hlo:rO g.ko g.eG=true) (hko:g.ko<=900) {e:Ex} {s:St} {lf:Lf} {E:En} {a:Act} {w:World} {F:uT} {ys:List Int} (h:(asW g e s).leaf E.ρ=some lf) (hlf:ZE F E.ρ ys lf)
 (t:rU B E s a w) (hgl:Glob.ok E.ρ E.ro w.heap) (hd:a.defers= []):bodyPost P fn (QX B g.pX g.eG g.ko g.wZ ys) (Fj e) a w:=by
 have fit:=t.fit.fit hgl
 have key: ∀{x:T Lf},x=(match oQ g.tt s g.res with
  |none=>T.fail
  |some vs=>match g.wZ with
   |[]=>match cellsOf g.pX vs with
    |none=> .fail
    |some cells=>HY cells s fun cells s=>match Jl (jT g s.h) g.eG.length s.h g.eG 0 with
     |true=>outs (vF g.pX) cells s fun es _=> .ret (.out ((jT g s.h).ns++es))
     |false=> .fail
   |c::l=>acF g.fz vs s fun vs s=>Y7 vs.length g.eG.length g.kV ⟨bI vs 0 .nil,s.h,s.pc⟩ (c::l) 0)->x.leaf E.ρ=some lf->∃v,(results fn a.tmps).run P w= .ok v w/\QX B g.pX g.eG g.ko g.wZ ys (.returned v) w:=by
  intro x hx hl;subst hx;split at hl
  ·simp [T.leaf] at hl
  ·rename_i vs hr;rw [hres] at hr;obtain⟨us,g1,g2⟩:=Ba hg.tt fit hr
   have hrun:(results fn a.tmps).run P w= .ok (ajU us) w:=by
    have hm:(fn.results.mapM (CJ a)).run P w= .ok us.toArray w:=by rw [aLV];rw [map_eq_pure_bind];simp only [Sem.run_bind,g1];rfl
    have hr2:results fn a.tmps=(do let vs <- fn.results.mapM (CJ a); pure (if h:vs.size=1 then vs[0] else .tuple vs)):=rfl;rw [hr2];simp only [Sem.run_bind,hm];rfl
   split at hl
   ·rename_i Lj;split at hl
    ·simp [T.leaf] at hl
    ·rename_i cells hc;rw [Lj];show ∃v,_/\QE B g.pX g.eG g.ko ys (.returned v) w;obtain⟨fl,sh,hv2⟩:=tC g2 hc;obtain⟨cells',h1,pcF,E1,hpF,f,hfr,hl⟩:=zJ rfl fit.rel fit.pc hl;have hv3:=hfr _ hv2;have s1:=f.dX;have r1:=f.rel;split at hl
     ·rename_i hob;have hρ:=f.ρ;rw [<- hρ] at hl hlf hpF;obtain⟨es,pc1,hp1,q1,q2⟩:=LX (s:={ s with h:=h1,pc:=pcF }) hpF hv3 hl;have:=aH q2;subst this;simp only [ZE] at hlf;obtain⟨n1,n2,n3⟩:=akF g h1
      have hdrop:ys.drop g.ko=es.map (SE.den E1.ρ):=by rw [<- hlf,aKz,List.drop_append_of_le_length (by simp [n1])];rw [aJ7 (by simp [n1]),aJo]
      have aIw: ∀i,i<g.ko->low ys i=(jT g h1).env E1.ρ i:=by
       intro i hi;have hlt:i<(jT g h1).ns.length:=by omega
       unfold low Ren.env;rw [dD,aJu hlt,<- hlf,aKB,aKz,aLB (by simpa using hlt),aJF,aJu hlt];rfl
      have aAm: ∀i,i<B.m->E1.dm i/\E1.θ i=B.θ i/\E1.κ i=B.κ i:=by intro i hi;obtain⟨h1,h2,h3⟩:=t.inx i hi;exact⟨s1.dm i h1,by rw [s1.θ i h1]; exact h2,by rw [s1.κ i h1]; exact h3⟩
      have aAn: ∀i,i<g.eG.length->(jT g h1).id i=i:=by intro i hi;unfold Ren.id;rw [n2,dD,aKA hi]
      have YE: ∀i,(jT g h1).BN i=0:=by intro i;unfold Ren.BN;rw [n3];rfl
      have hlive: ∀i,i<B.m->¬E1.ro (B.θ i).1:=by
       intro i hi;have hlt:i<g.eG.length:=by omega
       obtain⟨o',q3,_,_⟩:=mM hob (aJu hlt);rw [aJp,aAn i hlt] at q3;have:=(r1.live i o' q3).2.2;rw [(aAm i hi).2.1] at this;exact this
      refine⟨ajU us,hrun,_,rfl,t.bel,E1.ro,fun b hb=>s1.ro b (t.ro b hb),fun b hb=>?_,r1.CG,hlive,fun i o hi=>?_,us,fl,sh,by rw [hdrop]; exact q1,rfl⟩
      ·have key:B.ro b\/B.w0.heap.size<=b\/B.fp b:=by
        rcases s1.J7 b hb with h|⟨id,o,h1,h2⟩|h
        ·exact t.J7 b h
        ·rw [<- h2]; exact .inr (t.own id o h1)
        ·exact .inr (.inl (aJO t.bel.size h))
       rcases key with h|h|⟨i,hi,he⟩
       ·exact .inl h
       ·exact .inr h
       ·exact absurd hb (by rw [<- he]; exact hlive i hi)
      ·have hil:=(aJC.1 hi).1;obtain⟨o',q3,q4,q5⟩:=mM hob hi;rw [aJp] at q3 q5;have ho:=(r1.live _ o' q3).2.1;have ho2:=OR.ren (E:=E1) (r:=jT g h1) (by omega) (id:=i) (by rw [n2,aLK]; exact q4) q5 ho
       have kp:Keeps (E1.ren (jT g h1)) w.heap { ρ:=(jT g h1).env E1.ρ,θ:=B.θ,κ:=B.κ,dm:=fun i=>i<B.m,ro:=E1.ro } w.heap:=by
        have hd: ∀id,(E1.ren (jT g h1)).dm id->id<g.eG.length:=by intro id hh;have:=hh.1;rw [n2,aLK] at this;exact this
        refine⟨rfl,fun id hh=>by have:=hd id hh; show id<B.m; omega,fun id hh=>?_,fun id hh=>?_,fun _ h=>h,fun _ _=>rfl⟩
        ·have:=hd id hh;show B.θ id=((E1.θ ((jT g h1).id id)).1,(E1.θ ((jT g h1).id id)).2+(jT g h1).BN id);rw [aAn id this,YE,aJG,(aAm id (by omega)).2.1]
        ·have:=hd id hh;show B.κ id=E1.κ ((jT g h1).id id)-(jT g h1).BN id;rw [aAn id this,YE,aKc,(aAm id (by omega)).2.2]
       have aGH:(E1.ren (jT g h1)).dm i:=by refine⟨by rw [n2,aLK]; exact hil,?_⟩;rw [aAn i hil];exact (aAm i (by omega)).1
       have hθi:(E1.ren (jT g h1)).θ i=B.θ i:=(kp.θ i aGH).symm;have ho3:=OR.keep kp aGH rfl ho2;exact OR.low (K:=g.ko) (E:={ ρ:=(jT g h1).env E1.ρ,θ:=B.θ,κ:=B.κ,dm:=fun i=>i<B.m,ro:=E1.ro }) (E':=B.out ys E1.ro) aIw rfl rfl rfl rfl (Am hlo hi) ho3
     ·simp [T.leaf] at hl
   ·rename_i c0 l0 Lj
    have hq:QR B (c0::l0) ys (.returned (ajU us)) w:=by
     obtain⟨vs1,h1,pc1,E1,hp1,f1,g2,hl⟩:=ahL rfl fit.rel fit.pc g2 hl;have hgl:=f1.rel.glob
     have t0:rU B E1 ⟨bI vs1 0 .nil,h1,pc1⟩ { tmps:=us.toArray,defers:=[] } w:=by have sr1:=Hq g2 0;exact t.step (s':=⟨bI vs1 0 .nil,h1,pc1⟩) f1.dX ⟨f1.rel,by simpa using sr1,by rw [f1.ρ]; exact hp1⟩
     rw [<- f1.ρ] at hl hlf;obtain⟨i,c,q1,⟨q2,q2'⟩,q3,q4,_⟩:=ML hl;rw [hm] at q2 q2' q4;obtain⟨hle,t1⟩:=t0.fits hgl q2 q2';rw [q4] at hlf;simp only [ZE,aJz] at hlf;subst hlf
     have hbl:(yE g.kV (c.mO B.m ⟨bI vs1 0 .nil,h1,pc1⟩)).bl.length=c.objs.length:=by have:=q2;unfold CS.fits at this;simp only [aJh] at this;exact aJj this.1.1.1.1.2
     have hin: ∀i,i<B.m->i<c.objs.length:=fun i hi=>by rw [<- hbl]; exact (OU q2' i hi).1
     have hlive: ∀i,i<B.m->∃o,c.st.h.get i=some o:=by intro i hi;have hi2:=hin i hi;refine⟨c.objs[i],?_⟩;show (wI c.objs 0 .nil).get i=_;rw [oD,aJe (by omega)];simp
     have hfp: ∀b,B.fp b->¬(E1.ren (yE g.kV (c.mO B.m ⟨bI vs1 0 .nil,h1,pc1⟩))).ro b:=by rintro b ⟨i,hi,rfl⟩ hb;obtain⟨o,ho⟩:=hlive i hi;have:=(t1.fit.live i o ho).2.2;rw [(t1.inx i hi).2.1] at this;exact this hb
     refine⟨us,i,c,E1.ren (yE g.kV (c.mO B.m ⟨bI vs1 0 .nil,h1,pc1⟩)),rfl,t.bel,by simpa using q1,by simp [SE.den],by simp [Dh,AU],fun a x ha=>?_,by rw [<- q3,g2.length],t1.fit,t1.ro,fun b hb=>?_,fun i hi=> ⟨hin i hi,t1.inx i hi⟩,fun id o ho hid=>?_⟩
     ·simp only [aJk,aJF,aJA] at ha;obtain⟨e,he,rfl⟩:=ha;show (yE g.kV (c.mO B.m ⟨bI vs1 0 .nil,h1,pc1⟩)).env E1.ρ a=_;unfold Ren.env;rw [dD,he]
     ·rcases t1.J7 b hb with h|h|h
      ·exact .inl h
      ·exact .inr h
      ·exact absurd hb (hfp b h)
     ·rcases t1.own id o ho with h|⟨i,hi,he⟩
      ·exact h
      ·obtain⟨o',ho'⟩:=hlive i hi;rw [<- (t1.inx i hi).2.1] at he;have:=t1.fit.inj i id o' o ho' ho he;omega
    exact⟨ajU us,hrun,by rw [Lj]; exact hq⟩
 unfold asW at h
 cases e with
 |exit id=>simp [T.leaf] at h
 |normal=>exact⟨hd,key rfl h⟩
 |ret=>exact⟨hd,key rfl h⟩
theorem Rq {P:Program} {Q:Exit->Act->World->Prop} {e:Ex} {a:Act} {w:World} (h:Q (Fj e) a w):Exit.noGoto Q (Fj e) a w:=by cases e<;>exact h
theorem Wj [Glob] {g:JO} {chk:Nat->List Oper->Bool} (hg:adY P g chk) {body:Code} {N:Nat} (hd:nN chk N body=true) {fn:Func} (hres:g.res=fn.results.toList) (hm:g.eG.length=B.m) (hlo:rO g.ko g.eG=true) (hko:g.ko<=900) {F:uT} {ys:List Int} {tabs:Lu}
 (hj:axL P body N B (bodyPost P fn (QX B g.pX g.eG g.ko g.wZ ys)) F ys tabs): ∀n:Nat,
 (∀p c fr s lf E a w,vJ body p=some (c,fr)->(EJ g tabs n p c fr s).leaf E.ρ=some lf->ZE F E.ρ ys lf->rU B E s a w->Glob.ok E.ρ E.ro w.heap->N<=a.tmps.size->a.defers= []->c.wp P (KE P (bodyPost P fn (QX B g.pX g.eG g.ko g.wZ ys)) fr) a w)/\
 (∀fr e s lf E a w,QY body fr->(AX g tabs n fr e s).leaf E.ρ=some lf->ZE F E.ρ ys lf->rU B E s a w->Glob.ok E.ρ E.ro w.heap->N<=a.tmps.size->a.defers= []->KE P (bodyPost P fn (QX B g.pX g.eG g.ko g.wZ ys)) fr (Fj e) a w)
 |0=> ⟨fun _ _ _ _ _ _ _ _ _ h=>by simp [EJ,T.leaf] at h,fun _ _ _ _ _ _ _ _ h=>by simp [AX,T.leaf] at h⟩
 |n+1=>by
  obtain⟨ih1,ih2⟩:=Wj hg hd hres hm hlo hko hj n
  have leaf: ∀p c fr s lf E a w,vJ body p=some (c,fr)->((g.ev c s).bind fun (e,s')=>AX g tabs n fr e s').leaf E.ρ=some lf->ZE F E.ρ ys lf->rU B E s a w->Glob.ok E.ρ E.ro w.heap->N<=a.tmps.size->a.defers= []->c.wp P (KE P (bodyPost P fn (QX B g.pX g.eG g.ko g.wZ ys)) fr) a w:=by intro p c fr s lf E a w hl h hlf t hgl hN hdf;obtain⟨⟨e,s'⟩,h1,h2⟩:=T.gQ h;refine wp_mono (oU hg.tt hg.call hg.draw c (zL hd p hl) E s s' e a w hN (t.fit.fit hgl) h1) fun x a' w' ⟨hx,ht⟩=>?_;subst hx;obtain⟨E',t',hρ,hg'⟩:=t.then ht;exact ih2 fr e s' lf E' a' w' (D9 p hl) (by rw [hρ]; exact h2) (by rw [hρ]; exact hlf) t' hg' (by rw [ht.size]; exact hN) (by rw [ht.defers,hdf])
  constructor
  ·intro p c fr s lf E a w hl h hlf t hgl hN hdf;simp only [EJ] at h;split at h
   ·rename_i l hcs;obtain⟨b,fr',hl',_⟩:=hj p l hcs;rw [hl] at hl';simp only [aJf,aJg] at hl';obtain⟨rfl,rfl⟩:=hl';obtain⟨s',t',h'⟩:=Ey h t;exact abO (Eb hj hcs hl (fun _ hx=>hx) (by rw [<- hm]; exact h') hlf t' hgl hN hdf)
   ·cases c with
    |seq x y=> simp only at h;refine wp_seq ?_;exact ih1 (0::p) x (.seq (1::p) y::fr) s lf E a w (by simp only [vJ,hl]) h hlf t hgl hN hdf
    |block id b=> simp only at h;refine wp_block ?_;exact ih1 (0::p) b (.block id::fr) s lf E a w (by simp only [vJ,hl]) h hlf t hgl hN hdf
    |scope b=> simp only at h;refine wp_scope_straight ?_;exact ih1 (0::p) b (.scope::fr) s lf E a w (by simp only [vJ,hl]) h hlf t hgl hN hdf
    |cond v x y=>
     simp only at h;split at h
     ·rename_i c hv;obtain⟨pc',hp',h1⟩:=dB t.fit.pc h;have hvr:=kE t.fit.sr hv;simp only [VR] at hvr;refine wp_cond hvr ?_
      cases hcd:c.den E.ρ with
      |true=> rw [hcd] at h1;simp only at h1;exact ih1 (0::p) x fr _ lf E a w (by simp only [vJ,hl]) h1 hlf (t.pc hp') hgl hN hdf
      |false=> rw [hcd] at h1;simp only at h1;exact ih1 (1::p) y fr _ lf E a w (by simp only [vJ,hl]) h1 hlf (t.pc hp') hgl hN hdf
     ·simp [T.leaf] at h
    |_=>simp only at h; exact leaf p _ fr s lf E a w hl h hlf t hgl hN hdf
  ·intro fr e s lf E a w hf h hlf t hgl hN hdf
   cases fr with
   |nil=> simp only [AX] at h;exact aA2 hg hres hm hlo hko h hlf t hgl hdf
   |cons f fr=>
    cases f with
    |seq p c=>
     simp only [AX] at h;obtain⟨hl,hf'⟩:=hf
     cases e with
     |normal=>exact ih1 p c fr s lf E a w hl h hlf t hgl hN hdf
     |exit id=>exact ih2 fr (.exit id) s lf E a w hf' h hlf t hgl hN hdf
     |ret=>exact ih2 fr .ret s lf E a w hf' h hlf t hgl hN hdf
    |block id=>
     simp only [AX] at h;have hf':QY body fr:=hf
     cases e with
     |normal=>exact ih2 fr .normal s lf E a w hf' h hlf t hgl hN hdf
     |ret=>exact ih2 fr .ret s lf E a w hf' h hlf t hgl hN hdf
     |exit j=>
      simp only at h;show (if j=id then _ else _);split at h
      ·rename_i hj';rw [aJe (aJj hj')];exact ih2 fr .normal s lf E a w hf' h hlf t hgl hN hdf
      ·rename_i hj';rw [aJd (aKO hj')];exact ih2 fr (.exit j) s lf E a w hf' h hlf t hgl hN hdf
    |loop p b=>
     simp only [AX] at h;obtain⟨hl,hf'⟩:=hf
     cases e with
     |normal=>
      simp only at h;split at h
      ·rename_i l hcs;obtain⟨s',t',h'⟩:=Ey h t;exact Eb hj hcs hl (fun _ hx=>hx) (by rw [<- hm]; exact h') hlf t' hgl hN hdf
      ·simp [T.leaf] at h
     |exit id=>exact ih2 fr (.exit id) s lf E a w hf' h hlf t hgl hN hdf
     |ret=>exact ih2 fr .ret s lf E a w hf' h hlf t hgl hN hdf
    |scope=> simp only [AX] at h;exact Rq (P:=P) (ih2 fr e s lf E a w hf h hlf t hgl hN hdf)
end
end Go.As
end
section
namespace Go.As
open Go.RowKit
def Ren.ents (r:Ren):List (AV×AV×Nat)->List (AV×AV×Nat)
 |[]=>[]
 |(k,v,n)::l=>(r.av k,r.av v,n)::r.ents l
def Ren.ovs (r:Ren):List (SE×List AV)->List (SE×List AV)
 |[]=>[]
 |(i,cs)::l=>(r.se i,r.Ls cs)::r.ovs l
def Ren.ob (r:Ren):dW->dW
 | .cells cs e=> .cells (r.Ls cs) e
 | .map es n=> .map (r.ents es) n
 | .oW s p=> .oW s p
 | .vec e t ty ov=> .vec (r.se e) t ty (r.ovs ov)
 | .jJ e t=> .jJ (r.se e) t
noncomputable def nZ (r:Ren):List dW->Nat->Hp->Hp
 |[],_,h=>h
 |o::os,i,h=>nZ r os (i+1) (h.put (r.id i) (r.ob o))
def TB (r:Ren):Bool:=r.sh.all fun i=>Nat.beq i 0
def afY (r:SE) (n:Nat):List SE:=(List.range n).map (uZ r)
noncomputable def arR (j:Nat) (c:CS) (pX:List RK) (eG:List dW) (ko:Nat):List AV->St->T (AV×St):=fun args s=>
 match Nat.beq args.length c.slots.length&&c.fits prv ⟨bI args 0 .nil,s.h,s.pc⟩ (c.guess ⟨bI args 0 .nil,s.h,s.pc⟩)&&TB (c.guess ⟨bI args 0 .nil,s.h,s.pc⟩) with
 |true=>qX s (.eq (.ap (2*j) (iU (c.guess ⟨bI args 0 .nil,s.h,s.pc⟩).ns)) (.lit 1)) fun s' b=>match b with
  |true=> .ret (match wJ pX (uZ (.ap (2*j+1) (iU (c.guess ⟨bI args 0 .nil,s.h,s.pc⟩).ns))) ko with |[v]=>v|vs=> .tuple vs,
   { s' with h:=nZ ⟨afY (.ap (2*j+1) (iU (c.guess ⟨bI args 0 .nil,s.h,s.pc⟩).ns)) ko,(c.guess ⟨bI args 0 .nil,s.h,s.pc⟩).bl,[]⟩ eG 0 s'.h })
  |false=> .fail
 |false=> .fail
noncomputable def aGT (s:St) (t c:Nat):SE:=match s.slots.get t with
 |some v=>match v with
  | .int _ e=>e
  | .agg cs=>match iD cs c with
    |some v=>match v with
     | .int _ e=>e
     |_=> .lit 0
    |none=> .lit 0
  |_=> .lit 0
 |none=> .lit 0
noncomputable def asE (s:St):List (Nat×Nat)->List SE->List SE
 |[],ns=>ns
 |_::_,[]=>[]
 |(t,c)::l,_::ns=>aGT s t c::asE s l ns
noncomputable def ghR (s:St) (gh:List (Nat×Nat)) (r:Ren):Ren:={ r with ns:=asE s gh r.ns }
noncomputable def aGS (s:St) (gh:List (Nat×Nat)):Option SE:=match gh with
 |(t,c)::_=>some (aGT s t c)
 |[]=>none
noncomputable def yH (q:SE) (kV:Nat) (ns:List SE) (c:CS) (bl:List Nat) (s:St):Ren:=⟨(List.range c.k).map fun a=>match Nat.blt a kV with |true=>(match iD ns a with |some e=>e|none=> .lit 0)|false=>uZ q (a+1),(List.range c.objs.length).map fun i=>match iD bl i with |some j=>j|none=>s.h.next+(i-bl.length),[]⟩
noncomputable def asD (g n:SE) (s:St) (k:St->T (AV×St)):T (AV×St):=qX s (lQ g (.lit 0)) fun s b=>match b with
 |true=>k s
 |false=>qX s (lQ g n) fun s b=>match b with
  |true=> .fail
  |false=>k s
noncomputable def ghT (q:SE) (kV:Nat) (ns:List SE) (g:Option SE) (c:CS) (bl:List Nat) (s:St) (k:St->T (AV×St)):T (AV×St):=match g with
 |none=>k s
 |some g=>match c.m with
  | .aP _=>k s
  |_=>match c.slots with
   |[]=>k s
   |(_,v)::_=>match v with
    | .vZ _ n _=>asD g ((yH q kV ns c bl s).se n) s k
    |_=>k s
noncomputable def axB (q:SE) (kV:Nat) (ns:List SE) (g:Option SE) (bl:List Nat):List CS->Nat->St->T (AV×St)
 |[],_,_=> .fail
 |c::l,i,s=>qX s (ED (uZ q 0) (.lit (Int.ofNat i))) fun s b=>match b with
  |true=>ghT q kV ns g c bl s fun s=> .ret (resV ((yH q kV ns c bl s).Ls (c.slots.map fun p=>p.2)),
   { s with h:=⟨(nZ (yH q kV ns c bl s) c.objs 0 s.h).m,s.h.next+(c.objs.length-bl.length),s.h.res⟩ })
  |false=>axB q kV ns g bl l (i+1) s
noncomputable def arP (j kV:Nat) (c:CS) (gh:List (Nat×Nat)) (wZ:List CS):List AV->St->T (AV×St):=fun args s=>
 match Nat.beq args.length c.slots.length&&c.fits prv ⟨bI args 0 .nil,s.h,s.pc⟩ (ghR s gh (c.guess ⟨bI args 0 .nil,s.h,s.pc⟩))&&TB (ghR s gh (c.guess ⟨bI args 0 .nil,s.h,s.pc⟩)) with
 |true=>qX s (.eq (.ap (2*j) (iU (ghR s gh (c.guess ⟨bI args 0 .nil,s.h,s.pc⟩)).ns)) (.lit 1)) fun s' b=>match b with
  |true=>axB (.ap (2*j+1) (iU (ghR s gh (c.guess ⟨bI args 0 .nil,s.h,s.pc⟩)).ns)) kV (ghR s gh (c.guess ⟨bI args 0 .nil,s.h,s.pc⟩)).ns (aGS s gh) (ghR s gh (c.guess ⟨bI args 0 .nil,s.h,s.pc⟩)).bl wZ 0 s'
  |false=> .fail
 |false=> .fail
section
variable {Eo E2:En} {r:Ren} {h:Array Obj} (hl:r.ns.length<=900) (hsh:r.sh= []) (hρ:Eo.ρ=r.env E2.ρ) (hid: ∀i,Eo.dm i->E2.dm (r.id i)/\E2.θ (r.id i)=Eo.θ i/\E2.κ (r.id i)=Eo.κ i) (hro:Eo.ro=E2.ro)
include hl hsh hρ hid hro
theorem apF (i:Nat):r.BN i=0:=by unfold Ren.BN; rw [hsh]; rfl
theorem gJ.back {id off len:Nat} {a:Addr} {cap:Nat} {c:ZK} (hd:Eo.dm id) (hc:gJ Eo id off len a cap c):gJ E2 (r.id id) off len a cap c:=by
 obtain⟨_,h2,h3⟩:=hid id hd;cases c<;>simp only [gJ] at*<;>rw [h2]
 ·exact hc
 ·rw [h3]; exact hc
mutual
theorem VR.back: ∀(x:AV) (u:Value),VR Eo h x u->VR E2 h (r.av x) u
 | .bool b,u,hv=>by simp only [VR,Ren.av] at *; rw [Ren.Jd hl,<- hρ]; exact hv
 | .int _ e,u,hv=>by simp only [VR,Ren.av] at *; rw [Ren.eU hl,<- hρ]; exact hv
 | .str s,u,hv=>by simp only [VR,Ren.av] at *; exact hv
 | .ptr id off,u,hv=>by simp only [VR,Ren.av,apF hl hsh hρ hid hro,aJp] at *;obtain⟨h1,h2,_⟩:=hid id hv.2;rw [h2]; exact⟨hv.1,h1⟩
 | .lD,u,hv=>by simp only [VR,Ren.av] at *; exact hv
 | .sG cs,u,hv=>by simp only [VR,Ren.av] at *;obtain⟨b,o,us,h1,h2,h3,h4,h5⟩:=hv;exact⟨b,o,us,h1,by rw [<- hro]; exact h2,bP.back cs us h3,h4,h5⟩
 | .slice id off len c,u,hv=>by simp only [VR,Ren.av,apF hl hsh hρ hid hro,aJp] at *;obtain⟨h1,a,cap,h2,h3,h4⟩:=hv;exact⟨(hid id h1).1,a,cap,h2,h3,gJ.back hl hsh hρ hid hro h1 h4⟩
 | .aA,u,hv=>by simp only [VR,Ren.av] at *; exact hv
 | .ro cs n full,u,hv=>by simp only [VR,Ren.av] at *;obtain⟨b,o,cap,us,h1,h2,h3,h4,h5,h6,h7⟩:=hv;exact⟨b,o,cap,us,h1,h2,h3,by rw [<- hro]; exact h4,bP.back cs us h5,h6,h7⟩
 | .map id,u,hv=>by simp only [VR,Ren.av] at *;obtain⟨h1,h2,_⟩:=hid id hv.2;rw [h2]; exact⟨hv.1,h1⟩
 | .qI,u,hv=>by simp only [VR,Ren.av] at *; exact hv
 | .func fn fs cs,u,hv=>by simp only [VR,Ren.av] at *;obtain⟨us,ws,h1,h2,h3⟩:=hv;exact⟨us,ws,h1,bP.back fs us h2,bP.back cs ws h3⟩
 | .CW,u,hv=>by simp only [VR,Ren.av] at *; exact hv
 | .iface t x,u,hv=>by simp only [VR,Ren.av] at *;obtain⟨y,h1,h2⟩:=hv;exact⟨y,h1,VR.back x y h2⟩
 | .FM,u,hv=>by simp only [VR,Ren.av] at *; exact hv
 | .agg cs,u,hv=>by simp only [VR,Ren.av] at *;obtain⟨us,h1,h2⟩:=hv;exact⟨us,h1,bP.back cs us h2⟩
 | .tuple cs,u,hv=>by simp only [VR,Ren.av] at *;obtain⟨us,h1,h2⟩:=hv;exact⟨us,h1,bP.back cs us h2⟩
 | .opq _,u,hv=>by simp only [VR] at hv
 | .inp k ks,u,hv=>by
   simp only [VR,Ren.av] at *;rw [hρ,Ren.qC hl (by omega),hro] at hv;rcases hv with hv|⟨b,o,n,cap,h1,h2,h3,h4,h5⟩
   ·exact .inl hv
   ·refine .inr ⟨b,o,n,cap,h1,h2,h3,h4,fun i j kd hi hj=>?_⟩;have:=h5 i j kd hi hj
    first
     |exact this
     |(rw [Ren.qC hl (by omega)] at this; exact this)
     |(rw [hρ,Ren.qC hl (by omega)] at this; exact this)
 | .emp,u,hv=>by simp only [VR,Ren.av] at *; exact hv
 | .dat e t,u,hv=>by simp only [VR,Ren.av] at *; rw [Ren.eU hl,<- hρ,<- hro]; exact hv
 | .nJ e,u,hv=>by simp only [VR,Ren.av] at *; rw [Ren.eU hl,<- hρ,<- hro]; exact hv
 | .vZ id n t,u,hv=>by simp only [Ren.av,apF hl hsh hρ hid hro];simp only [VR] at *;obtain⟨h1,k,a,cap,h2,h3,h4,h5⟩:=hv;exact⟨(hid id h1).1,k,a,cap,by rw [Ren.eU hl,<- hρ]; exact h2,h3,h4,gJ.back hl hsh hρ hid hro h1 h5⟩
 | .qZ id es i off,u,hv=>by simp only [Ren.av,apF hl hsh hρ hid hro];simp only [VR] at *;obtain⟨h1,k,h2,h3⟩:=hv;obtain⟨g1,g2,_⟩:=hid id h1;exact⟨g1,k,by rw [Ren.eU hl,<- hρ]; exact h2,by rw [g2]; exact h3⟩
 | .any,u,_=>by simp only [VR,Ren.av]
 | .IW z t,u,hv=>by simp only [VR,Ren.av] at *; rw [Ren.eU hl,<- hρ,<- hro]; exact hv
 | .BL id lo n t,u,hv=>by simp only [Ren.av,apF hl hsh hρ hid hro];simp only [VR] at *;obtain⟨h1,l,k,a,cap,h2,h3,h4,h5,h6⟩:=hv;exact⟨(hid id h1).1,l,k,a,cap,by rw [Ren.eU hl,<- hρ]; exact h2,by rw [Ren.eU hl,<- hρ]; exact h3,h4,h5,gJ.back hl hsh hρ hid hro h1 h6⟩
theorem bP.back: ∀(xs:List AV) (us:List Value),bP Eo h xs us->bP E2 h (r.Ls xs) us
 |[],us,hv=>by simp only [bP,Ren.Ls] at *; exact hv
 |x::xs,us,hv=>by simp only [bP,Ren.Ls] at *;obtain⟨u,vs,h1,h2,h3⟩:=hv;exact⟨u,vs,h1,VR.back x u h2,bP.back xs vs h3⟩
end
theorem fF.back: ∀{es:List (AV×AV×Nat)} {ents:List MapEntry},fF Eo h es ents->fF E2 h (r.ents es) ents
 |[],_,hv=>by simp only [fF,Ren.ents] at *; exact hv
 |(k,v,b)::es,ents,hv=>by simp only [fF,Ren.ents] at *;obtain⟨e,rr,h1,h2,h3,h4,h5⟩:=hv;exact⟨e,rr,h1,VR.back hl hsh hρ hid hro k _ h2,VR.back hl hsh hρ hid hro v _ h3,h4,fF.back h5⟩
theorem Oo {i:Nat}: ∀{ov:List (SE×List AV)},dR E2.ρ i (r.ovs ov)=(dR Eo.ρ i ov).map r.Ls
 |[]=>rfl
 |(j,cs)::l=>by simp only [dR,Ren.ovs];rw [Ren.eU hl,<- hρ,Oo];split<;>rfl
theorem EY {row:Row} {ov:List (SE×List AV)}: ∀(ds:List D) (i:Nat) {us:List Value},bP Eo h (aO Eo.ρ row ov ds i) us->bP E2 h (aO E2.ρ row (r.ovs ov) ds i) us
 |[],_,us,hv=>by simp only [aO,bP] at *; exact hv
 |d::ds,i,us,hv=>by
  simp only [aO] at *;obtain⟨a,b,rfl,h1,h2⟩:=hv.split;refine bP.append ?_ (EY ds (i+1) h2);rw [Oo hl hsh hρ hid hro]
  cases ho:dR Eo.ρ i ov with
  |none=> rw [ho] at h1;simp only [Option.map_none];rw [iI] at h1 ⊢;rw [<- hro];exact h1
  |some cs=> rw [ho] at h1;exact bP.back hl hsh hρ hid hro cs a h1
theorem Tt {row:Row}: ∀{ov:List (SE×List AV)},GY row ov->GY row (r.ovs ov)
 |[],h=>h
 |(i,cs)::l,h=>by
  intro p hp;simp only [Ren.ovs] at hp;rcases aJq.1 hp with rfl|hp
  ·simp only [wS]; exact h (i,cs) (by simp)
  ·exact Tt (fun q hq=>h q (by simp [hq])) p hp
theorem OR.back {id:Nat} {o:dW} (hd:Eo.dm id) (ho:OR Eo h id o):OR E2 h (r.id id) (r.ob o):=by
 obtain⟨_,h2,h3⟩:=hid id hd
 cases o with
 |cells cs e=> simp only [OR,Ren.ob] at *;obtain⟨arr,lo,hi,us,q1,q2,q3,q4,q5,q6,q7⟩:=ho;rw [h2,h3];exact⟨arr,lo,hi,us,q1,bP.back hl hsh hρ hid hro cs us q2,q3,by rw [wS]; exact q4,q5,q6,q7⟩
 |map es c=> simp only [OR,Ren.ob] at *;obtain⟨ents,c',q1,q2⟩:=ho;rw [h2];exact⟨ents,c',q1,fF.back hl hsh hρ hid hro q2⟩
 |oW s p=>simp only [OR,Ren.ob] at *; rw [h2]; exact ho
 |jJ e t=>
  simp only [OR,Ren.ob] at *;obtain⟨ents,c',q1,q2⟩:=ho;have he:(r.se e).den E2.ρ=e.den Eo.ρ:=by rw [Ren.eU hl,<- hρ]
  rw [h2,he,<- hro];exact⟨ents,c',q1,q2⟩
 |vec e t ty ov=>
  simp only [OR,Ren.ob] at *;obtain⟨⟨q0,qw⟩,arr,lo,hi,us,q1,q2,q3,q4,q5,q6,q7⟩:=ho;have he:(r.se e).den E2.ρ=e.den Eo.ρ:=by rw [Ren.eU hl,<- hρ]
  have q0':=Tt hl hsh hρ hid hro q0;rw [h2,h3,he];refine⟨⟨q0',qw⟩,arr,lo,hi,us,q1,EY hl hsh hρ hid hro _ _ q2,q3,?_,q5,q6,q7⟩;rw [bY q0'];rw [bY q0] at q4;exact q4
end
theorem FH {r:Ren}: ∀{os:List dW} {i:Nat} {h:Hp},(∀a b,i<=a->a<i+os.length->i<=b->b<i+os.length->r.id a=r.id b->a=b)->
 (∀k o,os[k]?=some o->(nZ r os i h).get (r.id (i+k))=some (r.ob o))/\(∀id,(∀k,k<os.length->r.id (i+k)≠id)->(nZ r os i h).get id=h.get id)/\(nZ r os i h).next=h.next/\(nZ r os i h).res=h.res
 |[],i,h,_=> ⟨fun k o hk=>by simp at hk,fun _ _=>rfl,rfl,rfl⟩
 |o::os,i,h,hinj=>by
  obtain⟨h1,h2,h3,h4⟩:=FH (r:=r) (os:=os) (i:=i+1) (h:=h.put (r.id i) (r.ob o)) fun a b h1 h2 h3 h4=>hinj a b (by omega) (by simp only [aJr]; omega) (by omega) (by simp only [aJr]; omega);refine⟨fun k x hk=>?_,fun id hn=>?_,h3,h4⟩
  ·cases k with
   |zero=> simp at hk;subst hk;simp only [nZ];show (nZ r os (i+1) (h.put (r.id i) (r.ob o))).get (r.id i)=some (r.ob o);rw [h2 (r.id i) fun k hk he=>?_,Hp.get_put,aJe rfl];have:=hinj (i+1+k) i (by omega) (by simp only [aJr]; omega) (by omega) (by simp) he;omega
   |succ k=> simp only [nZ];have:=h1 k x (by simpa using hk);rw [show i+(k+1)=i+1+k by omega];exact this
  ·simp only [nZ];rw [h2 id fun k hk=>?_,Hp.get_put,aJd ?_]
   ·have:=hn 0 (by simp);rw [aJG] at this;exact fun q=>this q.symm
   ·have:=hn (k+1) (by simp only [aJr]; omega);rw [show i+(k+1)=i+1+k by omega] at this;exact this
theorem EU (c:CS) (s:St):(c.guess s).ns.length=c.k:=by unfold CS.guess;split;exact sV _ _ _
section
variable {P:Program}
def aDe (P:Program) (GB:(Nat->Prop)->Array Obj->Prop) (g:FuncId) (c:CS) (pX:List RK) (eG:List dW) (ko:Nat) (f:List Int->Option (List Int)):Prop:=
 ∀xs ys,f xs=some ys->∀(E:En) (w:World) (vals:List Value),(∀i x,xs[i]?=some x->E.ρ i=x)->xs.length=c.k->IL E c.st { tmps:=vals.toArray,defers:=[] } w->GB E.ro w.heap->
  Calls P g vals.toArray w (QE ⟨w,E.ro,c.objs.length,E.θ,E.κ⟩ pX eG ko ys)
theorem arQ [Glob] {GB:(Nat->Prop)->Array Obj->Prop} (hgb: ∀ρ ro h,Glob.ok ρ ro h->GB ro h) {F:uT} (hgood: ∀ρ ro h,Glob.ok ρ ro h->Good F ρ) {g:FuncId} {j:Nat} {c:CS} {pX:List RK} {eG:List dW} {ko:Nat} (hlo:rO ko eG=true) (hko:ko<=900) (hom:eG.length=c.objs.length)
 (hs:aDe P GB g c pX eG ko (F j)) (hrun: ∀(args:Array Value) (w:World),(callFunc g args).run P w= .ok (.enter g args) w):nU P g (arR j c pX eG ko):=by
 intro aJc s E w vals v s' r hv hp hl;unfold arR at hl;split at hl
 ·rename_i hcond;simp only [aJh] at hcond;obtain⟨⟨_,hfit⟩,hns⟩:=hcond;have hlen:=EU c ⟨bI aJc 0 .nil,s.h,s.pc⟩;generalize hr:c.guess ⟨bI aJc 0 .nil,s.h,s.pc⟩ = rn at hl hfit hns hlen
  have f0:Fit E ⟨bI aJc 0 .nil,s.h,s.pc⟩ { tmps:=vals.toArray,defers:=[] } w:=by refine⟨r,?_,hp⟩;have:=Hq hv 0;simpa using this
  obtain⟨hle,f1,ho⟩:=H8 abG f0 hfit;obtain⟨pc1,hp1,q1⟩:=dB hp hl;split at q1
  ·rename_i ht;have hg:=hgood _ _ _ r.glob;have hg1:=(hg j (rn.ns.map (SE.den E.ρ))).1;have hg2:=(hg j (rn.ns.map (SE.den E.ρ))).2;simp only [SB.den,SE.den,lY,hg1,beq_iff_eq] at ht
   have hsome:(F j (rn.ns.map (SE.den E.ρ))).isSome=true:=by
    cases hh:(F j (rn.ns.map (SE.den E.ρ))).isSome with
    |true=>rfl
    |false=>rw [hh] at ht; simp at ht
   obtain⟨ys,hys⟩:=aKq.1 hsome
   have hrd:(SE.ap (2*j+1) (iU rn.ns)).den E.ρ=qY ys:=by show E.ρ _=_;rw [lY,hg2,hys];rfl
   have:=aH q1;simp only [aJg] at this;obtain⟨rfl,rfl⟩:=this;refine⟨rfl,hp1,?_⟩;unfold vH vG;rw [hrun]
   have hxs: ∀i x,(rn.ns.map (SE.den E.ρ))[i]?=some x->(E.ren rn).ρ i=x:=by intro i x hi;rw [aJF,aJA] at hi;obtain⟨e,he,rfl⟩:=hi;show rn.env E.ρ i=_;unfold Ren.env;rw [dD,he]
   refine Calls.mono (hs _ ys hys (E.ren rn) w vals hxs (by simpa using hlen) f1.x (hgb _ _ _ f1.rel.glob)) fun e w' ⟨u,he,hb,ro',k1,k2,k3,k4,k5,k6⟩=> ⟨u,he,?_⟩;have AA:=hfit;unfold CS.fits at AA;simp only [aJh] at AA;obtain⟨⟨⟨⟨⟨_,hbl⟩,hdis⟩,_⟩,aEd⟩,_⟩:=AA;have hbl:=aJj hbl
   have YE: ∀i,rn.BN i=0:=by
    intro i;unfold Ren.BN;split
    ·rename_i x hx;rw [dD] at hx;unfold TB at hns;rw [aJD] at hns;exact aJj (hns x (aJL hx))
    ·rfl
   have Ll: ∀i,i<c.objs.length->∃o,s.h.get (rn.id i)=some o:=by intro i hi;obtain⟨o',g1,_⟩:=mM aEd (aJu hi);rw [aJp] at g1;exact⟨o',g1⟩
   have hinj: ∀a b,a<c.objs.length->b<c.objs.length->rn.id a=rn.id b->a=b:=by
    intro a b ha hb he;have hla:a<rn.bl.length:=by omega
    have hlb:b<rn.bl.length:=by omega
    unfold Ren.id at he;rw [dD,dD,aJu hla,aJu hlb] at he;simp only at he;exact vN hdis (i:=a) (j:=b) (x:=rn.bl[a]) (by rw [dD,aJu hla]) (by rw [dD,aJu hlb,he])
   generalize hR:(⟨afY (.ap (2*j+1) (iU rn.ns)) ko,rn.bl,[]⟩ : Ren)=R;have Wh: ∀i,R.id i=rn.id i:=by intro i; rw [<- hR]; rfl
   have hRl:R.ns.length=ko:=by rw [<- hR]; simp [afY]
   obtain⟨p1,p2,p3,p4⟩:=FH (r:=R) (os:=eG) (i:=0) (h:=s.h) fun a b _ h2 _ h4 he=>by rw [Wh,Wh] at he;exact hinj a b (by omega) (by omega) he
   have hfp: ∀b,(rV.mk w (E.ren rn).ro c.objs.length (E.ren rn).θ (E.ren rn).κ).fp b->∃id o,s.h.get id=some o/\(E.θ id).1=b:=by rintro b ⟨i,hi,he⟩;obtain⟨o,h1⟩:=Ll i hi;exact⟨_,o,h1,he⟩
   have aAk: ∀b,E.ro b->w'.heap[b]?=w.heap[b]?:=by intro b hbr;refine hb.blk b (r.CG b hbr) fun hf=>?_;obtain⟨id,o,h1,h2⟩:=hfp b hf;exact (r.live id o h1).2.2 (by rw [h2]; exact hbr)
   have hkeep:Keeps E w.heap { E with ro:=ro' } w'.heap:=⟨rfl,fun _ h=>h,fun _ _=>rfl,fun _ _=>rfl,k1,aAk⟩
   have acA: ∀id o,(nZ R eG 0 s.h).get id=some o->∃o',s.h.get id=some o':=by
    intro id o hg;by_cases hex: ∃k,k<eG.length/\R.id (0+k)=id
    ·obtain⟨k,hk,rfl⟩:=hex;rw [aJp,Wh];exact Ll k (by omega)
    ·rw [p2 id fun k hk he=>hex ⟨k,hk,he⟩] at hg;exact⟨o,hg⟩
   have st2:Stp E s.h w { E with ro:=ro' } (nZ R eG 0 s.h) w':=by
    refine⟨rfl,fun _ h=>h,fun _ _=>rfl,fun _ _=>rfl,k1,fun b hbr=>(k2 b hbr).imp id .inr,by rw [p3]; exact aJi _,by rw [p4]; exact .inr rfl,fun _ h=> .inl h,hb.os,hb.tape,hb.output,hb.size,fun b hbl hn=>hb.blk b hbl fun hf=>?_,fun id o hg _=>?_⟩
    ·obtain⟨id,o,h1,h2⟩:=hfp b hf;exact hn id o h1 h2
    ·obtain⟨o',h1⟩:=acA id o hg;exact⟨id,o',h1,rfl⟩
   have ahG: ∀i,i<ko->R.env E.ρ i=low ys i:=by
    intro i hi;unfold Ren.env low
    have hn:iD R.ns i=some (uZ (.ap (2*j+1) (iU rn.ns)) i):=by rw [<- hR,dD];simp [afY,hi]
    rw [hn];simp only;rw [aKB];simp only [uZ,SE.den,iY.den,aF];have aGE:(SE.ap (2*j+1) (iU rn.ns)).den E.ρ=qY ys:=hrd;simp only [SE.den] at aGE;rw [aGE];simp only [qY,aF,D.hd,aW,aJF];cases ys[i]?<;>rfl
   have r2:bJ { E with ro:=ro' } (nZ R eG 0 s.h) w':=by
    refine⟨fun id hid=>r.fresh id (by rw [<- p3]; exact hid),fun q hq=>by rw [p3]; exact r.res q (by rw [<- p4]; exact hq),fun id o hg=>?_,fun i1 i2 o1 o2 h1 h2 he=>?_,k3,Glob.keep r.glob k1 aAk⟩
    ·by_cases hex: ∃k,k<eG.length/\R.id (0+k)=id
     ·obtain⟨k,hk,rfl⟩:=hex;rw [aJp];have hx:=aJu hk;have:=p1 k _ hx;rw [hg] at this;simp only [aJf] at this;subst this;obtain⟨o',h1⟩:=Ll k (by omega);obtain⟨d1,d2,d3⟩:=r.live _ _ h1;refine⟨by rw [Wh]; exact d1,?_,?_⟩
      ·have ho2:=k5 k _ hx
       have ho3:=OR.low (K:=ko) (E:=(rV.mk w (E.ren rn).ro c.objs.length (E.ren rn).θ (E.ren rn).κ).out ys ro') (E':={ ρ:=R.env E.ρ,θ:=(E.ren rn).θ,κ:=(E.ren rn).κ,dm:=fun i=>i<c.objs.length,ro:=ro' })
        (fun i hi=>ahG i hi) rfl rfl rfl rfl (Am hlo hx) ho2
       refine OR.back (Eo:={ ρ:=R.env E.ρ,θ:=(E.ren rn).θ,κ:=(E.ren rn).κ,dm:=fun i=>i<c.objs.length,ro:=ro' }) (E2:={ E with ro:=ro' }) (r:=R) (by rw [hRl]; exact hko) (by rw [<- hR]) rfl (fun i hi=>?_) rfl (show k<c.objs.length by omega) ho3;obtain⟨o2,h2⟩:=Ll i hi;refine⟨by rw [Wh]; exact (r.live _ _ h2).1,?_,?_⟩
       ·show E.θ (R.id i)=((E.θ (rn.id i)).1,(E.θ (rn.id i)).2+rn.BN i);rw [Wh,YE,aJG]
       ·show E.κ (R.id i)=E.κ (rn.id i)-rn.BN i;rw [Wh,YE,aKc]
      ·rw [Wh];exact k4 k (by show k<c.objs.length; omega)
     ·rw [p2 id fun k hk he=>hex ⟨k,hk,he⟩] at hg;obtain⟨d1,d2,d3⟩:=r.live id o hg
      have hblk:w'.heap[(E.θ id).1]?=w.heap[(E.θ id).1]?:=by refine hb.blk _ (jV r hg) ?_;rintro⟨i,hi,he⟩;obtain⟨o',h1⟩:=Ll i hi;have:=r.inj _ id o' o h1 hg he;exact hex ⟨i,by show i<eG.length; rw [hom]; exact hi,by rw [aJp,Wh]; exact this⟩
      refine⟨d1,d2.keep hkeep d1 hblk,fun hr=>?_⟩;rcases k2 _ hr with hr|hr
      ·exact d3 hr
      ·have hlt:(E.θ id).1<w.heap.size:=jV r hg;have hge:w.heap.size<=(E.θ id).1:=hr;omega
    ·obtain⟨a1,b1⟩:=acA _ _ h1;obtain⟨a2,b2⟩:=acA _ _ h2;exact r.inj _ _ _ _ b1 b2 he
   refine⟨{ E with ro:=ro' },st2,r2,?_⟩;obtain⟨us,fl',sh',c1,rfl⟩:=k6
   have hvr:bP { E with ro:=ro' } w'.heap (wJ pX (uZ (.ap (2*j+1) (iU rn.ns))) ko) us:=by refine zA sh' c1 fun k n hk=>?_;rw [aKv] at hk;exact DV (ys:=ys) hrd hk
   have:=LP hvr;unfold resV at this;exact this
  ·simp [T.leaf] at q1
 ·simp [T.leaf] at hl
theorem Kz (s:St): ∀(gh:List (Nat×Nat)) (ns:List SE),(asE s gh ns).length=ns.length
 |[],_=>rfl
 |_::_,[]=>rfl
 |(t,c)::l,_::ns=>by simp only [asE,aJr,Kz s l ns]
theorem asC {g n:SE} {ρ:Nat->Int} {s:St} {k:St->T (AV×St)} {r:AV×St} (hp:bM ρ s.pc) (h:(asD g n s k).leaf ρ=some r): ∃pc,bM ρ pc/\(k { s with pc:=pc }).leaf ρ=some r:=by
 unfold asD at h;obtain⟨pc1,hp1,h1⟩:=dB hp h;split at h1
 ·exact⟨pc1,hp1,h1⟩
 ·obtain⟨pc2,hp2,h2⟩:=dB (s:={ s with pc:=pc1 }) hp1 h1;split at h2
  ·simp [T.leaf] at h2
  ·exact⟨pc2,hp2,h2⟩
theorem aEk {q:SE} {kV:Nat} {ns:List SE} {g:Option SE} {c:CS} {bl:List Nat} {ρ:Nat->Int} {s:St} {k:St->T (AV×St)} {r:AV×St} (hp:bM ρ s.pc) (h:(ghT q kV ns g c bl s k).leaf ρ=some r): ∃pc,bM ρ pc/\(k { s with pc:=pc }).leaf ρ=some r:=by
 unfold ghT at h;split at h
 ·exact⟨s.pc,hp,h⟩
 ·split at h
  ·exact⟨s.pc,hp,h⟩
  ·split at h
   ·exact⟨s.pc,hp,h⟩
   ·split at h
    ·exact asC hp h
    ·exact⟨s.pc,hp,h⟩
theorem aiX {q:SE} {kV:Nat} {ns:List SE} {g:Option SE} {bl:List Nat} {ρ:Nat->Int} {v:AV} {s':St}: ∀{l:List CS} {k:Nat} {s:St},bM ρ s.pc->(axB q kV ns g bl l k s).leaf ρ=some (v,s')->
 ∃i c pc',l[i-k]?=some c/\k<=i/\(uZ q 0).den ρ=(i:Int)/\bM ρ pc'/\v=resV ((yH q kV ns c bl s).Ls (c.slots.map fun p=>p.2))/\s'= { s with h:=⟨(nZ (yH q kV ns c bl s) c.objs 0 s.h).m,s.h.next+(c.objs.length-bl.length),s.h.res⟩,pc:=pc' }
 |[],k,s,_,h=>by simp [axB,T.leaf] at h
 |c::l,k,s,hp,h=>by
  simp only [axB] at h;obtain⟨pc',hp',h1⟩:=dB hp h;split at h1
  ·rename_i hb;rw [mZ,beq_iff_eq] at hb;obtain⟨pc2,hp2,h2⟩:=aEk (s:={ s with pc:=pc' }) hp' h1;have:=aH h2;simp only [aJg] at this;exact⟨k,c,pc2,by simp,aJi _,hb,hp2,this.1.symm,this.2.symm⟩
  ·obtain⟨i,c',pc2,q1,q2,q3,q4,q5,q6⟩:=aiX (s:={ s with pc:=pc' }) hp' h1;refine⟨i,c',pc2,?_,by omega,q3,q4,q5,q6⟩;rw [show i-k=(i-(k+1))+1 by omega,aJk];exact q1
def FU:List (Nat×AV)->Nat->Bool
 |[],_=>true
 |(t,_)::l,i=>Nat.beq t i&&FU l (i+1)
theorem JZ: ∀{l:List (Nat×AV)} {i t:Nat} {tr:Tr AV},FU l i=true->t<i->(sS l tr).get t=tr.get t
 |[],_,_,_,_,_=>rfl
 |(j,v)::l,i,t,tr,h,ht=>by simp only [FU,aJh] at h;have hj:=aJj h.1;simp only [sS];rw [JZ h.2 (by omega),Tr.get_put,aJd (by omega)]
theorem GH: ∀{l:List (Nat×AV)} {i:Nat} {tr:Tr AV},FU l i=true->∀k v,(l.map fun p=>p.2)[k]?=some v->(sS l tr).get (i+k)=some v
 |[],_,_,_,k,v,hk=>by simp at hk
 |(j,x)::l,i,tr,h,k,v,hk=>by
  simp only [FU,aJh] at h;have hj:=aJj h.1;subst hj;simp only [sS]
  cases k with
  |zero=> simp only [aJz,aJn,aJf] at hk;subst hk;rw [aJG,JZ h.2 (by omega),Tr.get_put,aJe rfl]
  |succ k=> have:=GH (tr:=tr.put j (some x)) h.2 k v (by simpa using hk);rw [show j+(k+1)=j+1+k by omega];exact this
theorem bP.of {E:En} {h:Array Obj}: ∀{vs:List AV} {us:List Value},us.length=vs.length->(∀(k:Nat) (v:AV),vs[k]?=some v->∃u,us[k]?=some u/\VR E h v u)->bP E h vs us
 |[],us,hl,_=>by rw [lJ]; exact aJV hl
 |v::vs,[],hl,_=>by simp at hl
 |v::vs,u::us,hl,hh=>by
  rw [bG];refine⟨u,us,rfl,?_,bP.of (by simpa using hl) fun k x hk=>?_⟩
  ·obtain⟨y,h1,h2⟩:=hh 0 v rfl;simp at h1;subst h1;exact h2
  ·exact hh (k+1) x (by simpa using hk)
def aDd (P:Program) (GB:(Nat->Prop)->Array Obj->Prop) (g:FuncId) (c:CS) (wZ:List CS) (f:List Int->Option (List Int)):Prop:=
 ∀xs ys,f xs=some ys->∀(E:En) (w:World) (vals:List Value),(∀i x,xs[i]?=some x->E.ρ i=x)->xs.length=c.k->IL E c.st { tmps:=vals.toArray,defers:=[] } w->GB E.ro w.heap->
  Calls P g vals.toArray w (QR ⟨w,E.ro,c.objs.length,E.θ,E.κ⟩ wZ ys)
def SS:List CS->Bool
 |[]=>true
 |c::l=>Dq c.k c&&FU c.slots 0&&Nat.ble c.k 900&&SS l
theorem SQ: ∀{l:List CS},SS l=true->∀{i:Nat} {c:CS},l[i]?=some c->Dq c.k c=true/\FU c.slots 0=true/\c.k<=900
 |[],_,i,c,h=>by simp at h
 |c0::l,hs,i,c,h=>by
  simp only [SS,aJh] at hs
  cases i with
  |zero=>simp at h; subst h; exact⟨hs.1.1.1,hs.1.1.2,aJ9 hs.1.2⟩
  |succ i=>exact SQ hs.2 (by simpa using h)
theorem arO [Glob] {GB:(Nat->Prop)->Array Obj->Prop} (hgb: ∀ρ ro h,Glob.ok ρ ro h->GB ro h) {F:uT} (hgood: ∀ρ ro h,Glob.ok ρ ro h->Good F ρ) {g:FuncId} {j:Nat} {c:CS} {gh:List (Nat×Nat)} {kV:Nat} {wZ:List CS} (hrp:SS wZ=true) (hgat: ∀xs ys,F j xs=some ys->∀a y,a<kV->ys[a+1]?=some y->y=low xs a)
 (hs:aDd P GB g c wZ (F j)) (hrun: ∀(args:Array Value) (w:World),(callFunc g args).run P w= .ok (.enter g args) w):nU P g (arP j kV c gh wZ):=by
 intro aJc s E w vals v s' r hv hp hl;unfold arP at hl;split at hl
 ·rename_i hcond;simp only [aJh] at hcond;obtain⟨⟨_,hfit⟩,hns⟩:=hcond;have hlen:=EU c ⟨bI aJc 0 .nil,s.h,s.pc⟩
  have hlen2:(ghR s gh (c.guess ⟨bI aJc 0 .nil,s.h,s.pc⟩)).ns.length=c.k:=by show (asE s gh _).length=c.k;rw [Kz,hlen]
  generalize hr:ghR s gh (c.guess ⟨bI aJc 0 .nil,s.h,s.pc⟩)=rn at hl hfit hlen2 hns
  have f0:Fit E ⟨bI aJc 0 .nil,s.h,s.pc⟩ { tmps:=vals.toArray,defers:=[] } w:=by refine⟨r,?_,hp⟩;have:=Hq hv 0;simpa using this
  obtain⟨hle,f1,ho⟩:=H8 abG f0 hfit;obtain⟨pc1,hp1,q1⟩:=dB hp hl;split at q1
  ·rename_i ht;have hg:=hgood _ _ _ r.glob;have hg1:=(hg j (rn.ns.map (SE.den E.ρ))).1;have hg2:=(hg j (rn.ns.map (SE.den E.ρ))).2;simp only [SB.den,SE.den,lY,hg1,beq_iff_eq] at ht
   have hsome:(F j (rn.ns.map (SE.den E.ρ))).isSome=true:=by
    cases hh:(F j (rn.ns.map (SE.den E.ρ))).isSome with
    |true=>rfl
    |false=>rw [hh] at ht; simp at ht
   obtain⟨ys,hys⟩:=aKq.1 hsome
   have hrd:(SE.ap (2*j+1) (iU rn.ns)).den E.ρ=qY ys:=by show E.ρ _=_;rw [lY,hg2,hys];rfl
   obtain⟨i,c',pc2,a1,_,a3,a4,rfl,rfl⟩:=aiX (s:={ s with pc:=pc1 }) hp1 q1;rw [aKc] at a1;refine⟨rfl,a4,?_⟩;unfold vH vG;rw [hrun]
   have hxs: ∀i x,(rn.ns.map (SE.den E.ρ))[i]?=some x->(E.ren rn).ρ i=x:=by intro i x hi;rw [aJF,aJA] at hi;obtain⟨e,he,rfl⟩:=hi;show rn.env E.ρ i=_;unfold Ren.env;rw [dD,he]
   refine Calls.mono (hs _ ys hys (E.ren rn) w vals hxs (by simpa using hlen2) f1.x (hgb _ _ _ f1.rel.glob)) fun e w' ⟨us,i2,c2,E',he,hb,b1,b2,b3,b4,b5,b6,b7,b8,aBp,b9⟩=> ⟨ajU us,he,?_⟩
   have hi:i2=i:=by have:=DV hrd b2;rw [a3] at this;omega
   subst hi;rw [b1] at a1;simp only [aJf] at a1;subst a1;obtain⟨k1,k2,k3⟩:=SQ hrp b1;have AA:=hfit;unfold CS.fits at AA;simp only [aJh] at AA;obtain⟨⟨⟨⟨⟨_,hbl⟩,hdis⟩,_⟩,aEd⟩,_⟩:=AA;have hbl:=aJj hbl
   have YE: ∀i,rn.BN i=0:=by
    intro i;unfold Ren.BN;split
    ·rename_i x hx;rw [dD] at hx;unfold TB at hns;rw [aJD] at hns;exact aJj (hns x (aJL hx))
    ·rfl
   have Ll: ∀i,i<c.objs.length->∃o,s.h.get (rn.id i)=some o:=by intro i hi;obtain⟨o',g1,_⟩:=mM aEd (aJu hi);rw [aJp] at g1;exact⟨o',g1⟩
   have hinj: ∀a b,a<c.objs.length->b<c.objs.length->rn.id a=rn.id b->a=b:=by
    intro a b ha hb he;have hla:a<rn.bl.length:=by omega
    have hlb:b<rn.bl.length:=by omega
    unfold Ren.id at he;rw [dD,dD,aJu hla,aJu hlb] at he;simp only at he;exact vN hdis (i:=a) (j:=b) (x:=rn.bl[a]) (by rw [dD,aJu hla]) (by rw [dD,aJu hlb,he])
   have OZ: ∀id,E.dm id->id<s.h.next:=by
    intro id hd;rcases aJx id s.h.next with h|h
    ·exact h
    ·exact absurd hd (r.fresh id h)
   have YI: ∀i,i<c.objs.length->rn.id i<s.h.next:=by intro i hi;obtain⟨o,h1⟩:=Ll i hi;exact OZ _ (r.live _ _ h1).1
   have hθr: ∀i,(E.ren rn).θ i=E.θ (rn.id i):=by intro i;show ((E.θ (rn.id i)).1,(E.θ (rn.id i)).2+rn.BN i)=_;rw [YE,aJG]
   have hκr: ∀i,(E.ren rn).κ i=E.κ (rn.id i):=by intro i;show E.κ (rn.id i)-rn.BN i=_;rw [YE,aKc]
   have hm2:c.objs.length<=c2.objs.length:=by
    rcases aKy c.objs.length with h|h
    ·omega
    ·have:=(aBp (c.objs.length-1) (by show c.objs.length-1<c.objs.length; omega)).1;omega
   have hfp: ∀b,(rV.mk w (E.ren rn).ro c.objs.length (E.ren rn).θ (E.ren rn).κ).fp b->∃id o,s.h.get id=some o/\(E.θ id).1=b:=by rintro b ⟨i,hi,he⟩;obtain⟨o,h1⟩:=Ll i hi;refine⟨_,o,h1,?_⟩;have he':((E.ren rn).θ i).1=b:=he;rw [hθr] at he';exact he'
   have aAk: ∀b,E.ro b->w'.heap[b]?=w.heap[b]?:=by intro b hbr;refine hb.blk b (r.CG b hbr) fun hf=>?_;obtain⟨id,o,h1,h2⟩:=hfp b hf;exact (r.live id o h1).2.2 (by rw [h2]; exact hbr)
   generalize hR:yH (.ap (2*j+1) (iU rn.ns)) kV rn.ns c2 rn.bl { s with pc:=pc1 }=R
   have Rw: ∀i,i<c.objs.length->R.id i=rn.id i:=by
    intro i hi;have hla:i<rn.bl.length:=by omega
    rw [<- hR];unfold yH Ren.id;simp only [dD,aJF,aKA (show i<c2.objs.length by omega),aJU,aJu hla]
   have acC: ∀i,i<c2.objs.length->c.objs.length<=i->R.id i=s.h.next+(i-c.objs.length):=by
    intro i hi hge;have hla:rn.bl.length<=i:=by omega
    rw [<- hR];unfold yH Ren.id;simp only [dD,aJF,aKA hi,aJU,aJ6 hla];rw [hbl]
   have aGN: ∀a b,a<c2.objs.length->b<c2.objs.length->R.id a=R.id b->a=b:=by
    intro a b ha hb he;rcases aJx a c.objs.length with h1|h1<;>rcases aJx b c.objs.length with h2|h2
    ·rw [Rw a h1,Rw b h2] at he;exact hinj a b h1 h2 he
    ·rw [Rw a h1,acC b hb h2] at he;have:=YI a h1;omega
    ·rw [acC a ha h1,Rw b h2] at he;have:=YI b h2;omega
    ·rw [acC a ha h1,acC b hb h2] at he;omega
   have hRl:R.ns.length=c2.k:=by rw [<- hR]; simp [yH]
   have aGM:R.sh= []:=by rw [<- hR]; rfl
   have ahG: ∀a,a<c2.k->R.env E.ρ a=E'.ρ a:=by
    intro a ha;unfold Ren.env
    have hn:iD R.ns a=some (match Nat.blt a kV with |true=>(match iD rn.ns a with |some e=>e|none=> .lit 0)|false=>uZ (.ap (2*j+1) (iU rn.ns)) (a+1)):=by rw [<- hR,dD];simp [yH,ha]
    rw [hn];simp only;have hy:ys[a+1]?=some ys[a+1]:=aJu (by omega);rw [b4 a _ hy];split
    ·rename_i hb;have hlt:a<kV:=aLL (by simpa [Nat.blt] using hb);rw [hgat _ _ hys a _ hlt hy];unfold low;rw [aKB,aJF,dD];cases rn.ns[a]?<;>rfl
    ·exact DV hrd hy
   have aIv: ∀id o,c2.st.h.get id=some o->id<c2.objs.length/\c2.objs[id]?=some o:=by
    intro id o ho;have:(wI c2.objs 0 .nil).get id=some o:=ho;rw [oD] at this;split at this
    ·exact⟨by omega,this⟩
    ·simp [Tr.get] at this
   have OY: ∀id o,c2.objs[id]?=some o->c2.st.h.get id=some o:=by intro id o ho;show (wI c2.objs 0 .nil).get id=_;have hlt:=(aJC.1 ho).1;rw [oD,aJe (by omega)];exact ho
   have aGG: ∀i,E'.dm i->i<c2.objs.length:=by
    intro i hd;rcases aJx i c2.objs.length with h|h
    ·exact h
    ·exact absurd hd (b6.fresh i h)
   obtain⟨p1,p2,p3,p4⟩:=FH (r:=R) (os:=c2.objs) (i:=0) (h:=s.h) fun a b _ h2 _ h4 he=>aGN a b (by omega) (by omega) he;generalize hH2:(⟨(nZ R c2.objs 0 s.h).m,s.h.next+(c2.objs.length-rn.bl.length),s.h.res⟩ : Hp)=H2;have aGP: ∀id,H2.get id=(nZ R c2.objs 0 s.h).get id:=by intro id; rw [<- hH2]; rfl
   have aAp:H2.next=s.h.next+(c2.objs.length-c.objs.length):=by rw [<- hH2,hbl]
   have aGO:H2.res=s.h.res:=by rw [<- hH2]
   have hnew: ∀k o,c2.objs[k]?=some o->H2.get (R.id k)=some (R.ob o):=by intro k o hk;have:=p1 k o hk;rw [aJp] at this;rw [aGP]; exact this
   have hold: ∀id,(∀k,k<c2.objs.length->R.id k≠id)->H2.get id=s.h.get id:=by intro id hid;rw [aGP];exact p2 id fun k hk he=>by rw [aJp] at he; exact hid k hk he
   have hcase: ∀id o,H2.get id=some o->(∃k o',id=R.id k/\c2.objs[k]?=some o'/\o=R.ob o')\/(s.h.get id=some o/\∀k,k<c2.objs.length->R.id k≠id):=by
    intro id o hg;by_cases hex: ∃k,k<c2.objs.length/\R.id k=id
    ·obtain⟨k,hk,rfl⟩:=hex;have hx:=aJu hk;have:=hnew k _ hx;rw [hg] at this;simp only [aJf] at this;exact .inl ⟨k,_,rfl,hx,this⟩
    ·have hne: ∀k,k<c2.objs.length->R.id k≠id:=fun k hk he=>hex ⟨k,hk,he⟩;rw [hold id hne] at hg;exact .inr ⟨hg,hne⟩
   let E2:En:={ ρ:=E.ρ,θ:=fun id=>if id<s.h.next then E.θ id else E'.θ (id-s.h.next+c.objs.length),κ:=fun id=>if id<s.h.next then E.κ id else E'.κ (id-s.h.next+c.objs.length),dm:=fun id=>E.dm id\/(s.h.next<=id/\id<s.h.next+(c2.objs.length-c.objs.length)),ro:=E'.ro };have hθo: ∀id,id<s.h.next->E2.θ id=E.θ id:=fun id h=>by show (if id<s.h.next then _ else _)=_; rw [aJe h]
   have hκo: ∀id,id<s.h.next->E2.κ id=E.κ id:=fun id h=>by show (if id<s.h.next then _ else _)=_; rw [aJe h]
   have hθn: ∀k,k<c2.objs.length->E2.θ (R.id k)=E'.θ k:=by
    intro k hk;rcases aJx k c.objs.length with h|h
    ·rw [Rw k h,hθo _ (YI k h),<- hθr,(aBp k h).2.2.1]
    ·rw [acC k hk h];show (if s.h.next+(k-c.objs.length)<s.h.next then _ else _)=_;rw [aJd (by omega),aLY,Nat.sub_add_cancel h]
   have hκn: ∀k,k<c2.objs.length->E2.κ (R.id k)=E'.κ k:=by
    intro k hk;rcases aJx k c.objs.length with h|h
    ·rw [Rw k h,hκo _ (YI k h),<- hκr,(aBp k h).2.2.2]
    ·rw [acC k hk h];show (if s.h.next+(k-c.objs.length)<s.h.next then _ else _)=_;rw [aJd (by omega),aLY,Nat.sub_add_cancel h]
   have aGI: ∀k,k<c2.objs.length->E2.dm (R.id k):=by
    intro k hk;rcases aJx k c.objs.length with h|h
    ·obtain⟨o,h1⟩:=Ll k h;rw [Rw k h];exact .inl (r.live _ _ h1).1
    ·rw [acC k hk h];exact .inr ⟨by omega,by omega⟩
   have hkeep:Keeps E w.heap E2 w'.heap:=⟨rfl,fun _ h=> .inl h,fun id h=>hθo id (OZ id h),fun id h=>hκo id (OZ id h),b7,aAk⟩
   have arX: ∀i,E'.dm i->E2.dm (R.id i)/\E2.θ (R.id i)=E'.θ i/\E2.κ (R.id i)=E'.κ i:=by intro i hd;have hi:=aGG i hd;exact⟨aGI i hi,hθn i hi,hκn i hi⟩
   unfold Dq at k1;simp only [aJh] at k1;obtain⟨⟨ks,ko⟩,_⟩:=k1
   have st2:Stp E s.h w E2 H2 w':=by
    refine⟨rfl,fun _ h=> .inl h,fun id h=>hθo id (OZ id h),fun id h=>hκo id (OZ id h),b7,fun b hbr=>(b8 b hbr).imp id .inr,by rw [aAp]; omega,by rw [aGO]; exact .inr rfl,fun id h=>?_,hb.os,hb.tape,hb.output,hb.size,fun b aEg hn=>hb.blk b aEg fun hf=>?_,fun id o hg hlt=>?_⟩
    ·rcases h with h|h
     ·exact .inl h
     ·exact .inr (.inl ⟨h.1,by rw [aAp]; exact h.2⟩)
    ·obtain⟨id,o,h1,h2⟩:=hfp b hf;exact hn id o h1 h2
    ·rcases hcase id o hg with ⟨k,o',rfl,hk,_⟩|⟨h1,_⟩
     ·have hkl:=(aJC.1 hk).1;rcases aJx k c.objs.length with h|h
      ·obtain⟨o2,h2⟩:=Ll k h;exact⟨_,o2,h2,by rw [Rw k h,hθo _ (YI k h)]⟩
      ·rw [hθn k hkl] at hlt;have hh:w.heap.size<=(E'.θ k).1:=b9 k o' (OY k o' hk) h;omega
     ·exact⟨id,o,h1,(by rw [hθo id (OZ id (r.live _ _ h1).1)])⟩
   have r2:bJ E2 H2 w':=by
    refine⟨fun id hid=>?_,fun q hq=>?_,fun id o hg=>?_,fun i1 i2 o1 o2 h1 h2 he=>?_,b6.CG,Glob.keep r.glob b7 hkeep.NZ⟩
    ·rw [aAp] at hid;rintro (h|h)
     ·exact r.fresh id (by omega) h
     ·omega
    ·rw [aGO] at hq;obtain⟨g1,g2⟩:=r.res q hq;refine⟨by rw [aAp]; omega,?_⟩;rintro (h|h)
     ·exact g2 h
     ·omega
    ·rcases hcase id o hg with ⟨k,o',rfl,hk,rfl⟩|⟨h2,hne⟩
     ·have hkl:=(aJC.1 hk).1;obtain⟨g1,g2,g3⟩:=b6.live k o' (OY k o' hk);refine⟨aGI k hkl,?_,by rw [hθn k hkl]; exact g3⟩;have ho3:=OR.low (K:=c2.k) (E:=E') (E':={ E' with ρ:=R.env E.ρ }) (fun a ha=>ahG a ha) rfl rfl rfl rfl (CV ko hk) g2;exact OR.back (Eo:={ E' with ρ:=R.env E.ρ }) (E2:=E2) (r:=R) (by rw [hRl]; exact k3) aGM rfl (fun i hd=>arX i hd) rfl (id:=k) g1 ho3
     ·obtain⟨g1,g2,g3⟩:=r.live id o h2;have h1:=OZ id g1;refine⟨.inl g1,g2.keep hkeep g1 (hb.blk _ (jV r h2) ?_),?_⟩
      ·rintro⟨i,hi,he⟩;obtain⟨o',h3⟩:=Ll i hi;have he':((E.ren rn).θ i).1=(E.θ id).1:=he;rw [hθr] at he';have:=r.inj _ id o' o h3 h2 he';have hi':i<c.objs.length:=hi;exact hne i (by omega) (by rw [Rw i hi']; exact this)
      ·rw [hθo id h1];intro hr;rcases b8 _ hr with hr|hr
       ·exact g3 hr
       ·have hlt:(E.θ id).1<w.heap.size:=jV r h2;have hge:w.heap.size<=(E.θ id).1:=hr;omega
    ·have mix: ∀(k:Nat) (o':dW) (id:Nat) (o:dW),c2.objs[k]?=some o'->s.h.get id=some o->(∀k,k<c2.objs.length->R.id k≠id)->(E'.θ k).1=(E.θ id).1->False:=by
      intro k o' id o hk h2 hne he;have hkl:=(aJC.1 hk).1;rcases aJx k c.objs.length with h|h
      ·obtain⟨o3,h3⟩:=Ll k h;have hb3:E'.θ k=(E.ren rn).θ k:=(aBp k h).2.2.1;rw [hb3,hθr] at he;have:=r.inj _ id o3 o h3 h2 he;exact hne k hkl (by rw [Rw k h]; exact this)
      ·have h3:=jV r h2;have h4:w.heap.size<=(E'.θ k).1:=b9 k o' (OY k o' hk) h;omega
     rcases hcase i1 o1 h1 with ⟨m1,y1,rfl,z1,_⟩|⟨x2,x3⟩
     ·have hm1:=(aJC.1 z1).1;rcases hcase i2 o2 h2 with ⟨m2,y2,rfl,z2,_⟩|⟨x4,x5⟩
      ·have hm2:=(aJC.1 z2).1;rw [hθn m1 hm1,hθn m2 hm2] at he;have:=b6.inj _ _ _ _ (OY m1 y1 z1) (OY m2 y2 z2) he;rw [this]
      ·rw [hθn m1 hm1,hθo _ (OZ _ (r.live _ _ x4).1)] at he;exact (mix m1 y1 i2 o2 z1 x4 x5 he).elim
     ·rcases hcase i2 o2 h2 with ⟨m2,y2,rfl,z2,_⟩|⟨x4,x5⟩
      ·have hm2:=(aJC.1 z2).1;rw [hθn m2 hm2,hθo _ (OZ _ (r.live _ _ x2).1)] at he;exact (mix m2 y2 i1 o1 z2 x2 x3 he.symm).elim
      ·rw [hθo _ (OZ _ (r.live _ _ x2).1),hθo _ (OZ _ (r.live _ _ x4).1)] at he;exact r.inj _ _ _ _ x2 x4 he
   refine⟨E2,st2,r2,?_⟩
   have hvs:bP E' w'.heap (c2.slots.map fun p=>p.2) us:=by refine bP.of (by rw [b5]; simp) fun k x hk=>?_;have:=GH (tr:=.nil) k2 k x hk;rw [aJp] at this;obtain⟨u,h1,h2⟩:=b6.sr k x this;exact⟨u,by simpa using h1,h2⟩
   have aGF:qM c2.k (c2.slots.map fun p=>p.2)=true:=by
    have: ∀{l:List (Nat×AV)},yP c2.k l=true->qM c2.k (l.map fun p=>p.2)=true:=by
     intro l
     induction l with
     |nil=>intro _; rfl
     |cons p l ih=> intro h;simp only [yP,aJh] at h;simp only [aJz,qM,aJh];exact⟨h.1,ih h.2⟩
    exact this ks
   have aIm:=bP.low (K:=c2.k) (E:=E') (E':={ E' with ρ:=R.env E.ρ }) (fun a ha=>ahG a ha) rfl rfl rfl rfl _ _ aGF hvs;have aIl:=bP.back (Eo:={ E' with ρ:=R.env E.ρ }) (E2:=E2) (r:=R) (by rw [hRl]; exact k3) aGM rfl (fun i hd=>arX i hd) rfl _ _ aIm;exact LP aIl
  ·simp [T.leaf] at q1
 ·simp [T.leaf] at hl
end
end Go.As
end
section
namespace Go.As
open Go.RowKit
structure ZH where
 ok:(Nat->Prop)->Array Obj->Prop
 keep: ∀{ro ro':Nat->Prop} {h h':Array Obj},ok ro h->(∀b,ro b->ro' b)->(∀b,ro b->h'[b]?=h[b]?)->ok ro' h'
@[reducible] def ZH.glob (G:ZH) (F:uT):Glob where
 ok ρ ro h:=G.ok ro h/\Good F ρ
 keep h1 h2 h3:=⟨G.keep h1.1 h2 h3,h1.2⟩
 ren h1 h2:=⟨h1.1,h1.2.ren h2⟩
structure IY where
 g:Nat
 QM:List RK
 pX:List RK
 tabs:Lu
 pos:Option (List Nat×CS)
 pat:Option (CS×List dW×Nat):=none
 wZ:List CS:=[]
 gh:List (Nat×Nat):=[]
 wh:List Nat:=[]
 kV:Nat:=0
 tst:List (Nat×Nat):=[]
 fz:List (Nat×Nat×Nat):=[]
def IY.eG (e:IY):List dW:=match e.pat with
 |none=>[]
 |some (_,o,_)=>o
def IY.ko (e:IY):Nat:=match e.pat with
 |none=>0
 |some (_,_,k)=>k
structure Sys where
 P:Program
 G:ZH
 tt:TT
 ft:Nat->Option Func
 chk:Nat->Nat->List Oper->Bool
 draw:dS->Nat->Nat->List Oper->St->T St
 ET:Nat->Option (List AV->St->T (AV×St))
 lf:Nat
 depth:Nat
 nums:Nat->List Nat
 ents:Nat->Option IY
noncomputable section
def azO (c:CS) (args:List AV) (s:St):Bool:=match quick (bI args 0 .nil) c.slots with
 |false=>false
 |true=>Nat.beq args.length c.slots.length&&c.fits prv ⟨bI args 0 .nil,s.h,s.pc⟩ (c.guess ⟨bI args 0 .nil,s.h,s.pc⟩)&&TB (c.guess ⟨bI args 0 .nil,s.h,s.pc⟩)
def unset (s:St):List Nat->Bool
 |[]=>true
 |t::l=>match s.slots.get t with
  |some _=>false
  |none=>unset s l
def aGQ (s:St):List (Nat×Nat)->Bool
 |[]=>true
 |(t,_)::l=>match s.slots.get t with
  |some _=>aGQ s l
  |none=>false
def aqA (c:CS) (gh:List (Nat×Nat)) (wh:List Nat) (args:List AV) (s:St):Bool:=match quick (bI args 0 .nil) c.slots with
 |false=>false
 |true=>unset s wh&&aGQ s gh&&Nat.beq args.length c.slots.length&&c.fits prv ⟨bI args 0 .nil,s.h,s.pc⟩ (ghR s gh (c.guess ⟨bI args 0 .nil,s.h,s.pc⟩))&&TB (ghR s gh (c.guess ⟨bI args 0 .nil,s.h,s.pc⟩))
def Sys.OW (S:Sys):List Nat->List AV->St->T (AV×St)
 |[],_,_=> .fail
 |j::l,args,s=>match S.ents j with
  |none=> .fail
  |some e=>match e.pat with
   |none=>arT j e.QM e.pX args s
   |some (c,eG,ko)=>match e.wZ with
    |[]=>match azO c args s with
     |true=>arR j c e.pX eG ko args s
     |false=>S.OW l args s
    |r::rs=>match aqA c e.gh e.wh args s with
     |true=>arP j e.kV c e.gh (r::rs) args s
     |false=>S.OW l args s
def Sys.hook (S:Sys) (g:Nat):Option (List AV->St->T (AV×St)):=match S.nums g with
 |[]=>S.ET g
 |j::l=>some (match S.ET g with
  |none=>S.OW (j::l)
  |some h=>orElse h (S.OW (j::l)))
def Sys.call (S:Sys):dS:=WH S.tt S.ft S.hook S.draw S.lf S.depth
def Sys.cfg (S:Sys) (e:IY) (fn:Func):JO:=⟨S.tt,S.call,S.draw S.call e.g,S.lf,fn.results.toList,e.pX,e.eG,e.ko,e.wZ,e.kV,e.fz⟩
def sZ (S:Sys) (e:IY):T Lf:=match S.ft e.g with
 |none=> .fail
 |some fn=>match fn.body with
  |none=> .fail
  |some body=>match e.pos with
   |none=>match e.pat with
    |none=>EJ (S.cfg e fn) e.tabs 1000 [] body [] ⟨bI (wJ e.QM .aP 0) 0 .nil,Hp.zero,[]⟩
    |some (c,_,_)=>EJ (S.cfg e fn) e.tabs 1000 [] body [] c.st
   |some (p,c)=>match vJ body p with
    |some (b,fr)=>match b with
     | .loop b=>ZY (fun s=>EJ (S.cfg e fn) e.tabs 1000 (0::p) b (.loop p b::fr) s) e.tst c.st
     |_=> .fail
    |none=> .fail
def Sys.tree (S:Sys) (j:Nat):T Lf:=match S.ents j with
 |none=> .fail
 |some e=>sZ S e
end
def ayD (S:Sys) (e:IY) (body:Code):Prop:= ∀p l,e.tabs p=some l->(∃b fr,vJ body p=some (.loop b,fr))/\∀j c,(j,c)∈l->S.ents j=some { e with pos:=some (p,c) }/\Dq c.k c=true/\c.k<=900/\e.kV<=c.k
structure QO (S:Sys):Prop where
 tt:eY S.P S.tt
 ft:amA S.P S.chk S.ft
 draw: ∀(I:Glob) call,@kU I S.P call->∀g,@DJ I S.P (S.chk g) (S.draw call g)
 ET: ∀(I:Glob),(∀ρ ro h,I.ok ρ ro h->S.G.ok ro h)->∀g h,S.ET g=some h->@nU I S.P g h
 run: ∀g j,j∈S.nums g->∀(args:Array Value) (w:World),(callFunc g args).run S.P w= .ok (.enter g args) w
 num: ∀g j e,j∈S.nums g->S.ents j=some e->e.g=g/\e.pos=none/\(match e.pat with
  |none=>(vF e.QM).length<=900/\e.wZ= []
  |some (c,eG,_)=>Dq c.k c=true/\c.k<=900/\eG.length=c.objs.length/\(e.wZ≠[]->SS e.wZ=true))
 outs: ∀j e,S.ents j=some e->rO e.ko e.eG=true/\e.ko<=900/\e.kV<=900
 ents: ∀j e,S.ents j=some e->∀fn body,S.ft e.g=some fn->fn.body=some body->ayD S e body
section
variable {S:Sys}
def aDf (S:Sys) (n:Nat):Prop:= ∀g j e,j∈S.nums g->S.ents j=some e->match e.pat with
 |none=>axG S.P S.G.ok g e.QM e.pX (fD S.tree n j)
 |some (c,eG,ko)=>match e.wZ with
  |[]=>aDe S.P S.G.ok g c e.pX eG ko (fD S.tree n j)
  |r::rs=>aDd S.P S.G.ok g c (r::rs) (fD S.tree n j)
def LoopN (S:Sys) (n:Nat):Prop:= ∀j e p c,S.ents j=some e->e.pos=some (p,c)->Dq c.k c=true->c.k<=900->∀fn body b fr,S.ft e.g=some fn->fn.body=some body->vJ body p=some (.loop b,fr)->
 ∀(B:rV) (E:En) (a:Act) (w:World) (xs ys:List Int),e.eG.length=B.m->fD S.tree n j xs=some ys->(∀i x,xs[i]?=some x->E.ρ i=x)->xs.length=c.k->rU B E c.st a w->S.G.ok E.ro w.heap->fn.ntmps<=a.tmps.size->a.defers= []->
  QV S.P b (KE S.P (bodyPost S.P fn (QX B e.pX e.eG e.ko e.wZ ys)) fr) a w
def LfG (kV:Nat) (tabs:Lu):Lf->Prop
 | .out es=> ∀a e,a<kV->es[a+1]?=some e->e= .aP a
 | .jump j es=>(∃p l c,tabs p=some l/\(j,c)∈l/\es.length=c.k)/\∀a e,a<kV->es[a]?=some e->e= .aP a
theorem Uj: ∀{n i:Nat} {ns:List SE} {a:Nat} {e:SE},a<n->(KA n i ns)[a]?=some e->e= .aP (i+a)
 |0,_,_,a,_,h,_=>by omega
 |n+1,i,[],a,e,_,h=>by simp [KA] at h
 |n+1,i,x::ns,0,e,_,h=>by simp [KA] at h; rw [<- h]; rfl
 |n+1,i,x::ns,a+1,e,ha,h=>by simp only [KA,aJk] at h;rw [Uj (n:=n) (by omega) h];congr 1; omega
theorem YO {kV:Nat} {r:Ren} {a:Nat} {e:SE} (ha:a<kV) (h:(yE kV r).ns[a]?=some e):e= .aP a:=by
 unfold yE at h;split at h
 ·omega
 ·have:=Uj ha h;rw [this,aJp]
theorem asU {n m kV:Nat} {s:St} {ρ:Nat->Int} {lf:Lf} {tabs:Lu} {l:List CS} {k:Nat} (h:(Y7 n m kV s l k).leaf ρ=some lf):LfG kV tabs lf:=by obtain⟨i,c,_,_,_,rfl,_⟩:=ML h;intro a e ha he;rw [aJk] at he;exact YO ha he
theorem Aq {m kV:Nat} {s:St} {ρ:Nat->Int} {lf:Lf} {tabs:Lu} {p:List Nat} {l0:List (Nat×CS)} (hp:tabs p=some l0): ∀{l:List (Nat×CS)},(∀x∈l,x∈l0)->(yC m kV s l).leaf ρ=some lf->LfG kV tabs lf
 |[],_,h=>by simp [yC,T.leaf] at h
 |(j,c)::l,hsub,h=>by
  simp only [yC] at h;split at h
  ·exact Aq hp (fun x hx=>hsub x (by simp [hx])) h
  ·split at h
   ·have:=aH h;subst this;exact⟨⟨p,l0,c,hp,hsub _ (by simp),by rw [Dh,AU]⟩,fun a e ha he=>YO ha he⟩
   ·exact Aq hp (fun x hx=>hsub x (by simp [hx])) h
theorem xW {α:Type} {k:St->T α} {ρ:Nat->Int} {x:α}: ∀{ts:List Nat} {s:St},(Dw k ts s).leaf ρ=some x->∃s',(k s').leaf ρ=some x
 |[],s,h=> ⟨s,h⟩
 |i::ts,s,h=>by
  simp only [Dw] at h;split at h
  ·obtain⟨pc,b,h1⟩:=nC h;exact xW h1
  ·exact xW h
theorem I7 {α:Type} {k:St->T α} {ρ:Nat->Int} {x:α}: ∀{ts:List (Nat×Nat)} {s:St},(ZY k ts s).leaf ρ=some x->∃s',(k s').leaf ρ=some x
 |[],s,h=> ⟨s,h⟩
 |(t,g)::ts,s,h=>by
  simp only [ZY] at h;split at h
  ·obtain⟨pc,b,h1⟩:=nC h;exact I7 h1
  ·exact I7 h
theorem Uh {α:Type} {ρ:Nat->Int} {v:AV} {s:St} {k:AV->St->T α} {x:α} (h:(akY v s k).leaf ρ=some x): ∃v s,(k v s).leaf ρ=some x:=by
 unfold akY at h;split at h
 ·split at h
  ·unfold Jk at h;obtain⟨_,b1,h⟩:=nC h
   cases b1 with
   |true=>simp [T.leaf] at h
   |false=>
    obtain⟨_,b2,h⟩:=nC h
    cases b2 with
    |true=>simp [T.leaf] at h
    |false=>
     obtain⟨_,b3,h⟩:=nC h
     cases b3 with
     |true=>simp [T.leaf] at h
     |false=>exact⟨_,_,h⟩
  ·exact⟨_,_,h⟩
 ·exact⟨_,_,h⟩
theorem O6 {α:Type} {ρ:Nat->Int} {x:α}: ∀{vs:List AV} {s:St} {k:List AV->St->T α},(Ug vs s k).leaf ρ=some x->∃vs s,(k vs s).leaf ρ=some x
 |[],s,k,h=> ⟨_,_,h⟩
 |v::vs,s,k,h=>by simp only [Ug] at h;obtain⟨_,_,h⟩:=Uh h;obtain⟨_,_,h⟩:=O6 h;exact⟨_,_,h⟩
theorem Om {α:Type} {ρ:Nat->Int} {x:α} {t:Nat}: ∀{ov:List (SE×List AV)} {e:SE} {s:St} {k:SE->St->T α},(Tj t ov e s k).leaf ρ=some x->∃e s,(k e s).leaf ρ=some x
 |[],e,s,k,h=> ⟨_,_,h⟩
 |(j,cs)::ov,e,s,k,h=>by
  simp only [Tj] at h;obtain⟨_,_,h⟩:=Om h;obtain⟨_,_,h⟩:=O6 h;split at h
  ·exact⟨_,_,h⟩
  ·simp [T.leaf] at h
theorem akW {α:Type} {ρ:Nat->Int} {v:AV} {s:St} {k:AV->St->T α} {x:α} (h:(akX v s k).leaf ρ=some x): ∃v s,(k v s).leaf ρ=some x:=by
 unfold akX at h;split at h
 ·obtain⟨_,_,h⟩:=Om h;split at h
  ·exact⟨_,_,h⟩
  ·simp [T.leaf] at h
 ·exact Uh h
theorem Uf {α:Type} {ρ:Nat->Int} {x:α} {k:List AV->St->T α}: ∀{fz:List (Nat×Nat×Nat)} {vs:List AV} {s:St},(acF fz vs s k).leaf ρ=some x->∃vs s,(k vs s).leaf ρ=some x
 |[],vs,s,h=> ⟨_,_,h⟩
 |(i,f,t)::l,vs,s,h=>by
  simp only [acF] at h;split at h
  ·split at h
   ·obtain⟨_,_,h⟩:=akW h;split at h
    ·exact Uf h
    ·simp [T.leaf] at h
   ·simp [T.leaf] at h
  ·simp [T.leaf] at h
theorem asV {g:JO} {tabs:Lu} {e:Ex} {s:St} {ρ:Nat->Int} {lf:Lf} (hr:g.wZ≠[]) (h:(asW g e s).leaf ρ=some lf):LfG g.kV tabs lf:=by
 unfold asW at h;split at h
 ·simp [T.leaf] at h
 ·split at h
  ·simp [T.leaf] at h
  ·split at h
   ·rename_i h0; exact absurd h0 hr
   ·obtain⟨_,_,h⟩:=Uf h;exact asU h
theorem ahI {g:JO} {tabs:Lu} {ρ:Nat->Int} (hr:g.wZ≠[]): ∀n:Nat,
 (∀p c fr s lf,(EJ g tabs n p c fr s).leaf ρ=some lf->LfG g.kV tabs lf)/\
 (∀fr e s lf,(AX g tabs n fr e s).leaf ρ=some lf->LfG g.kV tabs lf)
 |0=> ⟨fun _ _ _ _ _ h=>by simp [EJ,T.leaf] at h,fun _ _ _ _ h=>by simp [AX,T.leaf] at h⟩
 |n+1=>by
  obtain⟨ih1,ih2⟩:=ahI hr n
  have lfc: ∀(c:Code) fr s lf,((g.ev c s).bind fun (e,s')=>AX g tabs n fr e s').leaf ρ=some lf->LfG g.kV tabs lf:=by intro c fr s lf h;obtain⟨⟨e,s'⟩,_,h2⟩:=T.gQ h;exact ih2 _ _ _ _ h2
  constructor
  ·intro p c fr s lf h;unfold EJ at h;split at h
   ·rename_i l hl;obtain⟨s',h1⟩:=xW h;exact Aq hl (fun _ h=>h) h1
   ·split at h
    ·exact ih1 _ _ _ _ _ h
    ·exact ih1 _ _ _ _ _ h
    ·exact ih1 _ _ _ _ _ h
    ·split at h
     ·obtain⟨pc,b,h1⟩:=nC h;split at h1
      ·exact ih1 _ _ _ _ _ h1
      ·exact ih1 _ _ _ _ _ h1
     ·simp [T.leaf] at h
    ·exact lfc _ _ _ _ h
  ·intro fr e s lf h;unfold AX at h;split at h
   ·exact asV hr h
   ·split at h
    ·exact ih1 _ _ _ _ _ h
    ·exact ih2 _ _ _ _ h
   ·split at h
    ·split at h
     ·exact ih2 _ _ _ _ h
     ·exact ih2 _ _ _ _ h
    ·exact ih2 _ _ _ _ h
   ·split at h
    ·split at h
     ·rename_i l hl;obtain⟨s',h1⟩:=xW h;exact Aq hl (fun _ h=>h) h1
     ·simp [T.leaf] at h
    ·exact ih2 _ _ _ _ h
   ·exact ih2 _ _ _ _ h
theorem KH {e:IY} {ρ:Nat->Int} {lf:Lf} (hr:e.wZ≠[]) (h:(sZ S e).leaf ρ=some lf): ∃fn body,S.ft e.g=some fn/\fn.body=some body/\LfG e.kV e.tabs lf:=by
 unfold sZ at h;split at h
 ·simp [T.leaf] at h
 ·rename_i fn hfn;split at h
  ·simp [T.leaf] at h
  ·rename_i body hb;refine⟨fn,body,hfn,hb,?_⟩;have key: ∀n p c fr s,(EJ (S.cfg e fn) e.tabs n p c fr s).leaf ρ=some lf->LfG e.kV e.tabs lf:=fun n p c fr s h=>(ahI (g:=S.cfg e fn) hr n).1 _ _ _ _ _ h;split at h
   ·split at h
    ·exact key _ _ _ _ _ h
    ·exact key _ _ _ _ _ h
   ·split at h
    ·split at h
     ·obtain⟨s',h1⟩:=I7 h;exact key _ _ _ _ _ h1
     ·simp [T.leaf] at h
    ·simp [T.leaf] at h
theorem afZ (hs:QO S): ∀(n j:Nat) (e:IY) (xs ys:List Int),S.ents j=some e->e.wZ≠[]->fD S.tree n j xs=some ys->∀a y,a<e.kV->ys[a+1]?=some y->y=low xs a
 |0,_,_,_,_,_,_,h=>by simp [fD] at h
 |n+1,j,e,xs,ys,he,hr,h=>by
  intro a y ha hy;obtain⟨_,_,hg⟩:=hs.outs j e he;have Ue:S.tree j=sZ S e:=by unfold Sys.tree; rw [he]
  simp only [fD,Ue] at h;split at h
  ·simp at h
  ·rename_i es hl;obtain⟨_,_,_,_,hlf⟩:=KH hr hl;simp only [aJf] at h;subst h;rw [aJF,aJA] at hy;obtain⟨x,hx,rfl⟩:=hy;rw [hlf a x ha hx];show bQ _ _ a=_;rw [wP (by omega)]
  ·rename_i j' es hl;obtain⟨fn,body,hfn,hb,⟨p,l,c,hp,hc,hlen⟩,hlf⟩:=KH hr hl;obtain⟨_,hh⟩:=hs.ents j e he fn body hfn hb p l hp;obtain⟨q1,_,_,q4⟩:=hh j' c hc;have:=afZ hs n j' _ _ ys q1 hr h a y ha hy;rw [this];have hal:a<es.length:=by omega
   have hx:=aJu hal;unfold low;rw [aKB,aJF,hx];show (es[a]).den _=_;rw [hlf a _ ha hx];show bQ _ _ a=_;rw [wP (by omega)]
theorem aBn (hs:QO S) {n:Nat} (h:aDf S n):@kU (S.G.glob (fD S.tree n)) S.P S.call:=by
 letI I:=S.G.glob (fD S.tree n);have a1: ∀ρ ro h,I.ok ρ ro h->S.G.ok ro h:=fun _ _ _ h=>h.1;have a2: ∀ρ ro h,I.ok ρ ro h->Good (fD S.tree n) ρ:=fun _ _ _ h=>h.2;refine Ih hs.tt hs.ft (hook:=S.hook) ?_ (fun call hc g=>hs.draw I call hc g) S.lf S.depth
 have hL: ∀g l,(∀j∈l,j∈S.nums g)->@nU I S.P g (S.OW l):=by
  intro g l
  induction l with
  |nil=> intro _ aJc s E w vals v s' r hv hp hl;simp [Sys.OW,T.leaf] at hl
  |cons j l ih=>
   intro hsub aJc s E w vals v s' r hv hp hl;have hj:=hsub j (by simp);simp only [Sys.OW] at hl;split at hl
   ·simp [T.leaf] at hl
   ·rename_i e he;have hspec:=h g j e hj he;obtain⟨_,_,hnum⟩:=hs.num g j e hj he;obtain⟨ho1,ho2,_⟩:=hs.outs j e he
    cases hpat:e.pat with
    |none=> rw [hpat] at hl hspec;exact @arS S.P I S.G.ok a1 (fD S.tree n) a2 g j e.QM e.pX hspec (hs.run g j hj) aJc s E w vals v s' r hv hp hl
    |some q=>
     obtain⟨c,eG,ko⟩:=q;rw [hpat] at hl hspec hnum;simp only at hl hspec hnum;unfold IY.eG IY.ko at ho1;unfold IY.ko at ho2;rw [hpat] at ho1 ho2
     cases Lj:e.wZ with
     |nil=>
      rw [Lj] at hl hspec;simp only at hl hspec;split at hl
      ·exact @arQ S.P I S.G.ok a1 (fD S.tree n) a2 g j c e.pX eG ko ho1 ho2 hnum.2.2.1 hspec (hs.run g j hj) aJc s E w vals v s' r hv hp hl
      ·exact ih (fun j hj=>hsub j (by simp [hj])) aJc s E w vals v s' r hv hp hl
     |cons r0 rs=>
      rw [Lj] at hl hspec;simp only at hl hspec;have hrp:=hnum.2.2.2 (by rw [Lj]; simp);rw [Lj] at hrp;split at hl
      ·exact @arO S.P I S.G.ok a1 (fD S.tree n) a2 g j c e.gh e.kV (r0::rs) hrp (fun xs ys h=>afZ hs n j e xs ys he (by rw [Lj]; simp) h) hspec (hs.run g j hj) aJc s E w vals v s' r hv hp hl
      ·exact ih (fun j hj=>hsub j (by simp [hj])) aJc s E w vals v s' r hv hp hl
 intro g f hf;unfold Sys.hook at hf;split at hf
 ·exact hs.ET I a1 g f hf
 ·rename_i j l hj;simp only [aJf] at hf;subst hf;have h2:=hL g (j::l) (by rw [hj]; exact fun _ h=>h);split
  ·exact h2
  ·rename_i h0 hh;exact D7 (hs.ET I a1 g h0 hh) h2
theorem abX (hs:QO S) {n:Nat} (h:LoopN S n) {j:Nat} {e:IY} (he:S.ents j=some e) {fn:Func} {body:Code} (hfn:S.ft e.g=some fn) (hb:fn.body=some body) (B:rV) (hm:e.eG.length=B.m) (ys:List Int) :
 @axL (S.G.glob (fD S.tree n)) S.P body fn.ntmps B (bodyPost S.P fn (QX B e.pX e.eG e.ko e.wZ ys)) (fD S.tree n) ys e.tabs:=by
 intro p l hp;obtain⟨⟨b,fr,hl⟩,hh⟩:=hs.ents j e he fn body hfn hb p l hp;refine⟨b,fr,hl,fun j' c hc E a w t hg ⟨xs,h1,h2,h3,h4⟩ hN hd=>?_⟩;obtain⟨q1,q2,q3,_⟩:=hh j' c hc;exact h j' { e with pos:=some (p,c) } p c q1 rfl q2 q3 fn body b fr hfn hb hl B E a w xs ys hm h4 h1 h2 t hg.1 hN hd
theorem aqU {F:uT} {E:En} {xs:List Int} {k:Nat} (h: ∀i x,xs[i]?=some x->E.ρ i=x) (hk:xs.length=k) (h9:k<=900): ∀i,i<k->bQ F (low xs) i=E.ρ i:=by intro i hi;rw [wP (by omega)];have hx:xs[i]?=some xs[i]:=aJu (by omega);unfold low;rw [h i _ hx,aKB,hx];rfl
theorem V6 {tree:Nat->T Lf} {n j:Nat} {xs ys:List Int} (h:fD tree (n+1) j xs=some ys): ∃lf,(tree j).leaf (bQ (fD tree n) (low xs))=some lf/\ZE (fD tree n) (bQ (fD tree n) (low xs)) ys lf:=by
 simp only [fD] at h;split at h
 ·simp at h
 ·rename_i es hl;simp only [aJf] at h;exact⟨_,hl,h⟩
 ·rename_i j' es hl;exact⟨_,hl,h⟩
theorem QE.spec {w:World} {ro:Nat->Prop} {θ:Nat->Nat×Nat} {κ:Nat->Nat} {pX:List RK} {ys:List Int} {e:Ending} {w':World} (h:QE ⟨w,ro,0,θ,κ⟩ pX [] 0 ys e w') :
 ∃u,e= .returned u/\Below w.heap.size w w'/\∃ro':Nat->Prop,(∀b,ro b->ro' b)/\(∀b,ro' b->ro b\/w.heap.size<=b)/\(∀b,ro' b->b<w'.heap.size)/\aBz pX ys ro' w'.heap u:=by
 obtain⟨u,q1,q2,ro',q3,q4,q5,_,_,q6⟩:=h;exact⟨u,q1,⟨q2.os,q2.tape,q2.output,q2.size,fun k hk=>q2.blk k hk fun⟨i,hi,_⟩=>absurd hi (by show ¬i<0; omega)⟩,ro',q3,q4,q5,q6⟩
theorem Bel.refl {B:rV}:Bel B B.w0:=⟨rfl,rfl,rfl,aJi _,fun _ _ _=>rfl⟩
theorem IL.grow {E:En} {s:St} {w:World} {vals:List Value} (f:IL E s { tmps:=vals.toArray,defers:=[] } w) (n:Nat):IL E s { tmps:=vals.toArray++Array.replicate n undef,defers:=[] } w:=by refine⟨f.fresh,f.res,f.live,f.inj,f.CG,fun t v ht=>?_,f.pc⟩;obtain⟨u,h1,h2⟩:=f.sr t v ht;refine⟨u,?_,h2⟩;have hlt:=(aJK.1 h1).1;show (vals.toArray++Array.replicate n undef)[t]?=some u;rw [aLa hlt];exact h1
theorem aoY (hs:QO S): ∀n:Nat,aDf S n/\LoopN S n
 |0=> ⟨fun g j e _ _=>by
  cases e.pat with
  |none=>exact fun xs ys h=>by simp [fD] at h
  |some q=>
   obtain⟨c,eG,ko⟩:=q
   cases e.wZ with
   |nil=>exact fun xs ys h=>by simp [fD] at h
   |cons r rs=>exact fun xs ys h=>by simp [fD] at h,fun j e p c _ _ _ _ fn body b fr _ _ _ B E a w xs ys _ h=>by simp [fD] at h⟩
 |n+1=>by
  obtain⟨ih1,ih2⟩:=aoY hs n;letI I:=S.G.glob (fD S.tree n);have hcall:=aBn hs ih1;have awP: ∀(e:IY) (fn:Func),adY S.P (S.cfg e fn) (S.chk e.g):=fun e fn=> ⟨hs.tt,hcall,hs.draw I S.call hcall e.g⟩;constructor
  ·intro g j e hn he;obtain⟨hg,hpos,hnum⟩:=hs.num g j e hn he;obtain⟨hlo,hko,_⟩:=hs.outs j e he;have Ue:S.tree j=sZ S e:=by unfold Sys.tree; rw [he]
   cases hpat:e.pat with
   |none=>
    rw [hpat] at hnum;simp only at hnum ⊢;intro xs ys hx ro w vals fl hro hgb sh hc;obtain⟨lf,h1,h2⟩:=V6 hx;rw [Ue] at h1;unfold sZ at h1
    cases hfn:S.ft e.g with
    |none=>rw [hfn] at h1; simp [T.leaf] at h1
    |some fn=>
     rw [hfn] at h1
     cases hb:fn.body with
     |none=>simp only [hb] at h1; simp [T.leaf] at h1
     |some body=>
      simp only [hb,hpos,hpat] at h1;obtain⟨hf,_,hd⟩:=hs.ft e.g fn hfn;rw [hg] at hf;have hdst:=hd body hb;have hlx:=hc.length.1;have hob:e.eG= []:=by unfold IY.eG; rw [hpat]
      have hk0:e.ko=0:=by unfold IY.ko; rw [hpat]
      have hvr:bP (En.zero (bQ (fD S.tree n) (low xs)) ro) w.heap (wJ e.QM .aP 0) vals:=by refine zA sh hc fun k x hk=>?_;have hkl:=(aJC.1 hk).1;rw [aJp];show bQ _ _ k=x;rw [wP (by omega)];unfold low;rw [aKB,hk];rfl
      have hgl:I.ok (bQ (fD S.tree n) (low xs)) ro w.heap:=⟨hgb,oV _ _⟩;let B:rV:=⟨w,ro,0,fun _=>(0,0),fun _=>0⟩
      have t0:rU B (En.zero (bQ (fD S.tree n) (low xs)) ro) ⟨bI (wJ e.QM .aP 0) 0 .nil,Hp.zero,[]⟩ { tmps:=vals.toArray++Array.replicate (fn.ntmps-vals.toArray.size) undef,defers:=[] } w:=by
       have fit:Fit (En.zero (bQ (fD S.tree n) (low xs)) ro) ⟨bI (wJ e.QM .aP 0) 0 .nil,Hp.zero,[]⟩ { tmps:=vals.toArray++Array.replicate (fn.ntmps-vals.toArray.size) undef,defers:=[] } w:=
        ⟨XD _ ro w hro hgl,Hq hvr _,by intro c b h; simp at h⟩
       exact⟨fit.x,fun _ h=>h,fun _ h=> .inl h,Bel.refl,fun id o h=>by simp [Hp.zero,Hp.get,Tr.get] at h,fun i hi=>absurd hi (by show ¬i<0; omega)⟩
      refine Calls.mono (calls_of_wp (R:=QX B e.pX e.eG e.ko e.wZ ys) hf hb ?_) fun e' w' hq=>QE.spec (w:=w) (ro:=ro) (θ:=fun _=>(0,0)) (κ:=fun _=>0) (by rw [hob,hk0,hnum.2] at hq; exact hq);exact (Wj (B:=B) (awP e fn) hdst rfl (by show e.eG.length=0; rw [hob]; rfl) hlo hko (abX hs ih2 he hfn hb B (by show e.eG.length=0; rw [hob]; rfl) ys) 1000).1 [] body [] _ lf _ _ w rfl h1 h2 t0 hgl (by simp; omega) rfl
   |some q=>
    obtain⟨c,eG,ko⟩:=q;rw [hpat] at hnum;simp only at hnum ⊢;obtain⟨aGK,hc9,hom,hrp⟩:=hnum
    have main: ∀xs ys,fD S.tree (n+1) j xs=some ys->∀(E:En) (w:World) (vals:List Value),(∀i x,xs[i]?=some x->E.ρ i=x)->xs.length=c.k->IL E c.st { tmps:=vals.toArray,defers:=[] } w->S.G.ok E.ro w.heap->
     Calls S.P g vals.toArray w (QX ⟨w,E.ro,c.objs.length,E.θ,E.κ⟩ e.pX eG ko e.wZ ys):=?_
    ·cases Lj:e.wZ with
     |nil=> simp only;intro xs ys hx E w vals hxs hlen fx hgb;have:=main xs ys hx E w vals hxs hlen fx hgb;rw [Lj] at this;exact this
     |cons r0 rs=> simp only;intro xs ys hx E w vals hxs hlen fx hgb;have:=main xs ys hx E w vals hxs hlen fx hgb;rw [Lj] at this;exact this
    intro xs ys hx E w vals hxs hlen fx hgb;obtain⟨lf,h1,h2⟩:=V6 hx;rw [Ue] at h1;unfold sZ at h1
    cases hfn:S.ft e.g with
    |none=>rw [hfn] at h1; simp [T.leaf] at h1
    |some fn=>
     rw [hfn] at h1
     cases hb:fn.body with
     |none=>simp only [hb] at h1; simp [T.leaf] at h1
     |some body=>
      simp only [hb,hpos,hpat] at h1;obtain⟨hf,_,hd⟩:=hs.ft e.g fn hfn;rw [hg] at hf;have hdst:=hd body hb;have hob:e.eG=eG:=by unfold IY.eG; rw [hpat]
      have hk0:e.ko=ko:=by unfold IY.ko; rw [hpat]
      let B:rV:=⟨w,E.ro,c.objs.length,E.θ,E.κ⟩
      have aIu: ∀id o,c.st.h.get id=some o->id<c.objs.length:=by
       intro id o ho;have:(wI c.objs 0 .nil).get id=some o:=ho;rw [oD] at this;split at this
       ·omega
       ·simp [Tr.get] at this
      have aIs: ∀id,id<c.objs.length->∃o,c.st.h.get id=some o:=by intro id hid;refine⟨c.objs[id],?_⟩;show (wI c.objs 0 .nil).get id=_;rw [oD,aJe (by omega)];simp
      have t1:rU B E c.st { tmps:=vals.toArray++Array.replicate (fn.ntmps-vals.toArray.size) undef,defers:=[] } w:=by refine⟨fx.grow _,fun _ h=>h,fun _ h=> .inl h,Bel.refl,fun id o h=> .inr ⟨id,aIu id o h,rfl⟩,fun i hi=>?_⟩;obtain⟨o,ho⟩:=aIs i hi;exact⟨(fx.live i o ho).1,rfl,rfl⟩
      have t0:=t1.low (ρ':=bQ (fD S.tree n) (low xs)) aGK (aqU hxs hlen hc9);have hgl:I.ok (bQ (fD S.tree n) (low xs)) E.ro w.heap:=⟨hgb,oV _ _⟩;have hm:e.eG.length=B.m:=by rw [hob]; exact hom
      have hw:=(Wj (B:=B) (awP e fn) hdst rfl hm hlo hko (abX hs ih2 he hfn hb B hm ys) 1000).1 [] body [] _ lf { E with ρ:=bQ (fD S.tree n) (low xs) } _ w rfl h1 h2 t0 hgl (by simp; omega) rfl;have hw':=calls_of_wp (R:=QX B e.pX e.eG e.ko e.wZ ys) hf hb hw;rw [hob,hk0] at hw';exact hw'
  ·intro j e p c he hpos hlow h9 fn body b fr hfn hb hl B E a w xs ys hm hx hxs hlen t hgb hN hdf;obtain⟨hlo,hko,_⟩:=hs.outs j e he;obtain⟨lf,h1,h2⟩:=V6 hx;have Ue:S.tree j=sZ S e:=by unfold Sys.tree; rw [he]
   rw [Ue] at h1;unfold sZ at h1;simp only [hfn,hb,hpos,hl] at h1;obtain⟨hf,_,hd⟩:=hs.ft e.g fn hfn;have hdst:=hd body hb;have t':=t.low (ρ':=bQ (fD S.tree n) (low xs)) hlow (aqU hxs hlen h9);have hgl:I.ok (bQ (fD S.tree n) (low xs)) E.ro w.heap:=⟨hgb,oV _ _⟩;refine abN ?_;obtain⟨s2,t2,h1'⟩:=Va (E:={ E with ρ:=bQ (fD S.tree n) (low xs) }) h1 t';exact (Wj (B:=B) (awP e fn) hdst rfl hm hlo hko (abX hs ih2 he hfn hb B hm ys) 1000).1 (0::p) b (.loop p b::fr) s2 lf { E with ρ:=bQ (fD S.tree n) (low xs) } a w (by simp only [vJ,hl]) h1' h2 t2 hgl hN hdf
theorem aoX (hs:QO S) {g j:Nat} {e:IY} (hn:j∈S.nums g) (he:S.ents j=some e) (hp:e.pat=none) (n:Nat):axG S.P S.G.ok g e.QM e.pX (fD S.tree n j):=by have:=(aoY hs n).1 g j e hn he;rw [hp] at this;exact this
end
end Go.As
end
section
namespace Go.As
open Go.RowKit
def KC:List (Nat×Nat)->Nat->Option Nat
 |[],_=>none
 |(t,k)::l,x=>match Nat.beq t x with
  |true=>some k
  |false=>KC l x
def Yh (l:List (Nat×Nat)) (tt:TT):TT:=fun t=>match tt t with
 |some i=>some { i with own:=KC l t }
 |none=>none
section
variable {P:Program}
theorem azP {l:List (Nat×Nat)} {tt:TT} (h:eY P tt):eY P (Yh l tt):=by
 intro t i hi;unfold Yh at hi;split at hi
 ·rename_i j hj;simp only [aJf] at hi;subst hi;obtain⟨h1,h2⟩:=h t j hj;exact⟨h1,h2⟩
 ·simp at hi
theorem abU (l:List (Nat×Nat)) (tt:TT):kindOf (Yh l tt)=kindOf tt:=by
 funext op;cases op
 case convert t u x=>
  simp only [kindOf,Yh]
  cases ht:tt t with
  |none=>rfl
  |some i=>
   simp only
   cases i.kind with
   |slice e=>
    simp only
    cases hu:tt u with
    |none=>rfl
    |some j=>rfl
   |_=>rfl
 all_goals rfl
theorem TY (l:List (Nat×Nat)) (tt:TT) (all:List Oper) (ms:List Nat): ∀(os:List Oper) (i n:Nat),items (Yh l tt) all ms os i n=items tt all ms os i n
 |[],_,_=>rfl
 |o::os,i,n=>by simp only [items,abU,TY l tt all ms os]
theorem apB (l:List (Nat×Nat)) (tt:TT) (all:List Oper):stat (Yh l tt) all=stat tt all:=by
 unfold stat
 simp only [TY]
theorem awO (l:List (Nat×Nat)) (tt:TT) (H:Nat->Nat->Option U5):Xj (Yh l tt) H=Xj tt H:=by funext g id all;unfold Xj;simp only [Dc,apB]
end
structure FE where
 no:Nat
 g:Nat
 QM:List RK
 pX:List RK
 pat:Option (CS×List dW×Nat):=none
 wZ:List CS:=[]
 gh:List (Nat×Nat):=[]
 wh:List Nat:=[]
 kV:Nat:=0
 tst:List (Nat×Nat):=[]
 fz:List (Nat×Nat×Nat):=[]
 loops:List (List Nat×CS):=[]
def idxs (p:List Nat):List (List Nat×CS)->Nat->List (Nat×CS)
 |[],_=>[]
 |(q,c)::l,j=>match jW q p with
  |true=>(j,c)::idxs p l (j+1)
  |false=>idxs p l (j+1)
def FE.tabs (f:FE):Lu:=fun p=>match idxs p f.loops (f.no+1) with
 |[]=>none
 |x::l=>some (x::l)
def FE.ent (f:FE):IY:=⟨f.g,f.QM,f.pX,f.tabs,none,f.pat,f.wZ,f.gh,f.wh,f.kV,f.tst,f.fz⟩
def BI (t:Nat->Option FE) (j:Nat):Option IY:=match t (j / 50) with
 |none=>none
 |some f=>match j % 50 with
  |0=>some f.ent
  |i+1=>match iD f.loops i with
   |some x=>some { f.ent with pos:=some x }
   |none=>none
def arI:Option (Code×List FrE)->Bool
 |some (c,_)=>match c with
  | .loop _=>true
  |_=>false
 |none=>false
def VZ (kV:Nat) (body:Code) (x:List Nat×CS):Bool:=arI (vJ body x.1)&&Dq x.2.k x.2&&Nat.ble x.2.k 900&&Nat.ble kV x.2.k
def aGo {α:Type}:List α->Bool
 |[]=>true
 |_=>false
def asJ (ft:Nat->Option Func) (k:Nat) (f:FE):Bool:=Nat.beq f.no (50*k)&&Nat.blt f.loops.length 50&&Nat.ble f.kV 900&&
 (match f.pat with
  |none=>Nat.ble (vF f.QM).length 900&&aGo f.wZ
  |some (c,eG,ko)=>Dq c.k c&&Nat.ble c.k 900&&Nat.beq eG.length c.objs.length&&SS f.wZ&&rO ko eG&&Nat.ble ko 900)&&
 (match ft f.g with
  |some fn=>match fn.body with
   |some body=>f.loops.all (VZ f.kV body)
   |none=>false
  |none=>false)
def Yl (ft:Nat->Option Func) (t:Nat->Option FE) (g:Nat) (l:List Nat):Bool:=
 l.all fun j=>Nat.beq (j % 50) 0&&match t (j / 50) with
  |some f=>Nat.beq f.g g&&(match ft g with
   |some fn=>fn.body.isSome
   |none=>false)
  |none=>false
theorem PE: ∀{a b:List Nat},jW a b=true->a=b
 |[],[],_=>rfl
 |[],_::_,h=>by simp [jW] at h
 |_::_,[],h=>by simp [jW] at h
 |a::x,b::y,h=>by
  simp only [jW] at h;split at h
  ·rename_i h1;rw [aJj h1,PE h]
  ·simp at h
theorem Hr {p:List Nat}: ∀{l:List (List Nat×CS)} {n j:Nat} {c:CS},(j,c)∈idxs p l n->∃i,l[i]?=some (p,c)/\j=n+i
 |[],n,j,c,h=>by simp [idxs] at h
 |(q,c0)::l,n,j,c,h=>by
  simp only [idxs] at h;split at h
  ·rename_i hq;rcases aJq.1 h with h|h
   ·simp only [aJg] at h;obtain⟨rfl,rfl⟩:=h;exact⟨0,by rw [PE hq]; rfl,rfl⟩
   ·obtain⟨i,h1,h2⟩:=Hr h;exact⟨i+1,by simpa using h1,by omega⟩
  ·obtain⟨i,h1,h2⟩:=Hr h;exact⟨i+1,by simpa using h1,by omega⟩
structure alY where
 P:Program
 G:ZH
 tt:TT
 ft:Nat->Option Func
 chk:Nat->Nat->List Oper->Bool
 draw:dS->Nat->Nat->List Oper->St->T St
 ET:Nat->Option (List AV->St->T (AV×St))
 t:Nat->Option FE
 nums:Nat->List Nat
noncomputable def alY.sys (S:alY):Sys:=⟨S.P,S.G,S.tt,S.ft,S.chk,S.draw,S.ET,40,60,S.nums,BI S.t⟩
theorem PG {t:Nat->Option FE} {j:Nat} {e:IY} (h:BI t j=some e): ∃f pos,t (j / 50)=some f/\e= { f.ent with pos:=pos }:=by
 unfold BI at h;split at h
 ·simp at h
 ·rename_i f hf;split at h
  ·simp only [aJf] at h;exact⟨f,none,hf,h.symm⟩
  ·split at h
   ·rename_i x hx;simp only [aJf] at h;exact⟨f,some x,hf,h.symm⟩
   ·simp at h
theorem ayR {S:alY} (h1:eY S.P S.tt) (h2:amA S.P S.chk S.ft) (h3: ∀(I:Glob) call,@kU I S.P call->∀g,@DJ I S.P (S.chk g) (S.draw call g)) (h4: ∀(I:Glob),(∀ρ ro h,I.ok ρ ro h->S.G.ok ro h)->∀g h,S.ET g=some h->@nU I S.P g h)
 (h5: ∀k f,S.t k=some f->asJ S.ft k f=true) (h6: ∀g,Yl S.ft S.t g (S.nums g)=true):QO S.sys where
 tt:=h1
 ft:=h2
 draw:=h3
 ET:=h4
 run:=by
  intro g j hj args w;have hn:=h6 g;unfold Yl at hn;have:=aJD.1 hn j hj;simp only [aJh] at this;obtain⟨_,h⟩:=this;split at h
  ·simp only [aJh] at h;obtain⟨_,h⟩:=h;split at h
   ·rename_i fn hfn;obtain⟨q1,q2,_⟩:=h2 g fn hfn;obtain⟨c,hb⟩:=aKq.1 h;unfold callFunc;simp [alY.sys,q1,hb,by simpa using q2]
   ·simp at h
  ·simp at h
 num:=by
  intro g j e hj he;have hn:=h6 g;unfold Yl at hn;have:=aJD.1 hn j hj;simp only [aJh] at this;obtain⟨hm,h⟩:=this;have hm:=aJj hm;have he':BI S.t j=some e:=he;unfold BI at he';split at h
  ·rename_i f hf;rw [hf,hm] at he';simp only [aJf] at he';subst he';simp only [aJh] at h;have hok:=h5 _ _ hf;unfold asJ at hok;simp only [aJh] at hok;obtain⟨⟨_,hp⟩,_⟩:=hok;refine⟨aJj h.1,rfl,?_⟩
   show (match f.pat with
    |none=>_
    |some (c,eG,_)=>_)
   cases hpat:f.pat with
   |none=>
    rw [hpat] at hp;simp only [aJh] at hp;refine⟨aJ9 hp.1,?_⟩;show f.wZ= []
    cases hr:f.wZ with
    |nil=>rfl
    |cons a l=>rw [hr] at hp; simp [aGo] at hp
   |some q=> obtain⟨c,eG,ko⟩:=q;rw [hpat] at hp;simp only [aJh] at hp;obtain⟨⟨⟨⟨⟨p1,p2⟩,p3⟩,p4⟩,_⟩,_⟩:=hp;exact⟨p1,aJ9 p2,aJj p3,fun _=>p4⟩
  ·simp at h
 outs:=by
  intro j e he;obtain⟨f,pos,hf,rfl⟩:=PG he;have hok:=h5 _ _ hf;unfold asJ at hok;simp only [aJh] at hok;obtain⟨⟨⟨_,hg⟩,hp⟩,_⟩:=hok;refine⟨?_,?_,aJ9 hg⟩
  ·unfold IY.eG IY.ko;show rO (match f.pat with |none=>0|some (_,_,k)=>k) (match f.pat with |none=>[]|some (_,o,_)=>o)=true
   cases hpat:f.pat with
   |none=>rfl
   |some q=> obtain⟨c,eG,ko⟩:=q;rw [hpat] at hp;simp only [aJh] at hp;exact hp.1.2
  ·unfold IY.ko;show (match f.pat with |none=>0|some (_,_,k)=>k)<=900
   cases hpat:f.pat with
   |none=>exact aKl _
   |some q=> obtain⟨c,eG,ko⟩:=q;rw [hpat] at hp;simp only [aJh] at hp;exact aJ9 hp.2
 ents:=by
  intro j e he fn body hfn hb;obtain⟨f,pos,hf,rfl⟩:=PG he;have hok:=h5 _ _ hf;unfold asJ at hok;simp only [aJh] at hok;obtain⟨⟨⟨⟨hno,hlen⟩,_⟩,_⟩,hl⟩:=hok;have hno:=aJj hno;have hlen:f.loops.length<50:=aLL (by simpa [Nat.blt] using hlen);have hfn':S.ft f.g=some fn:=hfn;rw [hfn'] at hl;simp only [hb] at hl;intro p l hp;have hp':f.tabs p=some l:=hp
  have hl0:l=idxs p f.loops (f.no+1)/\l≠[]:=by
   unfold FE.tabs at hp';split at hp'
   ·simp at hp'
   ·rename_i x l' hx;simp only [aJf] at hp';rw [hx,hp'];exact⟨rfl,by rw [<- hp']; simp⟩
  have hat: ∀i c,f.loops[i]?=some (p,c)->VZ f.kV body (p,c)=true:=fun i c hi=>aJD.1 hl _ (aJL hi);constructor
  ·obtain⟨hl1,hl2⟩:=hl0
   cases hc:l with
   |nil=>exact absurd hc hl2
   |cons x l'=>
    obtain⟨j',c⟩:=x;have:(j',c)∈idxs p f.loops (f.no+1):=by rw [<- hl1,hc]; simp
    obtain⟨i,hi,_⟩:=Hr this;have:=hat i c hi;unfold VZ at this;simp only [aJh] at this;have hi:=this.1.1.1;unfold arI at hi;split at hi
    ·rename_i c' fr heq;split at hi
     ·rename_i b;exact⟨b,fr,heq⟩
     ·simp at hi
    ·simp at hi
  ·intro j' c hc;rw [hl0.1] at hc;obtain⟨i,hi,rfl⟩:=Hr hc;have hil:=(aJC.1 hi).1;have:=hat i c hi;unfold VZ at this;simp only [aJh] at this;obtain⟨⟨⟨_,q1⟩,q2⟩,q3⟩:=this;refine⟨?_,q1,aJ9 q2,aJ9 q3⟩;show BI S.t (f.no+1+i)=_;have hd:(f.no+1+i) / 50=j / 50:=by rw [hno]; omega
   have hm:(f.no+1+i) % 50=i+1:=by rw [hno]; omega
   unfold BI;rw [hd,hf,hm];simp only;rw [dD,hi]
end Go.As
end
section
namespace Go.As
open Go.RowKit
def u8L (l:List Int):List AV:=l.map fun n=> .int .u8 (.lit n)
noncomputable section
def a0 (j:Nat) (l:List SE):SE:=.ap (2*j) (iU l)
def a1 (j:Nat) (l:List SE):SE:=.ap (2*j+1) (iU l)
def rr (j:Nat) (l:List SE) (i:Nat):SE:=uZ (.ap (2*j+1) (iU l)) i
def nm (x:SE):SE:=.op .num x (.lit 0)
def mk (x:SE):SE:=.op .mk x (.lit 0)
def ln (x:SE):SE:=.op .len x (.lit 0)
def ce (j:Nat) (x:SE):SE:=.op (.cell j) x (.lit 0)
def el (x y:SE):SE:=.op .at x y
def cn (x y:SE):SE:=.op .cons x y
def wr (x:SE):SE:=.wrap .i64 x
def sp (c:SB) (a b:T Lf):T Lf:=.split c a b
def ou (l:List SE):T Lf:=.ret (.out l)
def ju (j:Nat) (l:List SE):T Lf:=.ret (.jump j l)
def fl:T Lf:=.fail
end
end Go.As
end
section
namespace Go.As
open Go.RowKit
def EF (kn:List (Nat×SE)):SE->Bool
 | .ap f a=>EF kn a&&kn.any fun p=>Nat.beq f (2*p.1+1)&&gZ a p.2
 | .op _ a b=>EF kn a&&EF kn b
 | .add a b=>EF kn a&&EF kn b
 | .sub a b=>EF kn a&&EF kn b
 | .mul a b=>EF kn a&&EF kn b
 | .quo a b=>EF kn a&&EF kn b
 | .rem a b=>EF kn a&&EF kn b
 | .wrap _ a=>EF kn a
 | .inp _ _=>false
 | .lit _=>true
 | .dat _=>true
 | .aP i=>Nat.blt i 900
def okC (kn:List (Nat×SE)):SB->Bool
 | .lit _=>true
 | .lt a b=>EF kn a&&EF kn b
 | .le a b=>EF kn a&&EF kn b
 | .eq a b=>EF kn a&&EF kn b
 | .not a=>okC kn a
 | .and a b=>okC kn a&&okC kn b
def callOf:SB->Option (Nat×SE)
 | .eq x y=>match x with
   | .ap f a=>match y with
     | .lit n=>match CZ n 1&&Nat.beq (f % 2) 0 with
       |true=>some (f / 2,a)
       |false=>none
     |_=>none
   |_=>none
 |_=>none
def aD5:T Lf->Bool
 | .fail=>true
 |_=>false
def aqC (kn:List (Nat×SE)):List SE->Bool
 |[]=>true
 |e::l=>EF kn e&&aqC kn l
def ZM (kn:List (Nat×SE)):T Lf->Bool
 | .fail=>true
 | .ret l=>match l with
   | .out es=>aqC kn es
   | .jump _ es=>aqC kn es
 | .split c x y=>match callOf c with
   |some p=>EF kn p.2&&ZM (p::kn) x&&aD5 y
   |none=>okC kn c&&ZM kn x&&ZM kn y
inductive RS where
 |no
 |out (ys:List Int)
 |jump (j:Nat) (xs:List Int)
noncomputable def dX (ρ:Nat->Int):T Lf->RS
 | .fail=> .no
 | .ret l=>match l with
   | .out es=> .out (es.map (SE.den ρ))
   | .jump j es=> .jump j (es.map (SE.den ρ))
 | .split c x y=>if c.den ρ=true then dX ρ x else dX ρ y
theorem GR {tree:Nat->T Lf} {n j:Nat} {xs:List Int}:fD tree (n+1) j xs=match dX (bQ (fD tree n) (low xs)) (tree j) with
 | .no=>none
 | .out ys=>some ys
 | .jump j' xs'=>fD tree n j' xs':=by
 have: ∀t:T Lf,(match t.leaf (bQ (fD tree n) (low xs)) with
  |none=>none
  |some (.out es)=>some (es.map (SE.den (bQ (fD tree n) (low xs))))
  |some (.jump j' es)=>fD tree n j' (es.map (SE.den (bQ (fD tree n) (low xs)))))=match dX (bQ (fD tree n) (low xs)) t with
  | .no=>none
  | .out ys=>some ys
  | .jump j' xs'=>fD tree n j' xs':=by
  intro t
  induction t with
  |fail=>rfl
  |ret l=>cases l<;>rfl
  |split c x y ihx ihy=>
   simp only [T.leaf,dX]
   cases hc:c.den (bQ (fD tree n) (low xs)) with
   |true=>simpa [hc] using ihx
   |false=>simpa [hc] using ihy
 exact this (tree j)
def Fle (F F':uT):Prop:= ∀j xs ys,F j xs=some ys->F' j xs=some ys
def Kn (F F':uT) (lo:Nat->Int) (kn:List (Nat×SE)):Prop:= ∀p∈kn,p.2.den (bQ F lo)=p.2.den (bQ F' lo)/\∃xs ys,p.2.den (bQ F lo)=qY xs/\F p.1 xs=some ys
theorem Uw {F:uT} {lo:Nat->Int} {j:Nat} {z:Int} (h:bQ F lo (lI (2*j) z)=1): ∃xs ys,z=qY xs/\F j xs=some ys:=by
 have h1:=DC (2*j) z;unfold bQ at h;rw [aJd (by omega)] at h;split at h
 ·rename_i hp;obtain⟨q1,q2⟩:=zV hp.choose_spec;have q1:hp.choose.1=j:=by omega
  split at h
  ·rename_i hs;obtain⟨ys,hy⟩:=aKq.1 hs;refine⟨hp.choose.2,ys,q2,?_⟩;generalize hp.choose=q at q1 hy;subst q1;exact hy
  ·omega
 ·split at h
  ·rename_i hp;have:=(zV hp.choose_spec).1;omega
  ·omega
section
variable {F F':uT} {lo:Nat->Int}
theorem iJ (hF:Fle F F') {kn:List (Nat×SE)} (hk:Kn F F' lo kn): ∀{e:SE},EF kn e=true->e.den (bQ F lo)=e.den (bQ F' lo)
 | .ap f a,h=>by simp only [EF,aJh] at h;have ha:=iJ hF hk h.1;obtain⟨p,hp,hq⟩:=aLJ.1 h.2;simp only [aJh] at hq;have h1:=aJj hq.1;have h2:=bZ _ _ hq.2;subst h2;obtain⟨k1,xs,ys,k2,k3⟩:=hk p hp;simp only [SE.den];rw [<- k1,k2,h1,(oV F lo p.1 xs).2,(oV F' lo p.1 xs).2,k3,hF _ _ _ k3]
 | .op o a b,h=>by simp only [EF,aJh] at h; simp only [SE.den,iJ hF hk h.1,iJ hF hk h.2]
 | .add a b,h=>by simp only [EF,aJh] at h; simp only [SE.den,iJ hF hk h.1,iJ hF hk h.2]
 | .sub a b,h=>by simp only [EF,aJh] at h; simp only [SE.den,iJ hF hk h.1,iJ hF hk h.2]
 | .mul a b,h=>by simp only [EF,aJh] at h; simp only [SE.den,iJ hF hk h.1,iJ hF hk h.2]
 | .quo a b,h=>by simp only [EF,aJh] at h; simp only [SE.den,iJ hF hk h.1,iJ hF hk h.2]
 | .rem a b,h=>by simp only [EF,aJh] at h; simp only [SE.den,iJ hF hk h.1,iJ hF hk h.2]
 | .wrap k a,h=>by simp only [EF] at h; simp only [SE.den,iJ hF hk h]
 | .inp _ _,h=>by simp [EF] at h
 | .lit _,_=>rfl
 | .dat _,_=>rfl
 | .aP i,h=>by have hi:i<900:=aLL (by simpa [EF,Nat.blt] using h);simp only [SE.den];rw [wP hi,wP hi]
theorem G6 (hF:Fle F F') {kn:List (Nat×SE)} (hk:Kn F F' lo kn): ∀{c:SB},okC kn c=true->c.den (bQ F lo)=c.den (bQ F' lo)
 | .lit _,_=>rfl
 | .lt a b,h=>by simp only [okC,aJh] at h; simp only [SB.den,iJ hF hk h.1,iJ hF hk h.2]
 | .le a b,h=>by simp only [okC,aJh] at h; simp only [SB.den,iJ hF hk h.1,iJ hF hk h.2]
 | .eq a b,h=>by simp only [okC,aJh] at h; simp only [SB.den,iJ hF hk h.1,iJ hF hk h.2]
 | .not a,h=>by simp only [okC] at h; simp only [SB.den,G6 hF hk h]
 | .and a b,h=>by simp only [okC,aJh] at h; simp only [SB.den,G6 hF hk h.1,G6 hF hk h.2]
theorem CU (hF:Fle F F') {kn:List (Nat×SE)} (hk:Kn F F' lo kn): ∀{es:List SE},aqC kn es=true->es.map (SE.den (bQ F lo))=es.map (SE.den (bQ F' lo))
 |[],_=>rfl
 |e::l,h=>by simp only [aqC,aJh] at h;simp only [aJz,iJ hF hk h.1,CU hF hk h.2]
theorem KL {c:SB} {p:Nat×SE} (h:callOf c=some p):c= .eq (.ap (2*p.1) p.2) (.lit 1):=by
 cases c with
 |eq x y=>
  cases x with
  |ap f a=>
   cases y with
   |lit n=>
    simp only [callOf] at h;split at h
    ·rename_i hb;simp only [aJf] at h;simp only [aJh] at hb;have h1:=Ed hb.1;have h2:=aJj hb.2;subst h;show SB.eq (.ap f a) (.lit n)= .eq (.ap (2*(f / 2)) a) (.lit 1);rw [show 2*(f / 2)=f by omega,h1]
    ·simp at h
   |_=>simp [callOf] at h
  |_=>simp [callOf] at h
 |_=>simp [callOf] at h
theorem Gz (hF:Fle F F'): ∀{t:T Lf} {kn:List (Nat×SE)},Kn F F' lo kn->ZM kn t=true->dX (bQ F lo) t≠.no->dX (bQ F' lo) t=dX (bQ F lo) t
 | .fail,_,_,_,h=>absurd rfl h
 | .ret (.out es),_,hk,ho,_=>by simp only [ZM] at ho; simp only [dX,CU hF hk ho]
 | .ret (.jump j es),_,hk,ho,_=>by simp only [ZM] at ho; simp only [dX,CU hF hk ho]
 | .split c x y,kn,hk,ho,h=>by
   simp only [ZM] at ho;split at ho
   ·rename_i p hp;simp only [aJh] at ho;obtain⟨⟨h1,h2⟩,h3⟩:=ho;have hc:=KL hp;subst hc
    have hy:y= .fail:=by cases y<;>simp [aD5] at h3<;>rfl
    subst hy;have hd:=iJ hF hk h1;simp only [dX,SB.den,SE.den] at h ⊢;by_cases h4:bQ F lo (lI (2*p.1) (p.2.den (bQ F lo)))=1
    ·obtain⟨xs,ys,e1,e2⟩:=Uw h4;have e3:=hF _ _ _ e2
     have h5:bQ F' lo (lI (2*p.1) (p.2.den (bQ F' lo)))=1:=by rw [<- hd,e1,(oV F' lo p.1 xs).1,e3];rfl
     have c4:(bQ F lo (lI (2*p.1) (p.2.den (bQ F lo))) == 1)=true:=by rw [h4]; rfl
     have c5:(bQ F' lo (lI (2*p.1) (p.2.den (bQ F' lo))) == 1)=true:=by rw [h5]; rfl
     simp only [c4,c5,if_true] at h ⊢;refine Gz hF (kn:=p::kn) ?_ h2 h;intro q hq;rcases aJq.1 hq with rfl|hq
     ·exact⟨hd,xs,ys,e1,e2⟩
     ·exact hk q hq
    ·have c4:(bQ F lo (lI (2*p.1) (p.2.den (bQ F lo))) == 1)=false:=by simpa using h4
     simp only [c4,aJw,if_false] at h;exact absurd rfl h
   ·simp only [aJh] at ho;obtain⟨⟨h1,h2⟩,h3⟩:=ho;have hc:=G6 hF hk h1;simp only [dX] at h ⊢;rw [<- hc];by_cases h4:c.den (bQ F lo)=true
    ·rw [aJe h4] at h ⊢;rw [aJe h4];exact Gz hF hk h2 h
    ·rw [aJd h4] at h ⊢;rw [aJd h4];exact Gz hF hk h3 h
end
section
variable {tree:Nat->T Lf} (hok: ∀j,ZM [] (tree j)=true)
include hok
theorem SK {n:Nat} {F':uT} (hF:Fle (fD tree n) F') {j:Nat} {xs ys:List Int} (h:fD tree (n+1) j xs=some ys) :
 (match dX (bQ F' (low xs)) (tree j) with
 | .no=>none
 | .out ys=>some ys
 | .jump j' xs'=>F' j' xs')=some ys:=by
 rw [GR] at h
 have hne:dX (bQ (fD tree n) (low xs)) (tree j)≠.no:=by intro he;rw [he] at h;simp at h
 rw [Gz hF (kn:=[]) (by intro p hp; simp at hp) (hok j) hne];split at h
 ·simp at h
 ·rename_i heq; exact h
 ·rename_i heq; exact hF _ _ _ h
theorem SL: ∀n,Fle (fD tree n) (fD tree (n+1))
 |0=>fun j xs ys h=>by simp [fD] at h
 |n+1=>fun j xs ys h=>by rw [GR (n:=n+1)];exact SK hok (SL n) h
theorem GU {n m:Nat} (h:n<=m):Fle (fD tree n) (fD tree m):=by
 induction h with
 |refl=>exact fun _ _ _ h=>h
 |step _ ih=>exact fun j xs ys h=>SL hok _ _ _ _ (ih _ _ _ h)
end
open Classical in
noncomputable def lim' (tree:Nat->T Lf):uT:=fun j xs=>if h: ∃n ys,fD tree n j xs=some ys then some h.choose_spec.choose else none
section
variable {tree:Nat->T Lf} (hok: ∀j,ZM [] (tree j)=true)
include hok
theorem abS {n j:Nat} {xs ys:List Int} (h:fD tree n j xs=some ys):lim' tree j xs=some ys:=by unfold lim';have he: ∃n ys,fD tree n j xs=some ys:=⟨n,ys,h⟩;rw [dif_pos he];have h2:=he.choose_spec.choose_spec;have h3:=GU hok (Nat.le_max_left n he.choose) _ _ _ h;have h4:=GU hok (Nat.le_max_right n he.choose) _ _ _ h2;rw [h3] at h4;exact h4.symm
omit hok in
theorem V5 {j:Nat} {xs ys:List Int} (h:lim' tree j xs=some ys): ∃n,fD tree n j xs=some ys:=by
 unfold lim' at h;split at h
 ·rename_i he;simp only [aJf] at h;exact⟨he.choose,by rw [<- h]; exact he.choose_spec.choose_spec⟩
 ·simp at h
theorem OE (n:Nat):Fle (fD tree n) (lim' tree):=fun _ _ _ h=>abS hok h
def KnS (tree:Nat->T Lf) (n0:Nat) (lo:Nat->Int) (kn:List (Nat×SE)):Prop:= ∀m,n0<=m->Kn (fD tree m) (lim' tree) lo kn
theorem Cc {lo:Nat->Int}: ∀{t:T Lf} {kn:List (Nat×SE)} (n0:Nat),KnS tree n0 lo kn->ZM kn t=true->dX (bQ (lim' tree) lo) t≠.no->∃n,∀m,n<=m->dX (bQ (fD tree m) lo) t=dX (bQ (lim' tree) lo) t
 | .fail,_,_,_,_,h=>absurd rfl h
 | .ret (.out es),_,n0,hk,ho,_=> ⟨n0,fun m hm=>by simp only [ZM] at ho; simp only [dX,CU (OE hok m) (hk m hm) ho]⟩
 | .ret (.jump j es),_,n0,hk,ho,_=> ⟨n0,fun m hm=>by simp only [ZM] at ho; simp only [dX,CU (OE hok m) (hk m hm) ho]⟩
 | .split c x y,kn,n0,hk,ho,h=>by
   simp only [ZM] at ho;split at ho
   ·rename_i p hp;simp only [aJh] at ho;obtain⟨⟨h1,h2⟩,h3⟩:=ho;have hc:=KL hp;subst hc
    have hy:y= .fail:=by cases y<;>simp [aD5] at h3<;>rfl
    subst hy;have hd: ∀m,n0<=m->p.2.den (bQ (fD tree m) lo)=p.2.den (bQ (lim' tree) lo):=fun m hm=>iJ (OE hok m) (hk m hm) h1;simp only [dX,SB.den,SE.den] at h ⊢;by_cases h4:bQ (lim' tree) lo (lI (2*p.1) (p.2.den (bQ (lim' tree) lo)))=1
    ·have c4:(bQ (lim' tree) lo (lI (2*p.1) (p.2.den (bQ (lim' tree) lo))) == 1)=true:=by rw [h4]; rfl
     obtain⟨xs,ys,e1,e2⟩:=Uw h4;obtain⟨n1,e3⟩:=V5 e2;simp only [c4,if_true] at h ⊢
     have hk2:KnS tree (max n0 n1) lo (p::kn):=by
      intro m hm q hq;rcases aJq.1 hq with rfl|hq
      ·refine⟨hd m (by omega),xs,ys,by rw [hd m (by omega)]; exact e1,GU hok (show n1<=m by omega) _ _ _ e3⟩
      ·exact hk m (by omega) q hq
     obtain⟨n2,h5⟩:=Cc (max n0 n1) hk2 h2 h;refine⟨max (max n0 n1) n2,fun m hm=>?_⟩
     have c5:(bQ (fD tree m) lo (lI (2*p.1) (p.2.den (bQ (fD tree m) lo))) == 1)=true:=by rw [hd m (by omega),e1,(oV (fD tree m) lo p.1 xs).1,GU hok (show n1<=m by omega) _ _ _ e3];rfl
     simp only [c5,if_true];exact h5 m (by omega)
    ·have c4:(bQ (lim' tree) lo (lI (2*p.1) (p.2.den (bQ (lim' tree) lo))) == 1)=false:=by simpa using h4
     simp only [c4,aJw,if_false] at h;exact absurd rfl h
   ·simp only [aJh] at ho;obtain⟨⟨h1,h2⟩,h3⟩:=ho;have hc: ∀m,n0<=m->c.den (bQ (fD tree m) lo)=c.den (bQ (lim' tree) lo):=fun m hm=>G6 (OE hok m) (hk m hm) h1;simp only [dX] at h ⊢;by_cases h4:c.den (bQ (lim' tree) lo)=true
    ·rw [aJe h4] at h;obtain⟨n2,h5⟩:=Cc n0 hk h2 h;refine⟨max n0 n2,fun m hm=>?_⟩;rw [hc m (by omega),aJe h4,aJe h4];exact h5 m (by omega)
    ·rw [aJd h4] at h;obtain⟨n2,h5⟩:=Cc n0 hk h3 h;refine⟨max n0 n2,fun m hm=>?_⟩;rw [hc m (by omega),aJd h4,aJd h4];exact h5 m (by omega)
noncomputable def fin (F:uT):RS->Option (List Int)
 | .no=>none
 | .out ys=>some ys
 | .jump j xs=>F j xs
theorem aDY (j:Nat) (xs:List Int):lim' tree j xs=fin (lim' tree) (dX (bQ (lim' tree) (low xs)) (tree j)):=by
 cases h:lim' tree j xs with
 |some ys=>
  obtain⟨n,hn⟩:=V5 h
  cases n with
  |zero=>simp [fD] at hn
  |succ n=> have:=SK hok (OE hok n) hn;rw [<- this];cases dX (bQ (lim' tree) (low xs)) (tree j)<;>rfl
 |none=>
  cases hs:dX (bQ (lim' tree) (low xs)) (tree j) with
  |no=>rfl
  |out ys=>
   exfalso;obtain⟨n,hn⟩:=Cc hok (lo:=low xs) (t:=tree j) (kn:=[]) 0 (by intro m _ p hp; simp at hp) (hok j) (by rw [hs]; simp);have:fD tree (n+1) j xs=some ys:=by rw [GR,hn n (aJi _),hs]
   rw [abS hok this] at h;simp at h
  |jump j' xs'=>
   show none=lim' tree j' xs'
   cases h2:lim' tree j' xs' with
   |none=>rfl
   |some ys=>
    exfalso;obtain⟨n,hn⟩:=Cc hok (lo:=low xs) (t:=tree j) (kn:=[]) 0 (by intro m _ p hp; simp at hp) (hok j) (by rw [hs]; simp);obtain⟨n2,h3⟩:=V5 h2
    have:fD tree (max n n2+1) j xs=some ys:=by rw [GR,hn _ (Nat.le_max_left _ _),hs];exact GU hok (Nat.le_max_right n n2) _ _ _ h3
    rw [abS hok this] at h;simp at h
end
theorem ajB {S:alY} {j:Nat} (h:BI S.t j=none):ZM [] (S.sys.tree j)=true:=by
 have:S.sys.tree j= .fail:=by unfold Sys.tree;show (match BI S.t j with |none=>T.fail|some e=>sZ S.sys e)=_;rw [h]
 rw [this];rfl
def arL (j:Nat):List Nat->Bool
 |[]=>false
 |i::l=>match Nat.beq i j with
  |true=>true
  |false=>arL j l
theorem YD {j:Nat}: ∀{l:List Nat},arL j l=true->j∈l
 |[],h=>by simp [arL] at h
 |i::l,h=>by
  simp only [arL] at h;split at h
  ·rename_i hb;rw [aJj hb];simp
  ·exact aKY _ (YD h)
def aC8 (t:Nat->Option FE) (N:Nat) (l:List Nat):Bool:=(List.range N).all fun k=>match t k with
 |none=>true
 |some f=>(List.range (f.loops.length+1)).all fun i=>arL (50*k+i) l
theorem cov {t:Nat->Option FE} {N:Nat} {l:List Nat} (h:aC8 t N l=true) (hN: ∀k,N<=k->t k=none) {j:Nat} {e:IY} (he:BI t j=some e):j∈l:=by
 unfold BI at he;split at he
 ·simp at he
 ·rename_i f hf
  have hk:j / 50<N:=by
   rcases aJx (j / 50) N with h1|h1
   ·exact h1
   ·rw [hN _ h1] at hf; simp at hf
  have:=aJD.1 h _ (aJ8.2 hk);rw [hf] at this
  have hm:j % 50<f.loops.length+1:=by
   split at he
   ·omega
   ·rename_i i hi;split at he
    ·rename_i x hx;rw [dD] at hx;have:=(aJC.1 hx).1;omega
    ·simp at he
  have:=YD (aJD.1 this _ (aJ8.2 hm));rwa [show 50*(j / 50)+j % 50=j by omega] at this
theorem arA {α:Type} {n:Nat} {t:Tr α} {k:Nat} (h:n<=k):lim n t k=none:=by unfold lim;rw [aK3 h]
section
variable {F:uT} {lo:Nat->Int} {ρ:Nat->Int} {xs:List Int}
theorem dP (c:SB) (a b:T Lf):dX ρ (sp c a b)=if c.den ρ=true then dX ρ a else dX ρ b:=rfl
theorem kR (l:List SE):dX ρ (ou l)= .out (l.map (SE.den ρ)):=rfl
theorem pR (j:Nat) (l:List SE):dX ρ (ju j l)= .jump j (l.map (SE.den ρ)):=rfl
theorem Ag:dX ρ fl= .no:=rfl
theorem aY {i:Nat} (h:i<900):(SE.aP i).den (bQ F lo)=lo i:=wP h
theorem aQ (x:Int):low (x::xs) 0=x:=rfl
theorem aT (x:Int) (i:Nat):low (x::xs) (i+1)=low xs i:=rfl
theorem bT (n:Int):(SE.lit n).den ρ=n:=rfl
theorem jG (d:D):(SE.dat d).den ρ=enc d:=rfl
theorem den_add (a b:SE):(SE.add a b).den ρ=a.den ρ+b.den ρ:=rfl
theorem aBk (a b:SE):(SE.sub a b).den ρ=a.den ρ-b.den ρ:=rfl
theorem Dp (a:SE):(wr a).den ρ=IntKind.i64.wrap (a.den ρ):=rfl
theorem JG (a:SE):(nm a).den ρ=(dec (a.den ρ)).n:=rfl
theorem PV (a:SE):(mk a).den ρ=enc (.i (a.den ρ)):=rfl
theorem iK (a:SE):(ln a).den ρ=((dec (a.den ρ)).l.length:Int):=rfl
theorem avY (j:Nat) (a:SE):(ce j a).den ρ=enc ((dec (a.den ρ)).hd j):=rfl
theorem JH (a b:SE):(el a b).den ρ=enc ((dec (a.den ρ)).at (b.den ρ)):=rfl
theorem PW (a b:SE):(cn a b).den ρ=enc (.p (dec (a.den ρ)) (dec (b.den ρ))):=rfl
theorem PU (o:iY) (a b:SE):(SE.op o a b).den ρ=o.den (a.den ρ) (b.den ρ):=rfl
theorem iW (j:Nat) (l:List SE):(a0 j l).den (bQ F lo)=if (F j (l.map (SE.den (bQ F lo)))).isSome=true then 1 else 0:=by unfold a0;show bQ F lo (lI (2*j) ((iU l).den (bQ F lo)))=_;rw [lY,(oV F lo j _).1]
theorem iE (j:Nat) (l:List SE) (i:Nat):(rr j l i).den (bQ F lo)=low ((F j (l.map (SE.den (bQ F lo)))).getD []) i:=by unfold rr uZ;show (dec (enc ((dec (bQ F lo (lI (2*j+1) ((iU l).den (bQ F lo))))).hd i))).n=_;rw [lY,(oV F lo j _).2,aF];simp only [qY,aF,D.hd,aW,aJF];unfold low;rw [aKB];cases ((F j (l.map (SE.den (bQ F lo)))).getD [])[i]?<;>rfl
theorem jD (a b:SE):((SB.eq a b).den ρ=true)=(a.den ρ=b.den ρ):=by simp [SB.den]
theorem oZ (a b:SE):((SB.lt a b).den ρ=true)=(a.den ρ<b.den ρ):=by simp [SB.den]
theorem NV (a:SB):((SB.not a).den ρ=true)= ¬(a.den ρ=true):=by simp [SB.den]
end
def iM:IntKind->Int->Prop
 | .i64,n=> -9223372036854775808<=n/\n<=9223372036854775807
 | .u8,n=>0<=n/\n<=255
 |_,_=>True
def xC:Nat->Nat
 |0=>8
 |1=>8
 |2=>16
 |3=>56
 |4=>64
 |5=>64
 |6=>56
 |7=>80
 |8=>64
 |9=>40
 |10=>24
 |11=>24
 |12=>16
 |13=>40
 |14=>1
 |15=>24
 |16=>48
 |_=>1
theorem awS (t:Nat):1<=xC t:=by unfold xC;split<;>omega
inductive Wd:CK->D->Prop where
 |int (k:IntKind) (n:Int) (h:iM k n):Wd (.int k) (.i n)
 |bool (b:Bool):Wd .bool (.i (if b then 1 else 0))
 |str (s:ByteArray) (h:s.size<=140737488351232):Wd .str (Bo s)
 |nil (t:Nat):Wd (.sl t) (.i 1)
 |non (t:Nat):Wd (.sl t) (.i 2)
 |one (t:Nat) (c:CK) (ds:List D) (hr:rowOf t= .one c) (hn:ds≠[]) (hm:ds.length*xC t<=140737488351232) (h: ∀d∈ds,Wd c d):Wd (.sl t) (dL ds)
 |many (t:Nat) (cs:List CK) (rows:List (List D)) (hr:rowOf t= .many cs) (hn:rows≠[]) (hm:rows.length*xC t<=140737488351232) (hl: ∀r∈rows,r.length=cs.length)
  (h: ∀r∈rows,∀(j:Nat) (d:D) (c:CK),r[j]?=some d->cs[j]?=some c->Wd c d):Wd (.sl t) (dL (rows.map dL))
def Sh (d:D):Prop:=d= .i 1\/d= .i 2\/(d=dL d.l/\d.l≠[])
theorem Wd.sh {t:Nat} {d:D} (h:Wd (.sl t) d):Sh d:=by
 cases h with
 |nil=>exact .inl rfl
 |non=>exact .inr (.inl rfl)
 |one _ c ds hr hn hm h=>exact .inr (.inr ⟨by rw [aW],by rw [aW]; exact hn⟩)
 |many _ cs rows hr hn hm hl h=>exact .inr (.inr ⟨by rw [aW],by rw [aW]; simpa using hn⟩)
theorem Wd.i {k:IntKind} {d:D} (h:Wd (.int k) d): ∃n,d= .i n/\iM k n:=by
 cases h with
 |int _ n h=>exact⟨n,rfl,h⟩
theorem Wd.b {d:D} (h:Wd .bool d):d= .i 0\/d= .i 1:=by
 cases h with
 |bool b=>cases b<;>simp
theorem Wd.s {d:D} (h:Wd .str d): ∃s,d=Bo s:=by
 cases h with
 |str s=>exact⟨s,rfl⟩
theorem Wd.room {t:Nat} {d:D} (h:Wd (.sl t) d):d.l.length*xC t<=140737488351232:=by
 cases h with
 |nil=>simp [D.l]
 |non=>simp [D.l]
 |one _ c ds hr hn hm h=>rw [aW]; exact hm
 |many _ cs rows hr hn hm hl h=>rw [aW,aJZ]; exact hm
theorem Wd.len {t:Nat} {d:D} (h:Wd (.sl t) d):d.l.length<=140737488351232:=
 aJO (Nat.le_mul_of_pos_right _ (awS t)) h.room
theorem Wd.el1 {t:Nat} {c:CK} {d:D} (h:Wd (.sl t) d) (hr:rowOf t= .one c): ∀x∈d.l,Wd c x:=by
 cases h with
 |nil=>intro x hx; simp [D.l] at hx
 |non=>intro x hx; simp [D.l] at hx
 |one _ c' ds hr' hn hm h=> rw [hr] at hr';simp only [Row.one.injEq] at hr';subst hr';intro x hx;rw [aW] at hx;exact h x hx
 |many _ cs rows hr' hn hm hl h=>rw [hr] at hr'; simp at hr'
theorem Wd.elN {t:Nat} {cs:List CK} {d:D} (h:Wd (.sl t) d) (hr:rowOf t= .many cs): ∀x∈d.l,∃r,x=dL r/\r.length=cs.length/\∀(j:Nat) (y:D) (c:CK),r[j]?=some y->cs[j]?=some c->Wd c y:=by
 cases h with
 |nil=>intro x hx; simp [D.l] at hx
 |non=>intro x hx; simp [D.l] at hx
 |one _ c' ds hr' hn hm h=>rw [hr] at hr'; simp at hr'
 |many _ cs' rows hr' hn hm hl h=> rw [hr] at hr';simp only [Row.many.injEq] at hr';subst hr';intro x hx;rw [aW] at hx;obtain⟨r,h1,rfl⟩:=aJE.1 hx;exact⟨r,rfl,hl r h1,fun j y c h2 h3=>h r h1 j y c h2 h3⟩
def isDecl (x:D):Prop:= ∃(k n ln:Int) (s s':ByteArray),x=dL [.i k,Bo s,.i n,Bo s',.i ln]/\iM .u8 k/\iM .i64 n/\iM .i64 ln
def Ec (x:D):Prop:= ∃(o c d g:Int) (r v:D),x=dL [.i o,.i c,.i d,.i g,r,v]/\iM .i64 o/\iM .i64 c/\(d=0\/d=1)/\iM .i64 g/\Wd (.sl 0) r/\Wd (.sl 0) v
theorem five {α:Type} {r:List α} (h:r.length=5): ∃a b c d e,r= [a,b,c,d,e]:=by
 match r,h with
 |[a,b,c,d,e],_=>exact⟨a,b,c,d,e,rfl⟩
theorem six {α:Type} {r:List α} (h:r.length=6): ∃a b c d e f,r= [a,b,c,d,e,f]:=by
 match r,h with
 |[a,b,c,d,e,f],_=>exact⟨a,b,c,d,e,f,rfl⟩
theorem Wd.decl {d:D} (h:Wd (.sl 3) d): ∀x∈d.l,isDecl x:=by intro x hx;obtain⟨r,rfl,hl,hc⟩:=h.elN (cs:=[.int .u8,.str,.int .i64,.str,.int .i64]) rfl x hx;obtain⟨a,b,c,d,e,rfl⟩:=five hl;obtain⟨k,rfl,hk⟩:=(hc 0 _ _ rfl rfl).i;obtain⟨s,rfl⟩:=(hc 1 _ _ rfl rfl).s;obtain⟨n,rfl,hn⟩:=(hc 2 _ _ rfl rfl).i;obtain⟨s',rfl⟩:=(hc 3 _ _ rfl rfl).s;obtain⟨ln,rfl,hln⟩:=(hc 4 _ _ rfl rfl).i;exact⟨k,n,ln,s,s',rfl,hk,hn,hln⟩
theorem Wd.thing {d:D} (h:Wd (.sl 7) d): ∀x∈d.l,Ec x:=by
 intro x hx;obtain⟨r,rfl,hl,hc⟩:=h.elN (cs:=[.int .i64,.int .i64,.bool,.int .i64,.sl 0,.sl 0]) rfl x hx;obtain⟨a,b,c,d,e,f,rfl⟩:=six hl;obtain⟨o,rfl,ho⟩:=(hc 0 _ _ rfl rfl).i;obtain⟨k,rfl,hk⟩:=(hc 1 _ _ rfl rfl).i;obtain⟨g,rfl,hg⟩:=(hc 3 _ _ rfl rfl).i;rcases (hc 2 _ _ rfl rfl).b with rfl|rfl
 ·exact⟨o,k,0,g,e,f,rfl,ho,hk,.inl rfl,hg,hc 4 _ _ rfl rfl,hc 5 _ _ rfl rfl⟩
 ·exact⟨o,k,1,g,e,f,rfl,ho,hk,.inr rfl,hg,hc 4 _ _ rfl rfl,hc 5 _ _ rfl rfl⟩
theorem mY {z:Int} (h1: -9223372036854775808<=z) (h2:z<=9223372036854775807):IntKind.i64.wrap z=z:=IntWalk.i64_in z ⟨h1,h2⟩
theorem aZ {n:Nat} (h:n<9223372036854775807):IntKind.i64.wrap ((n:Int)+1)=((n+1:Nat):Int):=by rw [mY (by omega) (by omega)]; omega
theorem n_i (n:Int):(D.i n).n=n:=rfl
theorem l_p (a b:D):(D.p a b).l=a::b.l:=rfl
theorem wX (n:Int):(D.i n).l= []:=rfl
theorem eP (l:List D) (j:Nat):(dL l).hd j=(l[j]?).getD (.i 0):=by unfold D.hd; rw [aW]
theorem lN (d:D) (i:Nat):d.at (i:Int)=(d.l[i]?).getD (.i 0):=rfl
theorem aX {d:D} {i:Nat} (h:i<d.l.length):d.at (i:Int)=d.l[i]:=by rw [lN,aJu h];rfl
end Go.As
end
section
namespace Go.As
open Go Go.RowKit
theorem add_add (a:Addr) (m n:Nat):(a.add m).add n=a.add (m+n):=by
 unfold Addr.add;by_cases h1:m=0
 ·subst h1; simp
 ·by_cases h2:n=0
  ·subst h2; simp
  ·simp [h1,h2,aJP]
def pF (i:Nat):List CK:=match rowOf i with
 | .one c=>[c]
 | .many cs=>cs
def O7 (F:TypeId->Option (List CK)) (P:Program):List Field->Nat->Nat->Option (List CK)
 |[],o,tot=>if o=tot then some [] else none
 |f::fs,o,tot=>match F f.type with
  |none=>none
  |some cs=>if f.offset=o/\P.cellsOf f.type=cs.length then (match O7 F P fs (o+cs.length) tot with
   |none=>none
   |some l=>some (cs++l)) else none
def zK (P:Program) (own:TypeId->Option Nat):Nat->TypeId->Option (List CK)
 |0,_=>none
 |n+1,t=>match P.underlying t with
  |some .bool=>some [.bool]
  |some (.int k)=>some [.int k]
  |some .string=>some [.str]
  |some (.slice _)=>match own t with
   |some i=>some [.sl i]
   |none=>none
  |some (.struct fs)=>O7 (zK P own n) P fs.toList 0 (P.cellsOf t)
  |some (.array m e)=>match zK P own n e with
   |some cs=>if P.cellsOf e=cs.length/\P.cellsOf t=m*cs.length then some (List.replicate m cs).flatten else none
   |none=>none
  |_=>none
def axK (P:Program) (own:TypeId->Option Nat):Prop:= ∀t i,own t=some i->∃e n,P.underlying t=some (.slice e)/\zK P own n e=some (pF i)/\P.cellsOf e=(pF i).length/\xC i<=P.bytesOf e/\0<(pF i).length
inductive Rs (ro:Nat->Prop) (h:Array Obj):List CK->List D->List Value->Prop where
 |nil:Rs ro h [] [] []
 |cons {c:CK} {d:D} {v:Value} {cs:List CK} {ds:List D} {vs:List Value} (r:Rd ro h c d v) (w:Wd c d) (t:Rs ro h cs ds vs):Rs ro h (c::cs) (d::ds) (v::vs)
section
variable {ro:Nat->Prop} {h:Array Obj}
theorem Rs.append {cs cs':List CK} {ds ds':List D} {vs vs':List Value} (a:Rs ro h cs ds vs) (b:Rs ro h cs' ds' vs'):Rs ro h (cs++cs') (ds++ds') (vs++vs'):=by
 induction a with
 |nil=>exact b
 |cons r w _ ih=>exact .cons r w ih
theorem Rs.len {cs:List CK} {ds:List D} {vs:List Value} (a:Rs ro h cs ds vs):ds.length=cs.length/\vs.length=cs.length:=by
 induction a with
 |nil=>exact⟨rfl,rfl⟩
 |cons r w _ ih=>exact⟨by simp [ih.1],by simp [ih.2]⟩
theorem Rs.at {cs:List CK} {ds:List D} {vs:List Value} (a:Rs ro h cs ds vs): ∀{j:Nat} {d:D} {c:CK},ds[j]?=some d->cs[j]?=some c->∃v,vs[j]?=some v/\Rd ro h c d v/\Wd c d:=by
 induction a with
 |nil=>intro j d c h1 _; simp at h1
 |cons r w _ ih=>
  intro j d c h1 h2
  cases j with
  |zero=> simp only [aJn,aJf] at h1 h2;subst h1 h2;exact⟨_,rfl,r,w⟩
  |succ j=> simp only [aJk] at h1 h2;obtain⟨v,h3,h4⟩:=ih h1 h2;exact⟨v,by simpa using h3,h4⟩
end
theorem aBu {l:List Nat} {m:Nat} (h:l.all (·<=m)=true): ∀x∈l,x<=m:=fun x hx=>by simpa using aJD.1 h x hx
theorem abH {l:List Nat} {m:Nat} (h: ∀x∈l,x<=m):l.all (·<=m)=true:=aJD.2 fun x hx=>by simpa using h x hx
theorem aBt {l l':List Nat} {m:Nat} (h:l.all (·<=m)=true) (s: ∀x∈l',x∈l):l'.all (·<=m)=true:=abH fun x hx=>aBu h x (s x hx)
theorem weightsAll_mem {H:Type} {P:Program} {e:TypeId}: ∀{l:List (DataW H)} {d:DataW H},d∈l->∀x∈d.weights P e,x∈DataW.weightsAll P e l
 |[],_,h,_,_=>by simp at h
 |d'::l,d,h,x,hx=>by
  simp only [DataW.weightsAll,aJ0];rcases aJq.1 h with rfl|h
  ·exact .inl hx
  ·exact .inr (weightsAll_mem h x hx)
section
variable {P:Program} {own:TypeId->Option Nat} (ok:axK P own) {H:Type} {en:TypeId×Value->H} {W:World}
abbrev roW (W:World):Nat->Prop:=fun b=>b<W.heap.size
theorem aiO {b o:Nat} {v:Value} (h:W.cell? ⟨b,o,none⟩ = some v):b<W.heap.size:=by
 rw [uN] at h;unfold hcell at h;split at h
 ·rename_i hb;exact (aJK.1 hb).1
 ·simp at h
def Reads (P:Program) (own:TypeId->Option Nat) (en:TypeId×Value->H) (W:World) (fuel:Nat):Prop:=
 ∀(t:TypeId) (n:Nat) (Rx:List CK) (cs:List Value) (x:DataW H×List MemPlace),zK P own n t=some Rx->DataW.trod en P W 0 (fun _=>true) true fuel t cs=some x->(x.1.weights P t).all (·<=reachBytes)=true->∃ds,Rs (roW W) W.heap Rx ds cs
theorem Ko {fuel:Nat} (ih:Reads P own en W fuel) {n:Nat} {cs:List Value} {tot:Nat} (hl:cs.length=tot): ∀(fs:List Field) (o:Nat) (Rx:List CK) (xs:List (DataW H×List MemPlace)),O7 (zK P own n) P fs o tot=some Rx->xs.length=fs.length->
 (∀(i:Nat) (f:Field),fs[i]?=some f->DataW.trod en P W 0 (fun _=>true) true fuel f.type ((cs.drop f.offset).take (P.cellsOf f.type))=xs[i]?)->
 (DataW.weightsEach P (fs.map (·.type)) (xs.map (·.1))).all (·<=reachBytes)=true->∃ds,Rs (roW W) W.heap Rx ds (cs.drop o)
 |[],o,Rx,xs,hf,_,_,_=>by
  simp only [O7] at hf;split at hf
  ·rename_i ho;simp only [aJf] at hf;subst hf;rw [aJ7 (by omega)];exact⟨[],.nil⟩
  ·simp at hf
 |f::fs,o,Rx,[],_,hx,_,_=>by simp at hx
 |f::fs,o,Rx,x::xs,hf,hx,ht,hw=>by
  simp only [O7] at hf;split at hf
  ·simp at hf
  ·rename_i c1 h1;split at hf
   ·rename_i ho;split at hf
    ·simp at hf
    ·rename_i l hl2;simp only [aJf] at hf;subst hf;have h0:=ht 0 f rfl;rw [ho.1,ho.2] at h0;simp only [aJz,DataW.weightsEach,aLk,aJh] at hw;obtain⟨ds,r1⟩:=ih f.type n c1 _ x h1 h0 hw.1;obtain⟨ds',r2⟩:=Ko ih hl fs (o+c1.length) l xs hl2 (by simpa using hx) (fun i g hg=>ht (i+1) g (by simpa using hg)) hw.2;refine⟨ds++ds',?_⟩
     have e:cs.drop o=(cs.drop o).take c1.length++cs.drop (o+c1.length):=by rw [<- aLF,aKp]
     rw [e];exact r1.append r2
   ·simp at hf
include ok in
theorem X9 {fuel:Nat} (ih:Reads P own en W fuel) {t e:TypeId} {i:Nat} (ht:P.underlying t=some (.slice e)) (ho:own t=some i) {cs:List Value} {x:DataW H×List MemPlace} (hx:DataW.trod en P W 0 (fun _=>true) true (fuel+1) t cs=some x) (hw:(x.1.weights P t).all (·<=reachBytes)=true) :
 ∃d v,cs= [v]/\Rd (roW W) W.heap (.sl i) d v/\Wd (.sl i) d:=by
 obtain⟨e',nf,ht',hfl,hce,hby,hpos⟩:=ok t i ho;rw [ht] at ht';simp only [aJf,TypeDesc.slice.injEq] at ht';subst ht';rcases DataW.trod_slice ht hx with ⟨rfl,rfl⟩|⟨a,len,cap,elems,rest,n,hn,rfl,rfl,_,hlc,_,hlen,hel,_,_⟩
 ·exact⟨.i 1,_,rfl,.nil i,.nil i⟩
 ·simp only [Nat.succ.injEq] at hn;subst hn;rcases aKy len with h0|h0
  ·subst h0;exact⟨.i 2,_,rfl,.non i a cap,.non i⟩
  ·simp only [DataW.weights,ht,List.all_cons,aLk,aJh,decide_eq_true_eq,aJZ] at hw
   have row: ∀k,k<len->∃cs ds,W.cells? 0 (a.add (k*(pF i).length)) (pF i).length=some cs/\Rs (roW W) W.heap (pF i) ds cs:=by intro k hk;have he:=hel k hk;rw [aJu (by omega),hce,aK8] at he;obtain⟨cs,h1,h2⟩:=he;obtain⟨ds,hr⟩:=ih e nf (pF i) cs _ hfl h2 (aBt hw.2.1 (weightsAll_mem (List.mem_map_of_mem (aJm _))));exact⟨cs,ds,h1,hr⟩
   obtain⟨b,o,spot⟩:=a
   have hspot:spot=none:=by obtain⟨cs,ds,h1,hr⟩:=row 0 h0;obtain⟨_,h4,h5⟩:=World.cells?_some h1;have:=h5 0 hpos;rw [aJu (by omega)] at this;simpa [Addr.add] using World.cell?_spot this
   subst hspot
   have cell: ∀k,k<len->∃ds vs,Rs (roW W) W.heap (pF i) ds vs/\∀j,j<(pF i).length->hcell W.heap b (o+k*(pF i).length+j)=vs[j]?:=by
    intro k hk;obtain⟨cs,ds,h1,hr⟩:=row k hk;obtain⟨_,h4,h5⟩:=World.cells?_some h1;refine⟨ds,cs,hr,fun j hj=>?_⟩;have:=h5 j hj;rw [add_add] at this;have e2:(Addr.mk b o none).add (k*(pF i).length+j)=⟨b,o+k*(pF i).length+j,none⟩:=by simp [Addr.add,aJP]
    rw [e2,uN] at this;exact this
   have hb:b<W.heap.size:=by obtain⟨ds,vs,hr,hc⟩:=cell 0 h0;have:=hc 0 hpos;rw [aJu (by rw [hr.len.2]; exact hpos),<- uN] at this;exact aiO this
   have aCh:len*xC i<=140737488351232:=by
    have h1:(elems.length+rest.length)*P.bytesOf e<=reachBytes:=hw.1
    have h2:len*xC i<=(elems.length+rest.length)*P.bytesOf e:=aKR (by omega) hby
    have h3:reachBytes=140737488351232:=rfl;omega
   classical
   let ds:Nat->List D:=fun k=>if h:k<len then (cell k h).choose else [];let vs:Nat->List Value:=fun k=>if h:k<len then (cell k h).choose_spec.choose else []
   have spec: ∀k,k<len->Rs (roW W) W.heap (pF i) (ds k) (vs k)/\∀j,j<(pF i).length->hcell W.heap b (o+k*(pF i).length+j)=(vs k)[j]?:=by intro k hk;have e1:ds k=(cell k hk).choose:=dif_pos hk;have e2:vs k=(cell k hk).choose_spec.choose:=dif_pos hk;rw [e1,e2];exact (cell k hk).choose_spec.choose_spec
   have get: ∀{k:Nat} {r:List D},((List.range len).map ds)[k]?=some r->k<len/\r=ds k:=by
    intro k r hk;rw [aJF] at hk
    have hk':k<len:=by
     rcases aJx k len with h|h
     ·exact h
     ·rw [aJ6 (by simpa using h)] at hk; simp at hk
    rw [aKA hk'] at hk;simp only [aJU,aJf] at hk;exact⟨hk',hk.symm⟩
   cases hrow:rowOf i with
   |one c=>
    have hks:pF i= [c]:=by unfold pF; rw [hrow]
    have aGU: ∀{k:Nat} {d:D},((List.range len).map fun k=>(ds k).headD (.i 0))[k]?=some d->k<len/\d=(ds k).headD (.i 0):=by
     intro k d hk;rw [aJF] at hk
     have hk':k<len:=by
      rcases aJx k len with h|h
      ·exact h
      ·rw [aJ6 (by simpa using h)] at hk; simp at hk
     rw [aKA hk'] at hk;simp only [aJU,aJf] at hk;exact⟨hk',hk.symm⟩
    have sp1: ∀k,k<len->∃d v,ds k= [d]/\hcell W.heap b (o+k)=some v/\Rd (roW W) W.heap c d v/\Wd c d:=by
     intro k hk;obtain⟨hr,hc⟩:=spec k hk;rw [hks] at hr hc
     match hdk:ds k,hvk:vs k,hr with
     |[d],[v],.cons r w .nil=> have:=hc 0 (by simp);rw [hvk] at this;exact⟨d,v,rfl,by simpa using this,r,w⟩
    have e:len=((List.range len).map fun k=>(ds k).headD (.i 0)).length:=by simp
    have r:=Rd.one (ro:=roW W) (h:=W.heap) i c b o cap ((List.range len).map fun k=>(ds k).headD (.i 0)) (fun k=>(vs k).headD undef) hrow (by rw [<- e]; exact hlc) hb
     (fun k d hd=>by
      obtain⟨hk,rfl⟩:=aGU hd;obtain⟨hr,hc⟩:=spec k hk;rw [hks] at hr hc;have:=hc 0 (by simp)
      match hdk:ds k,hvk:vs k,hr with
      |[d],[v],.cons r w .nil=>
       rw [hvk] at this
       simpa using this)
     (fun k d hd=>by
      obtain⟨hk,rfl⟩:=aGU hd;obtain⟨hr,hc⟩:=spec k hk;rw [hks] at hr
      match hdk:ds k,hvk:vs k,hr with
      |[d],[v],.cons r w .nil=>exact r)
    rw [<- e] at r;refine⟨_,_,rfl,r,.one i c _ hrow (fun h=>by have:=congrArg List.length h; simp at this; omega) (by rw [<- e]; exact aCh) fun d hd=>?_⟩;obtain⟨k,hk,rfl⟩:=aJE.1 hd;obtain⟨d,v,h1,_,_,w⟩:=sp1 k (by simpa using hk);rw [h1];exact w
   |many Rx=>
    have hks:pF i=Rx:=by unfold pF; rw [hrow]
    have e:len=((List.range len).map ds).length:=by simp
    have hlr: ∀r∈(List.range len).map ds,r.length=Rx.length:=by intro r hr;obtain⟨k,hk,rfl⟩:=aJE.1 hr;have:=(spec k (by simpa using hk)).1.len.1;rw [hks] at this;exact this
    have r:=Rd.many (ro:=roW W) (h:=W.heap) i Rx b o cap ((List.range len).map ds) (fun k j=>((vs k)[j]?).getD undef) hrow (by rw [<- e]; exact hlc) hb hlr
     (fun k r j d hr hj=>by
      obtain⟨hk,rfl⟩:=get hr;obtain⟨hrs,hc⟩:=spec k hk;rw [hks] at hrs hc
      have hj':j<Rx.length:=by have:=(aJC.1 hj).1;rw [hrs.len.1] at this;exact this
      rw [hc j hj',aJu (by rw [hrs.len.2]; exact hj')]
      rfl)
     (fun k r j d c hr hj hcj=>by
      obtain⟨hk,rfl⟩:=get hr;obtain⟨hrs,hc⟩:=spec k hk;rw [hks] at hrs;obtain⟨v,h1,h2,_⟩:=hrs.at hj hcj;show Rd (roW W) W.heap c d (((vs k)[j]?).getD undef);rw [h1]
      exact h2)
    rw [<- e] at r;refine⟨_,_,rfl,r,.many i Rx _ hrow (fun h=>by have:=congrArg List.length h; simp at this; omega) (by rw [<- e]; exact aCh) hlr fun r hr j d c hj hcj=>?_⟩;obtain⟨k,hk,rfl⟩:=aJE.1 hr;have hrs:=(spec k (by simpa using hk)).1;rw [hks] at hrs;obtain⟨v,_,_,h3⟩:=hrs.at hj hcj;exact h3
theorem Oa {fuel:Nat} (ih:Reads P own en W fuel) {n:Nat} {cs:List Value} {e:TypeId} {c1:List CK} (h1:zK P own n e=some c1): ∀(xs:List (DataW H×List MemPlace)) (i:Nat),cs.length=(i+xs.length)*c1.length->
 (∀(j:Nat),j<xs.length->DataW.trod en P W 0 (fun _=>true) true fuel e ((cs.drop ((i+j)*c1.length)).take c1.length)=xs[j]?)->
 (DataW.weightsAll P e (xs.map (·.1))).all (·<=reachBytes)=true->∃ds,Rs (roW W) W.heap (List.replicate xs.length c1).flatten ds (cs.drop (i*c1.length))
 |[],i,hl,_,_=>by rw [aJ7 (by rw [hl]; simp)];exact⟨[],.nil⟩
 |x::xs,i,hl,ht,hw=>by
  have h0:=ht 0 (by simp);rw [aJG] at h0;simp only [aJz,DataW.weightsAll,aLk,aJh] at hw;obtain⟨ds,r1⟩:=ih e n c1 _ x h1 h0 hw.1
  obtain⟨ds',r2⟩:=Oa ih h1 xs (i+1) (by rw [hl,aJr]; congr 1; omega) (fun j hj=>by
   have:=ht (j+1) (by simpa using hj);rw [show i+1+j=i+(j+1) by omega]
   simpa using this) hw.2
  refine⟨ds++ds',?_⟩
  have e1:cs.drop (i*c1.length)=(cs.drop (i*c1.length)).take c1.length++cs.drop ((i+1)*c1.length):=by rw [Nat.succ_mul,<- aLF,aKp]
  rw [e1,aJr,aLG,List.flatten_cons];exact r1.append r2
include ok in
theorem VD: ∀fuel:Nat,Reads P own en W fuel
 |0=>fun t n Rx cs x _ hx _=>by simp [DataW.trod] at hx
 |fuel+1=>fun t n Rx cs x hf hx hw=>by
  cases n with
  |zero=>simp [zK] at hf
  |succ n=>
   unfold zK at hf;split at hf
   ·rename_i ht;simp only [aJf] at hf;subst hf;obtain⟨b,rfl,_⟩:=DataW.trod_bool ht hx;exact⟨_,.cons (.bool b) (.bool b) .nil⟩
   ·rename_i k ht;simp only [aJf] at hf;subst hf;obtain⟨z,rfl,_,hwf⟩:=DataW.trod_int ht hx;refine⟨_,.cons (.int k z) (.int k z ?_) .nil⟩;simp only [Lit.wf,aJh,decide_eq_true_eq] at hwf;cases k<;>first |exact hwf|trivial
   ·rename_i ht;simp only [aJf] at hf;subst hf;obtain⟨s,rfl,rfl,_⟩:=DataW.trod_string ht hx;refine⟨_,.cons (.str s) (.str s ?_) .nil⟩;simp only [DataW.weights,List.all_cons,List.all_nil,Bool.and_true,decide_eq_true_eq] at hw;exact hw
   ·rename_i e ht;split at hf
    ·rename_i i ho;simp only [aJf] at hf;subst hf;obtain⟨d,v,rfl,r,w⟩:=X9 ok (VD fuel) ht ho hx hw;exact⟨_,.cons r w .nil⟩
    ·simp at hf
   ·rename_i fs ht;obtain⟨xs,m,hm,rfl,hl,hxl,hxs⟩:=DataW.trod_struct ht hx;simp only [Nat.succ.injEq] at hm;subst hm
    have hw':(DataW.weightsEach P (fs.toList.map (·.type)) (xs.map (·.1))).all (·<=reachBytes)=true:=by simp only [DataW.weights,ht] at hw;exact hw
    have:=Ko (VD fuel) hl fs.toList 0 Rx xs hf (by simpa using hxl) (fun i f hi=>hxs i f (by simpa using hi)) hw';simpa using this
   ·rename_i m e ht;split at hf
    ·rename_i c1 h1;split at hf
     ·rename_i hce;simp only [aJf] at hf;subst hf;obtain⟨xs,m',hm,rfl,hl,hxl,hxs⟩:=DataW.trod_array ht hx;simp only [Nat.succ.injEq] at hm;subst hm;subst hxl
      have hw':(DataW.weightsAll P e (xs.map (·.1))).all (·<=reachBytes)=true:=by simp only [DataW.weights,ht] at hw;exact hw
      rw [hce.2] at hl
      have:=Oa (VD fuel) h1 xs 0 (by rw [hl,aJp]) (fun j hj=>by
       rw [aJp];have:=hxs j hj;rw [hce.1] at this
       exact this) hw'
      simpa using this
     ·simp at hf
    ·simp at hf
   ·simp at hf
end
theorem VN {P:Program} {w:World} {r:Reach} {base:Nat} {t:TypeId} {v:Value} {n:Nat} {e:TypeId} (ht:P.underlying t=some (.array n e)) (h:Value.okWide P w r base t v): ∃cs,v= .agg cs/\cs.size=P.cellsOf t:=by simp only [Value.okWide,ht] at h;obtain⟨cs,h1,h2,_⟩:=h;exact⟨cs,h1,h2⟩
end Go.As
end
section
namespace Go.As.Try
open Go hiding Stat
open Go.As Go.Proofs
set_option maxRecDepth 100000
abbrev nO {α:Type} (l r:Tr α):Tr α:=.node none l r
abbrev nS {α:Type} (v:α) (l r:Tr α):Tr α:=.node (some v) l r
abbrev nL {α:Type} (v:α):Tr α:=.node (some v) .nil .nil
abbrev hP (m n:Nat) (l:List Nat):Ld:=⟨m,.pa,n,l⟩
abbrev hR (m n:Nat) (l:List Nat):Ld:=⟨m,.r,n,l⟩
abbrev hE (m n:Nat) (l:List Nat):Ld:=⟨m,.e,n,l⟩
abbrev tF:TI:=⟨.func,1,8,[.CW],false,none⟩
abbrev zI:AV:=.int .i64 (.lit 0)
abbrev zU:AV:=.int .u8 (.lit 0)
def tab:Tr TI:=(nO (nS tF (nS ⟨.int .i64,1,8,[zI],false,none⟩ (nS ⟨.struct [(0,2,1),(1,3,1),(2,4,1),(3,6,1)],4,24,[zI,zI,.bool (.lit false),zU],true,none⟩ (nS ⟨.pointer 270,1,8,[.lD],false,none⟩ (nS tF (nO (nL tF) (nL tF)) (nS tF (nL tF) (nL ⟨.pointer 171,1,8,[.lD],false,none⟩))) (nS tF (nO (nS ⟨.struct [(0,3,1),(1,2,1),(2,4,1),(3,2,1),(4,27,1),(5,26,1)],6,80,[zI,zI,.bool (.lit false),zI,.aA,.aA],false,none⟩ (nL ⟨.array 0 16,0,0,[],false,none⟩) .nil) (nL tF)) (nS ⟨.int .u8,1,1,[zU],false,none⟩ (nL tF) (nL tF)))) (nS ⟨.slice 52,1,24,[.aA],false,none⟩ (nS ⟨.int .i64,1,8,[zI],false,none⟩ (nS tF (nS ⟨.pointer 137,1,8,[.lD],false,none⟩ (nL tF) .nil) (nL ⟨.struct [(0,3,1),(1,149,1),(2,2,1),(3,33,1),(4,75,4)],8,80,[zI,.lD,zI,.aA,zU,zI,zI,zI],false,none⟩)) (nS tF (nL tF) (nL ⟨.array 2 123,2,48,[.aA,.aA],false,none⟩))) (nS ⟨.slice 60,1,24,[.aA],false,none⟩ (nS ⟨.struct [(0,39,1),(1,3,1)],2,16,[zI,zI],true,none⟩ (nS ⟨.pointer 100,1,8,[.lD],false,none⟩ (nL ⟨.int .i32,1,4,[.int .i32 (.lit (0))],false,none⟩) .nil) (nL ⟨.pointer 212,1,8,[.lD],false,none⟩)) (nS ⟨.int .u8,1,1,[zU],false,none⟩ (nL tF) (nL tF))))) (nS ⟨.string,1,16,[.str []],false,none⟩ (nS ⟨.struct [(0,17,1)],1,8,[.lD],false,none⟩ (nS ⟨.struct [(0,33,1),(1,34,1)],2,48,[.aA,.aA],false,none⟩ (nS ⟨.int .u8,1,1,[zU],false,none⟩ (nS ⟨.struct [(0,3,1),(1,4,1),(2,4,1)],3,16,[zI,.bool (.lit false),.bool (.lit false)],true,none⟩ (nL tF) .nil) (nL ⟨.map 3 3,1,8,[.qI],false,none⟩)) (nS ⟨.struct [(0,3,1),(1,26,1),(2,54,1),(3,3,1),(4,2,1),(5,2,1)],6,64,[zI,.aA,zU,zI,zI,zI],false,none⟩ (nL tF) (nL tF))) (nS ⟨.struct [(0,9,1),(1,49,1),(2,50,1)],3,64,[.str [],.aA,.aA],false,none⟩ (nS ⟨.slice 125,1,24,[.aA],false,none⟩ (nS tF (nL ⟨.int .u8,1,1,[zU],false,none⟩) .nil) (nL ⟨.struct [(0,3,1),(1,3,1)],2,16,[zI,zI],true,none⟩)) (nS ⟨.struct [(0,9,1),(1,113,6),(7,87,2),(9,3,1)],10,96,[.str [],zU,.str [],zI,zI,zI,zI,zI,zI,zI],false,none⟩ (nL ⟨.struct [(0,177,1),(1,134,1)],2,16,[.qI,.qI],false,none⟩) (nL ⟨.slice 5,1,24,[.aA],false,none⟩)))) (nS ⟨.slice 3,1,24,[.aA],false,none⟩ (nS tF (nS ⟨.struct [(0,54,1),(1,3,1),(2,2,1),(3,2,1)],4,32,[zU,zI,zI,zI],true,none⟩ (nS tF (nL ⟨.array 32 5,32,32,(repeatL [zU] 32),false,none⟩) .nil) (nL ⟨.map 54 201,1,8,[.qI],false,none⟩)) (nS tF (nL ⟨.struct [(0,169,1),(1,54,1),(2,9,1),(3,9,1),(4,2,1),(5,55,1),(6,123,1),(7,123,1),(8,3,1)],9,128,[zU,zU,.str [],.str [],zI,.aA,.aA,.aA,zI],false,none⟩) (nL ⟨.map 9 2,1,8,[.qI],false,none⟩))) (nS ⟨.struct [(0,58,1),(1,9,1),(2,2,1),(3,55,1)],4,56,[zU,.str [],zI,.aA],false,none⟩ (nS tF (nL tF) (nL tF)) (nS ⟨.slice 171,1,24,[.aA],false,none⟩ (nL tF) (nL ⟨.array 24 5,24,24,(repeatL [zU] 24),false,none⟩)))))) (nS ⟨.int .u8,1,1,[zU],false,none⟩ (nS ⟨.string,1,16,[.str []],false,none⟩ (nS ⟨.pointer 281,1,8,[.lD],false,none⟩ (nS ⟨.slice 143,1,24,[.aA],false,none⟩ (nS ⟨.struct [(0,3,1),(1,54,1),(2,3,1),(3,2,1),(4,2,1)],5,40,[zI,zU,zI,zI,zI],true,none⟩ (nS ⟨.pointer 131,1,8,[.lD],false,none⟩ (nL tF) .nil) .nil) (nS tF .nil (nL tF))) (nS ⟨.slice 9,1,24,[.aA],false,none⟩ (nO (nS tF (nL ⟨.struct [(0,271,0)],0,0,[],false,none⟩) .nil) (nL ⟨.pointer 211,1,8,[.lD],false,none⟩)) (nS ⟨.struct [(0,111,1),(1,9,1),(2,2,1),(3,3,1),(4,3,1),(5,3,1)],6,56,[zU,.str [],zI,zI,zI,zI],true,none⟩ (nL ⟨.map 9 119,1,8,[.qI],false,none⟩) (nL tF)))) (nS ⟨.struct [(0,22,1),(1,23,1)],2,48,[.aA,.aA],false,none⟩ (nS tF (nS tF (nS ⟨.struct [(0,134,1),(1,52,3),(4,3,1)],5,80,[.qI,.str [],.aA,.aA,zI],false,none⟩ (nL tF) .nil) (nL tF)) (nO (nL ⟨.int .u8,1,1,[zU],false,none⟩) (nL ⟨.struct [(0,4,1)],1,1,[.bool (.lit false)],true,none⟩))) (nS ⟨.struct [(0,53,1),(1,54,1),(2,3,1),(3,3,1),(4,3,1),(5,2,1),(6,55,1)],7,64,[zU,zU,zI,zI,zI,zI,.aA],false,none⟩ (nS tF (nO (nL ⟨.struct [(0,12,1),(1,12,1),(2,261,1),(3,274,1),(4,5,1),(5,5,1),(6,275,1),(7,276,1),(8,277,1),(9,278,1),(10,279,1)],11,48,[.int .u64 (.lit (0)),.int .u64 (.lit (0)),.int .u32 (.lit (0)),zU,zU,zU,zU,.CW,.lD,.int .i32 (.lit (0)),.int .i32 (.lit (0))],false,none⟩) .nil) (nL tF)) (nS ⟨.struct [(0,119,1),(1,9,1),(2,2,1),(3,9,1),(4,3,1)],5,56,[zU,.str [],zI,.str [],zI],true,none⟩ (nL tF) (nL tF))))) (nS ⟨.struct [(0,9,1),(1,12,1)],2,24,[.str [],.int .u64 (.lit (0))],false,none⟩ (nS ⟨.int .i32,1,4,[.int .i32 (.lit (0))],false,none⟩ (nS ⟨.struct [(0,36,2),(2,26,1)],3,72,[.aA,.aA,.aA],false,none⟩ (nS tF (nS tF (nL ⟨.int .u32,1,4,[.int .u32 (.lit (0))],false,none⟩) .nil) (nL tF)) (nS tF (nL tF) (nL tF))) (nS ⟨.int .u8,1,1,[zU],false,none⟩ (nS ⟨.struct [(0,22,1),(1,83,1)],2,48,[.aA,.aA],false,none⟩ (nS ⟨.pointer 143,1,8,[.lD],false,none⟩ (nL ⟨.pointer 5,1,8,[.lD],false,none⟩) .nil) (nL tF)) (nS tF (nL tF) (nL tF)))) (nS tF (nS tF (nS tF (nS tF (nL ⟨.struct [(0,17,1),(1,17,1),(2,17,1),(3,9,1)],4,40,[.lD,.lD,.lD,.str []],false,none⟩) .nil) (nL ⟨.int .u8,1,1,[zU],false,none⟩)) (nS tF (nL tF) (nL tF))) (nS tF (nS tF (nL tF) (nL tF)) (nS ⟨.struct [(0,9,1),(1,123,1),(2,3,1)],3,48,[.str [],.aA,zI],false,none⟩ (nL tF) (nL tF))))))) (nS ⟨.int .i64,1,8,[zI],false,none⟩ (nS ⟨.bool,1,1,[.bool (.lit false)],false,none⟩ (nS ⟨.struct [(0,2,1),(1,3,1),(2,4,1),(3,6,1)],4,24,[zI,zI,.bool (.lit false),zU],true,none⟩ (nS ⟨.pointer 273,1,8,[.lD],false,none⟩ (nS ⟨.slice 66,1,24,[.aA],false,none⟩ (nS tF (nS tF (nL tF) .nil) (nL tF)) (nS tF (nL tF) (nL tF))) (nS tF (nS tF (nS tF (nL ⟨.struct [(0,271,0)],0,0,[],false,none⟩) .nil) (nL tF)) (nS ⟨.struct [(0,111,1),(1,9,1),(2,2,1),(3,3,1),(4,3,1),(5,3,1)],6,56,[zU,.str [],zI,zI,zI,zI],true,none⟩ (nL ⟨.pointer 179,1,8,[.lD],false,none⟩) (nL tF)))) (nS ⟨.struct [(0,22,1),(1,23,1)],2,48,[.aA,.aA],false,none⟩ (nO (nO (nL ⟨.struct [(0,134,1),(1,52,3),(4,3,1)],5,80,[.qI,.str [],.aA,.aA,zI],false,none⟩) (nL ⟨.struct [(0,3,1),(1,149,1),(2,2,1),(3,33,1),(4,75,4)],8,80,[zI,.lD,zI,.aA,zU,zI,zI,zI],false,none⟩)) (nS ⟨.pointer 36,1,8,[.lD],false,none⟩ (nL tF) (nL tF))) (nS ⟨.struct [(0,53,1),(1,54,1),(2,3,1),(3,3,1),(4,3,1),(5,2,1),(6,55,1)],7,64,[zU,zU,zI,zI,zI,zI,.aA],false,none⟩ (nO (nS ⟨.map 53 1,1,8,[.qI],false,none⟩ (nL ⟨.struct [(0,12,1),(1,12,1),(2,261,1),(3,274,1),(4,5,1),(5,5,1),(6,275,1),(7,276,1),(8,277,1),(9,278,1),(10,279,1)],11,48,[.int .u64 (.lit (0)),.int .u64 (.lit (0)),.int .u32 (.lit (0)),zU,zU,zU,zU,.CW,.lD,.int .i32 (.lit (0)),.int .i32 (.lit (0))],false,none⟩) .nil) (nL tF)) (nS ⟨.struct [(0,119,1),(1,9,1),(2,2,1),(3,9,1),(4,3,1)],5,56,[zU,.str [],zI,.str [],zI],true,none⟩ (nL tF) (nL tF))))) (nS ⟨.int .u64,1,8,[.int .u64 (.lit (0))],false,none⟩ (nS ⟨.iface true,1,16,[.FM],false,none⟩ (nS ⟨.struct [(0,33,1),(1,34,1)],2,48,[.aA,.aA],false,none⟩ (nO (nS tF (nL ⟨.array 20 252,20,160,(repeatL [.int .u64 (.lit (0))] 20),false,none⟩) .nil) (nL tF)) (nS ⟨.struct [(0,3,1),(1,26,1),(2,54,1),(3,3,1),(4,2,1),(5,2,1)],6,64,[zI,.aA,zU,zI,zI,zI],false,none⟩ (nL tF) .nil)) (nS ⟨.struct [(0,9,1),(1,49,1),(2,50,1)],3,64,[.str [],.aA,.aA],false,none⟩ (nS ⟨.struct [(0,22,1),(1,83,1)],2,48,[.aA,.aA],false,none⟩ (nS tF (nL tF) .nil) (nL ⟨.array 256 5,256,256,(repeatL [zU] 256),false,none⟩)) (nS ⟨.array 9 9,9,144,[.str [],.str [],.str [],.str [],.str [],.str [],.str [],.str [],.str []],false,none⟩ (nL tF) (nL tF)))) (nS ⟨.array 2 27,2,48,[.aA,.aA],false,none⟩ (nS tF (nO (nS tF (nL ⟨.array 64 5,64,64,(repeatL [zU] 64),false,none⟩) .nil) (nL tF)) (nS tF (nL tF) (nL ⟨.array 27 119,27,27,(repeatL [zU] 27),false,none⟩))) (nS ⟨.struct [(0,58,1),(1,9,1),(2,2,1),(3,55,1)],4,56,[zU,.str [],zI,.aA],false,none⟩ (nS tF (nL tF) (nL ⟨.array 23 9,23,368,(repeatL [.str []] 23),false,none⟩)) (nS ⟨.struct [(0,9,1),(1,123,1),(2,3,1)],3,48,[.str [],.aA,zI],false,none⟩ (nL tF) (nL ⟨.int .u64,1,8,[.int .u64 (.lit (0))],false,none⟩)))))) (nS ⟨.int .u8,1,1,[zU],false,none⟩ (nS ⟨.string,1,16,[.str []],false,none⟩ (nS ⟨.struct [(0,17,1)],1,8,[.lD],false,none⟩ (nS ⟨.slice 100,1,24,[.aA],false,none⟩ (nS ⟨.struct [(0,3,1),(1,54,1),(2,3,1),(3,2,1),(4,2,1)],5,40,[zI,zU,zI,zI,zI],true,none⟩ (nS ⟨.struct [(0,3,1),(1,4,1),(2,4,1)],3,16,[zI,.bool (.lit false),.bool (.lit false)],true,none⟩ (nL ⟨.int .u64,1,8,[.int .u64 (.lit (0))],false,none⟩) .nil) (nL tF)) (nS tF (nL tF) (nL tF))) (nS ⟨.slice 57,1,24,[.aA],false,none⟩ (nS tF (nS tF (nL ⟨.int .u8,1,1,[zU],false,none⟩) .nil) (nL ⟨.struct [(0,3,1),(1,3,1)],2,16,[zI,zI],true,none⟩)) (nS ⟨.struct [(0,9,1),(1,113,6),(7,87,2),(9,3,1)],10,96,[.str [],zU,.str [],zI,zI,zI,zI,zI,zI,zI],false,none⟩ (nL ⟨.struct [(0,177,1),(1,134,1)],2,16,[.qI,.qI],false,none⟩) (nL tF)))) (nS ⟨.slice 2,1,24,[.aA],false,none⟩ (nS tF (nS ⟨.struct [(0,54,1),(1,3,1),(2,2,1),(3,2,1)],4,32,[zU,zI,zI,zI],true,none⟩ (nS tF (nL tF) .nil) .nil) (nS tF (nL ⟨.struct [(0,169,1),(1,54,1),(2,9,1),(3,9,1),(4,2,1),(5,55,1),(6,123,1),(7,123,1),(8,3,1)],9,128,[zU,zU,.str [],.str [],zI,.aA,.aA,.aA,zI],false,none⟩) (nL ⟨.map 9 233,1,8,[.qI],false,none⟩))) (nS ⟨.int .u8,1,1,[zU],false,none⟩ (nO (nL tF) (nL tF)) (nS tF (nL tF) (nL ⟨.array 2 49,2,48,[.aA,.aA],false,none⟩))))) (nS ⟨.struct [(0,9,1),(1,12,1)],2,24,[.str [],.int .u64 (.lit (0))],false,none⟩ (nS ⟨.slice 121,1,24,[.aA],false,none⟩ (nS ⟨.struct [(0,36,2),(2,26,1)],3,72,[.aA,.aA,.aA],false,none⟩ (nS tF (nS ⟨.map 9 3,1,8,[.qI],false,none⟩ (nL ⟨.array 65 5,65,65,(repeatL [zU] 65),false,none⟩) .nil) (nL ⟨.pointer 200,1,8,[.lD],false,none⟩)) (nS tF .nil (nL tF))) (nS ⟨.int .u8,1,1,[zU],false,none⟩ (nS ⟨.struct [(0,39,1),(1,3,1)],2,16,[zI,zI],true,none⟩ (nS tF (nL ⟨.int .i32,1,4,[.int .i32 (.lit (0))],false,none⟩) .nil) (nL tF)) (nS tF (nL tF) (nL tF)))) (nS tF (nO (nS tF (nS ⟨.struct [(0,3,1),(1,2,1),(2,4,1),(3,2,1),(4,27,1),(5,26,1)],6,80,[zI,zI,.bool (.lit false),zI,.aA,.aA],false,none⟩ (nL ⟨.struct [(0,17,1),(1,17,1),(2,17,1),(3,9,1)],4,40,[.lD,.lD,.lD,.str []],false,none⟩) .nil) .nil) (nS ⟨.pointer 115,1,8,[.lD],false,none⟩ (nL tF) (nL tF))) (nS tF (nS tF (nL tF) (nL tF)) (nS tF (nL ⟨.slice 119,1,24,[.aA],false,none⟩) (nL tF))))))))
noncomputable def Wn:Tr Func:=(nS Tryz.f0 (nS Tryz.f1 (nS Tryz.f3 (nS Tryz.f7 (nS Tryz.f15 (nS Tryz.f31 (nS Tryz.f63 (nL Tryz.f127) (nL Tryz.f191)) (nS Tryz.f95 (nL Tryz.f159) (nL Tryz.f223))) (nS Tryz.f47 (nS Tryz.f79 (nL Tryz.f143) (nL Tryz.f207)) (nS Tryz.f111 (nL Tryz.f175) .nil))) (nS Tryz.f23 (nS Tryz.f39 (nS Tryz.f71 (nL Tryz.f135) (nL Tryz.f199)) (nS Tryz.f103 (nL Tryz.f167) .nil)) (nS Tryz.f55 (nS Tryz.f87 (nL Tryz.f151) (nL Tryz.f215)) (nS Tryz.f119 (nL Tryz.f183) .nil)))) (nS Tryz.f11 (nS Tryz.f19 (nS Tryz.f35 (nS Tryz.f67 (nL Tryz.f131) (nL Tryz.f195)) (nS Tryz.f99 (nL Tryz.f163) .nil)) (nS Tryz.f51 (nS Tryz.f83 (nL Tryz.f147) (nL Tryz.f211)) (nS Tryz.f115 (nL Tryz.f179) .nil))) (nS Tryz.f27 (nS Tryz.f43 (nS Tryz.f75 (nL Tryz.f139) (nL Tryz.f203)) (nS Tryz.f107 (nL Tryz.f171) .nil)) (nS Tryz.f59 (nS Tryz.f91 (nL Tryz.f155) (nL Tryz.f219)) (nS Tryz.f123 (nL Tryz.f187) .nil))))) (nS Tryz.f5 (nS Tryz.f9 (nS Tryz.f17 (nS Tryz.f33 (nS Tryz.f65 (nL Tryz.f129) (nL Tryz.f193)) (nS Tryz.f97 (nL Tryz.f161) (nL Tryz.f225))) (nS Tryz.f49 (nS Tryz.f81 (nL Tryz.f145) (nL Tryz.f209)) (nS Tryz.f113 (nL Tryz.f177) .nil))) (nS Tryz.f25 (nS Tryz.f41 (nS Tryz.f73 (nL Tryz.f137) (nL Tryz.f201)) (nS Tryz.f105 (nL Tryz.f169) .nil)) (nS Tryz.f57 (nS Tryz.f89 (nL Tryz.f153) (nL Tryz.f217)) (nS Tryz.f121 (nL Tryz.f185) .nil)))) (nS Tryz.f13 (nS Tryz.f21 (nS Tryz.f37 (nS Tryz.f69 (nL Tryz.f133) (nL Tryz.f197)) (nS Tryz.f101 (nL Tryz.f165) .nil)) (nS Tryz.f53 (nS Tryz.f85 (nL Tryz.f149) (nL Tryz.f213)) (nS Tryz.f117 (nL Tryz.f181) .nil))) (nS Tryz.f29 (nS Tryz.f45 (nS Tryz.f77 (nL Tryz.f141) (nL Tryz.f205)) (nS Tryz.f109 (nL Tryz.f173) .nil)) (nS Tryz.f61 (nS Tryz.f93 (nL Tryz.f157) (nL Tryz.f221)) (nS Tryz.f125 (nL Tryz.f189) .nil)))))) (nS Tryz.f2 (nS Tryz.f4 (nS Tryz.f8 (nS Tryz.f16 (nS Tryz.f32 (nS Tryz.f64 (nL Tryz.f128) (nL Tryz.f192)) (nS Tryz.f96 (nL Tryz.f160) (nL Tryz.f224))) (nS Tryz.f48 (nS Tryz.f80 (nL Tryz.f144) (nL Tryz.f208)) (nS Tryz.f112 (nL Tryz.f176) .nil))) (nS Tryz.f24 (nS Tryz.f40 (nS Tryz.f72 (nL Tryz.f136) (nL Tryz.f200)) (nS Tryz.f104 (nL Tryz.f168) .nil)) (nS Tryz.f56 (nS Tryz.f88 (nL Tryz.f152) (nL Tryz.f216)) (nS Tryz.f120 (nL Tryz.f184) .nil)))) (nS Tryz.f12 (nS Tryz.f20 (nS Tryz.f36 (nS Tryz.f68 (nL Tryz.f132) (nL Tryz.f196)) (nS Tryz.f100 (nL Tryz.f164) .nil)) (nS Tryz.f52 (nS Tryz.f84 (nL Tryz.f148) (nL Tryz.f212)) (nS Tryz.f116 (nL Tryz.f180) .nil))) (nS Tryz.f28 (nS Tryz.f44 (nS Tryz.f76 (nL Tryz.f140) (nL Tryz.f204)) (nS Tryz.f108 (nL Tryz.f172) .nil)) (nS Tryz.f60 (nS Tryz.f92 (nL Tryz.f156) (nL Tryz.f220)) (nS Tryz.f124 (nL Tryz.f188) .nil))))) (nS Tryz.f6 (nS Tryz.f10 (nS Tryz.f18 (nS Tryz.f34 (nS Tryz.f66 (nL Tryz.f130) (nL Tryz.f194)) (nS Tryz.f98 (nL Tryz.f162) .nil)) (nS Tryz.f50 (nS Tryz.f82 (nL Tryz.f146) (nL Tryz.f210)) (nS Tryz.f114 (nL Tryz.f178) .nil))) (nS Tryz.f26 (nS Tryz.f42 (nS Tryz.f74 (nL Tryz.f138) (nL Tryz.f202)) (nS Tryz.f106 (nL Tryz.f170) .nil)) (nS Tryz.f58 (nS Tryz.f90 (nL Tryz.f154) (nL Tryz.f218)) (nS Tryz.f122 (nL Tryz.f186) .nil)))) (nS Tryz.f14 (nS Tryz.f22 (nS Tryz.f38 (nS Tryz.f70 (nL Tryz.f134) (nL Tryz.f198)) (nS Tryz.f102 (nL Tryz.f166) .nil)) (nS Tryz.f54 (nS Tryz.f86 (nL Tryz.f150) (nL Tryz.f214)) (nS Tryz.f118 (nL Tryz.f182) .nil))) (nS Tryz.f30 (nS Tryz.f46 (nS Tryz.f78 (nL Tryz.f142) (nL Tryz.f206)) (nS Tryz.f110 (nL Tryz.f174) .nil)) (nS Tryz.f62 (nS Tryz.f94 (nL Tryz.f158) (nL Tryz.f222)) (nS Tryz.f126 (nL Tryz.f190) .nil)))))))
def htab:Tr (Tr U5):=(nO (nO (nS (nO (nO .nil (nL ⟨[],0,⟨[hR 0 0 [3],hP 0 0 [1],hP 0 0 [7],hP 0 0 [5],hR 8 0 [44],hE 28 0 [43,45],hE 63 1 [41,42,46],hP 127 2 [47],hP 255 2 [40],hP 255 2 [40],hP 255 2 [40],hP 0 2 [],hP 2559 2 [48],hE 7167 2 [12,49],hP 16383 3 [50]],3,[(0,[0,1]),(4,[0])]⟩⟩)) (nO (nL ⟨[],0,⟨[hR 0 0 [3],hP 0 0 [1],hP 0 0 [7],hP 0 0 [5],hR 8 0 [33],hE 28 0 [32,34],hE 63 1 [30,31,35],hP 127 2 [36],hP 255 2 [29],hP 255 2 [29],hP 255 2 [29],hP 0 2 [],hP 2559 2 [37],hE 7167 2 [9,38],hP 16383 3 [39]],3,[(0,[0,1]),(4,[0])]⟩⟩) .nil)) (nO (nO (nO (nL (nO (nL ⟨[],0,⟨[hP 0 0 [4],hR 1 0 [8],hP 0 0 [2],hP 7 0 [9,10],hP 15 0 [11],hR 31 0 [12],hP 63 0 [13],hP 127 0 [14],hP 255 0 [15,4],hR 511 0 [15,16],hP 255 0 [15,2],hP 2047 0 [15,17,18],hP 4095 0 [15,19],hR 8191 0 [15,20],hP 255 0 [15,3],hR 16639 0 [15,22],hP 255 0 [15,2],hP 114943 0 [15,23,24],hP 246015 0 [15,25],hR 508159 0 [15,26],hR 1032447 0 [15,27],hP 2097151 0 [15,21,28],hP 4194303 0 [15,29],hP 8388607 0 [30]],0,[(1,[0]),(5,[0]),(9,[0]),(13,[0]),(15,[0]),(19,[0]),(20,[0])]⟩⟩) .nil)) (nS (nO (nO .nil (nL ⟨[],0,⟨[hP 0 0 [5],hR 1 0 [13],hE 3 0 [14],hP 0 1 [5],hR 8 1 [16],hE 31 1 [17],hP 63 2 [15,18],hP 127 2 [19]],2,[(1,[0]),(4,[0,1])]⟩⟩)) .nil) (nL (nO .nil (nO (nL ⟨[],0,⟨[hR 0 0 [0],hP 1 0 [22],hP 3 0 [23],hR 7 0 [24],hR 0 0 [0],hP 16 0 [26],hP 48 0 [27],hR 112 0 [28],hP 240 0 [29],hP 496 0 [30],hR 1008 0 [31],hP 2032 0 [32],hP 4095 0 [25],hP 8191 0 [34],hE 16383 0 [35,33]],1,[(0,[0]),(3,[0]),(4,[0]),(7,[0]),(10,[0])]⟩⟩) .nil))) .nil)) .nil) (nO (nO .nil (nO (nL (nO (nL ⟨[],0,⟨[hR 0 0 [0],hP 1 0 [3],hP 3 0 [4],hP 7 0 [5],hR 15 0 [6],hR 0 0 [0],hP 32 0 [8],hP 96 0 [9],hR 224 0 [10],hP 480 0 [11],hP 992 0 [12],hR 2016 0 [13],hR 0 0 [0],hP 4096 0 [15],hP 12288 0 [16],hP 28672 0 [17],hR 61440 0 [18],hP 131040 0 [14,19],hE 262112 0 [20],hP 524287 1 [7],hP 1048575 1 [21]],1,[(0,[0,1]),(4,[0,1]),(5,[0]),(8,[0]),(11,[0]),(12,[0]),(16,[0])]⟩⟩) .nil)) .nil)) .nil)) (nS (nO (nL ⟨[],0,⟨[hP 0 0 [2],hR 1 0 [7],hP 0 0 [3],hR 4 0 [9],hP 0 0 [],hP 0 0 [],hE 51 0 [5,8],hE 127 1 [6,10]],2,[(1,[0]),(3,[0,1])]⟩⟩) .nil) (nS (nO .nil (nO .nil (nL ⟨[],0,⟨[hP 0 0 [0],hP 0 0 [5],hP 3 0 [16,17],hR 7 0 [18],hP 0 0 [1],hP 0 0 [5],hP 48 0 [20,21],hR 112 0 [22],hP 255 0 [19,23]],0,[(3,[0]),(7,[0])]⟩⟩))) (nO (nO (nL (nO .nil (nS ⟨[],0,⟨[hP 0 0 [0],hP 0 0 [3],hR 2 0 [10],hP 0 0 [3],hR 8 0 [12],hE 24 0 [13],hE 63 1 [9,11,14],hP 127 2 [15]],2,[(2,[0,1]),(4,[0])]⟩⟩ (nO (nL ⟨[],0,⟨[hP 0 0 [0],hP 1 0 [27],hP 3 0 [28],hR 7 0 [29],hP 0 0 [3],hR 16 0 [31],hE 63 0 [30,32]],1,[(3,[0]),(5,[0])]⟩⟩) .nil) .nil))) .nil) (nS (nO .nil (nL ⟨[],0,⟨[hR 0 0 [2],hR 0 0 [2],hP 2 0 [9],hP 6 0 [10],hP 14 0 [11],hR 30 0 [12],hR 0 0 [3],hP 64 0 [14],hE 254 0 [13,15],hP 511 1 [8],hP 1023 1 [17],hP 2047 1 [18],hE 4095 1 [19,16]],2,[(0,[0,1]),(1,[0]),(5,[0]),(6,[0])]⟩⟩)) (nL (nO .nil (nO (nL ⟨[],0,⟨[hR 0 0 [0],hP 1 0 [22],hP 3 0 [23],hR 7 0 [24],hR 0 0 [0],hP 16 0 [26],hP 48 0 [27],hR 112 0 [28],hP 240 0 [29],hP 496 0 [30],hR 1008 0 [31],hP 2032 0 [32],hP 4095 0 [25],hP 8191 0 [34],hE 16383 0 [35,33]],1,[(0,[0]),(3,[0]),(4,[0]),(7,[0]),(10,[0])]⟩⟩) .nil))) .nil)) (nS (nO .nil (nL ⟨[],0,⟨[hP 0 0 [0],hP 1 0 [6],hP 3 0 [7],hP 7 0 [8],hR 15 0 [9],hP 0 0 [3],hP 0 0 [0],hP 64 0 [12],hP 192 0 [13],hP 448 0 [14],hR 960 0 [15],hE 2016 0 [11,16],hP 4064 1 [17],hP 8160 1 [18],hP 16383 1 [10,19],hP 0 1 [],hE 65535 1 [4,20]],2,[(4,[0,1]),(10,[0])]⟩⟩)) (nO (nL (nO (nO .nil (nL ⟨[],0,⟨[hP 0 0 [0],hP 0 0 [1],hP 3 0 [20,21],hP 0 0 [0],hP 0 0 [2],hP 24 0 [23,24],hE 63 0 [22,25],hP 127 1 [26]],1,[]⟩⟩)) .nil)) .nil) (nO (nL (nO (nO .nil (nO (nL ⟨[],0,⟨[hP 0 0 [1],hR 1 0 [43],hP 3 0 [44],hP 7 0 [45],hP 15 0 [46,3],hP 31 0 [46,47],hP 63 0 [46,48],hP 127 0 [49],hP 255 0 [50,3],hP 511 0 [50,51],hP 1023 0 [50,52],hP 2047 0 [53],hP 4095 0 [54,3],hP 8191 0 [54,55],hP 16383 0 [54,4,56],hR 32767 0 [54,57],hP 4095 0 [54,1],hR 69631 0 [54,59],hE 262143 0 [54,58,60],hP 524287 1 [54,61],hP 1048575 1 [62]],1,[(1,[0]),(15,[0]),(17,[0])]⟩⟩) .nil)) .nil)) .nil))) (nO (nS (nO (nS ⟨[],0,⟨[hR 0 0 [4],hP 0 0 [1],hP 2 0 [17],hP 6 0 [18],hR 14 0 [19],hP 0 0 [2],hR 0 0 [7],hE 127 0 [16,20,21,22],hP 255 1 [23],hP 511 1 [15],hP 511 1 [15],hP 511 1 [15],hP 0 1 [],hP 5119 1 [24],hE 14335 1 [11,25],hP 32767 2 [26]],2,[(0,[0]),(4,[0]),(6,[0])]⟩⟩ (nO .nil (nS ⟨[],0,⟨[hP 0 0 [4],hR 1 0 [72],hP 0 0 [2],hP 7 0 [73,74],hP 15 0 [75],hR 31 0 [76],hP 0 0 [13],hP 64 0 [78],hP 192 0 [79],hR 448 0 [80],hP 1023 0 [77,81],hR 2047 0 [82],hP 0 0 [],hE 8191 0 [14,83]],1,[(1,[0]),(5,[0]),(9,[0]),(11,[0])]⟩⟩ (nL ⟨[],0,⟨[hP 0 0 [13],hP 0 0 [13],hP 0 0 [13],hP 0 0 [11],hR 8 0 [135],hP 0 0 [11],hR 32 0 [137],hP 1 0 [132],hP 129 0 [139],hE 385 0 [140],hP 923 1 [133],hP 1947 1 [141],hE 3995 1 [142,136],hP 8191 2 [134],hP 16383 2 [143],hE 32767 2 [144,138]],3,[(4,[0,1]),(6,[0,1,2])]⟩⟩) .nil)) (nO (nO (nL ⟨[],0,⟨[hP 0 0 [13],hP 1 0 [115],hP 3 0 [116],hR 7 0 [117],hP 0 0 [14],hR 16 0 [119],hP 0 0 [11],hR 64 0 [121],hP 255 0 [118,120],hE 511 0 [123,122]],1,[(3,[0]),(5,[0]),(7,[0])]⟩⟩) .nil) (nO (nL ⟨[],0,⟨[hP 0 0 [13],hP 0 0 [13],hP 0 0 [11],hR 4 0 [150],hP 1 0 [148],hP 17 0 [152],hE 49 0 [153],hP 127 1 [149],hP 255 1 [154],hE 511 1 [155,151]],2,[(3,[0,1])]⟩⟩) .nil))) .nil) (nL (nO .nil (nO .nil (nL ⟨[],0,⟨[hP 0 0 [0],hP 0 0 [5],hP 3 0 [17,18],hR 7 0 [19],hP 0 0 [1],hP 0 0 [5],hP 48 0 [21,22],hR 112 0 [23],hP 255 0 [20,24]],0,[(3,[0]),(7,[0])]⟩⟩)))) (nL (nO (nO .nil (nL ⟨[],0,⟨[hP 0 0 [0],hP 0 0 [3],hP 0 0 [0],hP 0 0 [3],hP 0 0 [0],hP 0 0 [3],hP 48 0 [15,16],hP 112 0 [17],hR 240 0 [18],hE 496 0 [19],hP 0 1 [0],hP 0 1 [3],hP 3072 1 [21,22],hP 7168 1 [23],hR 15360 1 [24],hE 32752 1 [25],hP 65523 2 [11,12],hP 131059 2 [27],hE 262131 2 [28,20],hP 524287 3 [13,14],hP 1048575 3 [29],hE 2097151 3 [30,26]],4,[(8,[0]),(14,[0,1])]⟩⟩)) .nil))) .nil))) (nS (nO (nO .nil (nL ⟨[],0,⟨[hP 0 0 [3],hP 0 0 [1],hR 2 0 [22],hP 0 0 [4],hP 14 0 [23,24],hP 30 0 [25],hR 62 0 [26],hR 126 0 [27],hP 0 0 [1],hR 256 0 [29],hP 0 0 [4],hP 1792 0 [30,31],hP 3840 0 [32],hR 7936 0 [33],hR 16128 0 [34],hP 32766 0 [28,35],hP 65535 0 [21,36],hP 131071 0 [37]],0,[(2,[0]),(6,[0]),(7,[0]),(9,[0]),(13,[0]),(14,[0])]⟩⟩)) .nil) (nS (nO .nil (nO .nil (nL ⟨[],0,⟨[hP 0 0 [0],hP 0 0 [5],hP 3 0 [16,17],hR 7 0 [18],hP 0 0 [1],hP 0 0 [5],hP 48 0 [20,21],hR 112 0 [22],hP 255 0 [19,23]],0,[(3,[0]),(7,[0])]⟩⟩))) (nS (nO .nil (nO (nL ⟨[],0,⟨[hR 0 0 [6],hP 0 0 [1],hE 2 0 [19],hP 7 1 [18,20],hP 0 1 [],hE 31 1 [8,21]],2,[(0,[0,1])]⟩⟩) .nil)) (nL (nO (nO .nil (nL ⟨[],0,⟨[hP 0 0 [5],hR 1 0 [16],hE 3 0 [17],hP 0 1 [5],hR 8 1 [19],hE 31 1 [20],hP 31 2 [5],hE 127 2 [22,18],hP 255 3 [5],hE 511 3 [23,21]],4,[(1,[0]),(4,[0,1])]⟩⟩)) (nO .nil (nO .nil (nL ⟨[],0,⟨[hR 0 0 [3],hP 0 0 [1],hR 2 0 [51],hE 6 0 [52],hP 15 1 [50,53],hE 31 1 [2,54]],2,[(0,[0,1]),(2,[0])]⟩⟩))))) (nO (nS (nO (nO .nil (nO (nO .nil (nL ⟨[],0,⟨[hP 0 0 [],hP 0 0 [7],hR 2 0 [87],hP 6 0 [88],hE 1 0 [4,86],hE 31 1 [5,89]],2,[(2,[0,1])]⟩⟩)) .nil)) .nil) (nL (nO (nO .nil (nL ⟨[],0,⟨[hR 0 0 [0],hP 1 0 [15],hP 3 0 [16],hR 7 0 [17],hR 0 0 [0],hP 16 0 [19],hP 48 0 [20],hR 112 0 [21],hP 240 0 [22],hP 496 0 [23],hR 1008 0 [24],hR 0 0 [0],hP 2048 0 [26],hP 6144 0 [27],hR 14336 0 [28],hP 30720 0 [29],hE 65520 0 [25,30],hP 131071 1 [18],hP 262143 1 [32],hE 524287 1 [33,31]],2,[(0,[0,1]),(3,[0,1]),(4,[0]),(7,[0]),(10,[0]),(11,[0]),(14,[0])]⟩⟩)) .nil)) .nil) .nil)) (nS (nO .nil (nO (nO (nL ⟨[],0,⟨[hP 0 0 [5],hR 1 0 [24],hP 0 0 [7],hR 4 0 [26],hR 12 0 [27],hP 28 0 [28,28],hP 60 0 [29],hP 124 0 [30],hE 255 0 [25,31],hP 511 1 [5],hE 1023 1 [33,32]],2,[(1,[0]),(3,[0]),(4,[0])]⟩⟩) .nil) .nil)) (nS (nO .nil (nO .nil (nL ⟨[],0,⟨[hP 0 0 [3],hR 1 0 [33],hP 0 0 [2],hP 7 0 [34,35],hP 15 0 [36],hR 31 0 [37],hP 0 0 [8],hR 64 0 [39],hP 255 0 [38,40],hR 511 0 [41],hP 0 0 [],hE 2047 0 [9,42]],1,[(1,[0]),(5,[0]),(7,[0]),(9,[0])]⟩⟩))) (nL (nS ⟨[],0,⟨[hR 0 0 [0],hP 1 0 [2],hP 3 0 [3],hR 7 0 [4],hP 0 0 [1],hR 16 0 [6],hP 63 0 [5,7],hR 127 0 [8],hP 255 0 [9]],0,[(0,[0]),(3,[0]),(5,[0]),(7,[0])]⟩⟩ .nil (nL ⟨[],0,⟨[hR 0 0 [0],hP 1 0 [16],hP 3 0 [17],hR 7 0 [18],hP 0 0 [1],hR 16 0 [20],hP 63 0 [19,21],hR 127 0 [22],hP 255 0 [23],hP 511 0 [19,21],hE 1023 0 [25,24]],1,[(0,[0]),(3,[0]),(5,[0]),(7,[0])]⟩⟩))) .nil) (nO (nO (nL (nO (nS ⟨[],0,⟨[hR 0 0 [0],hP 1 0 [3],hP 3 0 [4],hP 7 0 [5],hR 15 0 [6],hR 0 0 [0],hP 32 0 [8],hP 96 0 [9],hR 224 0 [10],hP 480 0 [11],hP 992 0 [12],hR 2016 0 [13],hP 4064 0 [14],hP 8191 0 [7,15],hP 16383 0 [16],hR 32767 0 [17,0],hP 65535 0 [17,18],hP 131071 0 [17,19],hP 262143 0 [17,20],hR 524287 0 [17,21],hR 32767 0 [17,0],hP 1081343 0 [17,23],hP 3178495 0 [17,24],hR 7372799 0 [17,25],hP 15761407 0 [17,26],hP 32538623 0 [17,27],hR 66093055 0 [17,28],hP 133201919 0 [17,29],hP 268435455 0 [17,22,30],hP 536870911 0 [17,31]],0,[(0,[0]),(4,[0]),(5,[0]),(8,[0]),(11,[0]),(15,[0]),(19,[0]),(20,[0]),(23,[0]),(26,[0])]⟩⟩ (nL ⟨[],0,⟨[hR 0 0 [0],hP 1 0 [33],hP 3 0 [34],hR 7 0 [35],hP 15 0 [36],hP 31 0 [37],hR 63 0 [38],hR 0 0 [0],hP 128 0 [40],hP 384 0 [41],hP 896 0 [42],hR 1920 0 [43],hP 4095 0 [39,44],hP 8191 0 [36],hP 16383 0 [46],hE 32767 0 [47,45]],1,[(0,[0]),(3,[0]),(6,[0]),(7,[0]),(11,[0])]⟩⟩) .nil) .nil)) .nil) .nil))) (nO (nS (nO .nil (nO .nil (nL ⟨[],0,⟨[hR 0 0 [2],hP 0 0 [2],hR 2 0 [30],hP 0 0 [5],hP 14 0 [31,32],hR 30 0 [33],hR 0 0 [6],hE 127 0 [29,34,35],hP 255 1 [36]],1,[(0,[0]),(2,[0]),(5,[0]),(6,[0])]⟩⟩))) (nS (nL ⟨[],0,⟨[hP 0 0 [1],hR 1 0 [4],hP 0 0 [0],hP 0 0 [1],hR 8 0 [7],hP 0 0 [0],hP 56 0 [8,9],hR 120 0 [10],hR 0 0 [2],hP 504 0 [11,12],hP 1023 0 [5,6],hE 2047 0 [14,13]],1,[(1,[0]),(4,[0]),(7,[0]),(8,[0])]⟩⟩) (nL (nL ⟨[],0,⟨[hR 0 0 [1],hP 1 0 [2],hP 3 0 [3],hR 7 0 [4],hP 0 0 [0],hR 16 0 [6],hP 0 0 [0],hR 64 0 [8],hP 192 0 [9],hR 448 0 [10],hR 0 0 [1],hP 1024 0 [12],hP 3072 0 [13],hR 7168 0 [14],hE 16320 0 [11,15],hP 32767 1 [5,7],hE 65535 1 [17,16]],2,[(0,[0,1]),(3,[0,1]),(5,[0,1]),(7,[0]),(9,[0]),(10,[0]),(13,[0])]⟩⟩)) (nO (nL (nO (nL ⟨[],0,⟨[hR 0 0 [0],hP 1 0 [4],hP 3 0 [5],hR 7 0 [6],hR 0 0 [0],hP 16 0 [8],hP 48 0 [9],hR 112 0 [10],hP 255 0 [7,11],hP 511 0 [12]],0,[(0,[0]),(3,[0]),(4,[0]),(7,[0])]⟩⟩) (nL ⟨[],0,⟨[hR 0 0 [0],hP 1 0 [13],hP 3 0 [14],hR 7 0 [15],hP 15 0 [16],hP 31 0 [17],hR 63 0 [18],hR 0 0 [0],hP 128 0 [20],hP 384 0 [21],hR 896 0 [22],hE 2047 0 [19,23],hP 4095 1 [24],hP 8191 1 [25,3],hP 16383 1 [25,26],hP 32767 1 [25,27],hR 65535 1 [25,28],hP 131071 1 [25,29],hP 262143 1 [25,30]],1,[(0,[0]),(3,[0]),(6,[0]),(7,[0]),(10,[0]),(16,[1])]⟩⟩))) .nil)) (nO .nil (nO (nL (nO .nil (nO (nL ⟨[],0,⟨[hP 0 0 [6],hR 1 0 [13],hP 3 0 [14],hP 7 0 [15],hP 15 0 [16,0],hP 31 0 [16,17],hP 63 0 [16,18],hR 127 0 [16,19],hP 15 0 [16,6],hR 271 0 [16,21],hR 1023 0 [16,20,22],hP 2047 0 [16,23],hP 4095 0 [16,24],hP 8191 0 [25],hP 16383 0 [26,0],hP 16383 0 [26,6],hR 49151 0 [26,28],hE 131071 0 [26,27,29],hP 262143 1 [26,30],hP 524287 1 [26,31]],1,[(1,[0]),(7,[0]),(9,[0]),(10,[0]),(16,[0])]⟩⟩) .nil))) .nil))) (nS (nO (nO (nO (nL ⟨[],0,⟨[hP 0 0 [5],hR 1 0 [27],hP 0 0 [4],hE 4 0 [29],hP 12 1 [30],hE 31 1 [28,31],hP 63 2 [5],hE 127 2 [33,32]],3,[(1,[0,1])]⟩⟩) .nil) .nil) (nO .nil (nO .nil (nL ⟨[],0,⟨[hP 0 0 [],hP 0 0 [4],hP 2 0 [58],hP 6 0 [59],hR 14 0 [60],hE 1 0 [2,57],hE 63 1 [3,61]],2,[(4,[0,1])]⟩⟩)))) (nS (nO .nil (nO .nil (nO .nil (nL ⟨[],0,⟨[hR 0 0 [1],hR 0 0 [7],hP 0 0 [7],hR 4 0 [67],hP 0 0 [8],hP 28 0 [68,69],hR 60 0 [70],hE 127 0 [65,66,71],hP 255 1 [72],hP 511 1 [73],hP 1023 1 [74,7],hR 2047 1 [74,75],hP 1023 1 [74,8],hP 8191 1 [74,76,77],hP 16383 1 [74,78],hR 32767 1 [74,79],hP 1023 1 [74,7],hE 131071 1 [74,80,81],hP 262143 2 [74,82],hP 524287 2 [83]],2,[(0,[0]),(1,[0]),(3,[0]),(6,[0]),(11,[1]),(15,[1])]⟩⟩)))) (nL (nO .nil (nO .nil (nL ⟨[],0,⟨[hP 0 0 [9],hP 1 0 [47],hP 3 0 [48,3],hR 7 0 [48,49],hP 3 0 [48,5],hR 19 0 [48,51],hP 63 0 [48,50,52],hP 127 0 [48,53],hR 255 0 [48,54],hR 3 0 [48,5],hP 3 0 [48,7],hE 2047 0 [48,55,56,57],hP 4095 1 [48,58],hP 8191 1 [59],hP 16383 1 [60,5],hR 32767 1 [60,61],hP 65535 1 [60,62],hP 131071 1 [60,63],hP 262143 1 [64,8],hP 524287 1 [60,64,65],hP 1048575 1 [60,66],hP 2097151 1 [67]],1,[(3,[0]),(5,[0]),(8,[0]),(9,[0]),(15,[1])]⟩⟩)))) .nil) (nO (nS (nO (nL ⟨[],0,⟨[hP 0 0 [0],hP 1 0 [9],hP 3 0 [10],hR 7 0 [11],hP 0 0 [3],hR 16 0 [13],hR 63 0 [12,14],hP 127 0 [15],hP 255 0 [8],hP 255 0 [8],hP 511 0 [16],hP 2047 0 [17]],0,[(3,[0]),(5,[0]),(6,[0])]⟩⟩) .nil) (nL (nO (nL ⟨[],0,⟨[hR 0 0 [0],hP 1 0 [3],hP 3 0 [4],hR 7 0 [5],hR 0 0 [0],hP 16 0 [7],hP 48 0 [8],hP 112 0 [9],hR 240 0 [10],hP 511 0 [6],hP 1023 0 [12],hE 2047 0 [13,11]],1,[(0,[0]),(3,[0]),(4,[0]),(8,[0])]⟩⟩) .nil)) .nil) .nil))))) (nO (nS (nO (nO (nL ⟨[],0,⟨[hR 0 0 [3],hP 0 0 [1],hP 0 0 [5],hR 4 0 [29],hP 0 0 [5],hR 16 0 [31],hR 48 0 [32],hP 112 0 [33],hP 252 0 [30,34],hE 511 0 [27,28,35],hP 1023 1 [36],hP 2047 1 [26],hP 2047 1 [26],hP 2047 1 [26],hP 0 1 [],hP 20479 1 [37],hE 57343 1 [8,38],hP 131071 2 [39]],2,[(0,[0]),(3,[0]),(5,[0]),(6,[0])]⟩⟩) .nil) (nO (nL ⟨[],0,⟨[hR 0 0 [3],hP 0 0 [1],hP 0 0 [5],hR 4 0 [43],hP 0 0 [5],hR 16 0 [45],hR 48 0 [46],hP 112 0 [47],hP 252 0 [44,48],hE 511 0 [41,42,49],hP 1023 1 [50],hP 2047 1 [40],hP 2047 1 [40],hP 2047 1 [40],hP 0 1 [],hP 20479 1 [51],hE 57343 1 [11,52],hP 131071 2 [53]],2,[(0,[0]),(3,[0]),(5,[0]),(6,[0])]⟩⟩) (nL ⟨[],0,⟨[hP 0 0 [7],hP 0 0 [13],hP 3 0 [59,60],hP 0 0 [10],hP 0 0 [13],hP 24 0 [62,63],hE 63 0 [61,64],hP 127 1 [65]],1,[]⟩⟩))) (nS (nO (nO (nO (nO (nL ⟨[],0,⟨[hP 0 0 [11],hR 0 0 [9],hP 1 0 [75],hE 7 0 [7,76],hP 15 1 []],1,[(1,[0])]⟩⟩) .nil) (nL ⟨[],0,⟨[hP 0 0 [11],hR 0 0 [9],hP 0 0 [17],hP 1 0 [61],hE 11 0 [7,62],hP 31 1 [63]],1,[(1,[0])]⟩⟩)) (nO (nL ⟨[],0,⟨[hR 0 0 [3],hR 0 0 [9],hP 0 0 [2],hP 0 0 [13],hP 12 0 [44,45],hR 28 0 [46],hP 0 0 [12],hP 124 0 [47,48],hP 0 0 [12],hP 508 0 [49,50],hP 0 0 [12],hP 2044 0 [51,52],hE 4095 0 [42,43,53],hP 8191 1 [54],hP 16383 1 [41],hP 16383 1 [41],hP 16383 1 [41],hP 16383 1 [41],hP 0 1 [],hP 0 1 [],hE 819199 1 [14,55],hE 1900543 2 [15,56],hP 4063231 3 [57],hP 8388607 3 [58]],3,[(0,[0]),(1,[0]),(5,[0])]⟩⟩) .nil)) .nil) (nO (nO (nO (nL (nO .nil (nO (nL ⟨[],0,⟨[hP 0 0 [1],hR 1 0 [15],hP 3 0 [16],hP 7 0 [17],hP 15 0 [18,1],hR 31 0 [18,19],hP 63 0 [18,20],hP 127 0 [18,21],hP 255 0 [22],hP 511 0 [23,1],hR 1023 0 [23,24],hE 2047 0 [23,25],hP 4095 1 [23,26],hP 8191 1 [23,27],hP 16383 1 [28],hP 32767 1 [29,1],hR 65535 1 [29,30],hP 131071 1 [29,31],hP 262143 1 [29,32],hP 524287 1 [33],hP 1048575 1 [34,1],hR 2097151 1 [34,35],hR 4194303 1 [34,36],hP 1048575 1 [34,1],hR 9437183 1 [34,38],hE 26214399 1 [34,39],hP 67108863 2 [34,37,40],hP 134217727 2 [34,41],hP 268435455 2 [42],hP 536870911 2 [43,1],hR 1073741823 2 [43,44],hR 2147483647 2 [43,45],hP 4294967295 2 [43,46],hP 8589934591 2 [43,47],hP 17179869183 2 [48],hP 34359738367 2 [49,3],hP 68719476735 2 [49,50],hP 137438953471 2 [49,51],hP 274877906943 2 [52,1],hR 549755813887 2 [52,53],hP 1099511627775 2 [52,54],hP 2199023255551 2 [49,52,55],hP 4398046511103 2 [49,56]],2,[(1,[0]),(5,[0]),(10,[0]),(16,[1]),(21,[1,2]),(22,[1,2]),(24,[1]),(30,[2]),(31,[2]),(39,[2])]⟩⟩) .nil))) .nil) (nS (nO (nL ⟨[],0,⟨[hP 0 0 [3],hR 1 0 [6],hP 0 0 [0],hP 4 0 [8],hP 12 0 [9],hR 28 0 [10],hP 0 0 [3],hR 64 0 [12],hR 252 0 [11,13],hP 0 0 [0],hP 0 0 [3],hR 1024 0 [16],hE 3584 0 [15,17],hP 8191 1 [7,14,18],hP 0 1 [],hE 32767 1 [4,19]],2,[(1,[0,1]),(5,[0,1]),(7,[0,1]),(8,[0,1]),(11,[0])]⟩⟩) .nil) (nL (nO (nS ⟨[],0,⟨[hR 0 0 [0],hP 1 0 [4],hP 3 0 [5],hR 7 0 [6],hR 0 0 [0],hP 16 0 [8],hP 48 0 [9],hR 112 0 [10],hP 255 0 [7,11],hP 511 0 [12]],0,[(0,[0]),(3,[0]),(4,[0]),(7,[0])]⟩⟩ .nil (nL ⟨[],0,⟨[hR 0 0 [0],hP 1 0 [25],hP 3 0 [26],hR 7 0 [27],hR 0 0 [0],hP 16 0 [29],hP 48 0 [30],hR 112 0 [31],hP 240 0 [32],hP 496 0 [33],hR 1008 0 [34],hP 0 0 [0],hE 4080 0 [35,36],hR 0 1 [0],hP 8192 1 [38],hP 24576 1 [39],hR 57344 1 [40],hP 122880 1 [41],hE 262128 1 [37,42],hP 524287 2 [28],hP 1048575 2 [44],hE 2097151 2 [45,43]],3,[(0,[0,1,2]),(3,[0,1,2]),(4,[0]),(7,[0]),(10,[0]),(13,[0,1]),(16,[0,1])]⟩⟩)) (nL ⟨[],0,⟨[hP 0 0 [3],hP 1 0 [13],hP 3 0 [14],hR 7 0 [15],hR 0 0 [0],hP 16 0 [17],hP 48 0 [18],hR 112 0 [19],hP 255 0 [16,20]],0,[(3,[0]),(4,[0]),(7,[0])]⟩⟩))) .nil)) (nO (nO (nL (nO (nO (nL ⟨[],0,⟨[hR 0 0 [0],hP 1 0 [5],hP 3 0 [6],hP 7 0 [7],hR 15 0 [8],hR 0 0 [0],hP 32 0 [10],hP 96 0 [11],hP 224 0 [12],hR 480 0 [13],hP 1023 0 [9,14],hE 2047 0 [15],hP 4095 1 [],hP 8191 1 [16]],1,[(0,[0]),(4,[0]),(5,[0]),(9,[0])]⟩⟩) .nil) .nil)) .nil) .nil)) (nS (nO .nil (nO (nO .nil (nL ⟨[],0,⟨[hP 0 0 [6],hR 1 0 [88],hP 0 0 [8],hP 7 0 [89,90],hR 15 0 [91],hP 0 0 [7],hR 32 0 [93],hP 0 0 [8],hP 224 0 [94,95],hR 480 0 [96],hP 1023 0 [92,97]],0,[(1,[0]),(4,[0]),(6,[0]),(9,[0])]⟩⟩)) (nL ⟨[],0,⟨[hP 0 0 [2],hR 1 0 [30],hP 0 0 [5],hP 7 0 [31,32],hR 15 0 [33],hP 0 0 [3],hR 32 0 [35],hP 0 0 [5],hP 224 0 [36,37],hR 480 0 [38],hP 0 0 [],hP 0 0 [],hE 3103 0 [6,34],hE 8191 1 [7,39]],2,[(1,[0]),(4,[0]),(6,[0,1]),(9,[0,1])]⟩⟩))) (nS (nO (nS ⟨[],0,⟨[hP 0 0 [1],hR 1 0 [6],hE 3 0 [7],hP 0 1 [1],hR 8 1 [9],hE 31 1 [10],hP 31 2 [1],hE 127 2 [12,8],hP 255 3 [1],hE 511 3 [13,11]],4,[(1,[0]),(4,[0,1])]⟩⟩ (nO .nil (nL ⟨[],0,⟨[hP 0 0 [1],hR 1 0 [47],hP 0 0 [5],hP 0 0 [1],hR 8 0 [50],hP 0 0 [5],hP 56 0 [51,52],hP 120 0 [53],hR 248 0 [54],hE 504 0 [55],hP 1023 1 [48,49],hP 2047 1 [57],hE 4095 1 [58,56]],2,[(1,[0,1]),(4,[0]),(8,[0])]⟩⟩)) .nil) (nO .nil (nL ⟨[],0,⟨[hP 0 0 [4],hP 0 0 [4],hP 0 0 [4],hP 4 0 [26],hP 12 0 [27],hR 28 0 [28],hE 60 0 [29],hP 0 1 [4],hP 128 1 [31],hP 384 1 [32],hR 896 1 [33],hE 2044 1 [34],hP 4093 2 [24],hP 8189 2 [36],hE 16381 2 [37,30],hP 32767 3 [25],hP 65535 3 [38],hE 131071 3 [39,35]],4,[(5,[0]),(10,[0,1])]⟩⟩))) (nS (nL ⟨[],0,⟨[hR 0 0 [1],hP 1 0 [2],hP 3 0 [3],hR 7 0 [4],hP 0 0 [0],hR 16 0 [6],hP 0 0 [0],hR 64 0 [8],hP 255 0 [5,7],hE 511 0 [10,9]],1,[(0,[0]),(3,[0]),(5,[0]),(7,[0])]⟩⟩) (nL (nO (nL ⟨[],0,⟨[hP 0 0 [0],hP 1 0 [3],hP 3 0 [4],hR 7 0 [5],hP 15 0 [6],hP 31 0 [7],hR 63 0 [8],hP 0 0 [0],hP 128 0 [10],hP 384 0 [11],hR 896 0 [12],hP 2047 0 [9,13],hP 4095 0 [14],hP 8191 0 [15,0],hP 16383 0 [15,16],hP 32767 0 [15,17],hR 65535 0 [15,18],hP 131071 0 [15,19],hP 262143 0 [15,20],hR 524287 0 [15,21],hP 8191 0 [15,0],hP 1056767 0 [15,23],hP 3153919 0 [15,24],hR 7348223 0 [15,25],hE 16777215 0 [15,22,26],hP 33554431 1 [15,27],hP 67108863 1 [28]],1,[(3,[0]),(6,[0]),(10,[0]),(16,[0]),(19,[0]),(23,[0])]⟩⟩) .nil)) .nil) (nO (nL (nO (nO (nL ⟨[],0,⟨[hR 0 0 [0],hP 1 0 [12],hP 3 0 [13],hR 7 0 [14],hP 15 0 [15],hP 31 0 [16],hR 63 0 [17],hR 0 0 [0],hP 128 0 [19],hP 384 0 [20],hR 896 0 [21],hP 2047 0 [18,22],hP 4095 0 [23]],0,[(0,[0]),(3,[0]),(6,[0]),(7,[0]),(10,[0])]⟩⟩) .nil) .nil)) .nil)) (nS (nO .nil (nO .nil (nO (nL ⟨[],0,⟨[hP 0 0 [3],hP 1 0 [34],hP 3 0 [35],hR 7 0 [36],hP 0 0 [5],hR 16 0 [38],hP 0 0 [5],hR 64 0 [40],hE 255 0 [37,39,41]],1,[(3,[0]),(5,[0]),(7,[0])]⟩⟩) .nil))) (nO (nL (nO (nL ⟨[],0,⟨[hR 0 0 [0],hP 1 0 [3],hP 3 0 [4],hR 7 0 [5],hP 15 0 [6],hP 31 0 [7],hR 63 0 [8],hR 0 0 [0],hP 128 0 [10],hP 384 0 [11],hR 896 0 [12],hP 2047 0 [9,13]],0,[(0,[0]),(3,[0]),(6,[0]),(7,[0]),(10,[0])]⟩⟩) .nil)) .nil) .nil))) (nO (nO (nS (nO .nil (nO (nO .nil (nL ⟨[],0,⟨[hP 0 0 [5],hR 1 0 [44],hP 0 0 [6],hR 4 0 [46],hP 15 0 [45,47],hP 31 0 [48],hR 63 0 [49],hP 0 0 [6],hR 128 0 [51],hP 511 0 [50,52]],0,[(1,[0]),(3,[0]),(6,[0]),(8,[0])]⟩⟩)) .nil)) (nS (nO .nil (nO .nil (nO .nil (nL ⟨[],0,⟨[hP 0 0 [2],hR 1 0 [47],hP 0 0 [2],hR 4 0 [49],hP 12 0 [50],hR 28 0 [51],hP 0 0 [1],hE 124 0 [52,53],hP 0 1 [2],hR 256 1 [55],hP 768 1 [56],hR 1792 1 [57],hP 0 1 [1],hE 8188 1 [58,59],hE 16383 2 [48,54,60],hP 32767 3 [61]],3,[(1,[0,1,2]),(3,[0]),(5,[0]),(9,[0,1]),(11,[0,1])]⟩⟩)))) (nL (nL ⟨[],0,⟨[hR 0 0 [0],hP 1 0 [2],hP 3 0 [3],hP 7 0 [4],hR 15 0 [5],hR 0 0 [1],hR 0 0 [0],hE 64 0 [8],hP 255 1 [6,7],hP 511 1 [10],hE 1023 1 [11,9]],2,[(0,[0,1]),(4,[0,1]),(5,[0,1]),(6,[0])]⟩⟩)) .nil) .nil) (nO .nil (nL (nO .nil (nL ⟨[],0,⟨[hP 0 0 [0],hP 0 0 [1],hP 0 0 [2],hP 6 0 [13,14],hP 1 0 [12],hP 31 0 [16,15],hR 63 0 [17]],0,[(6,[0])]⟩⟩))))) (nS (nO (nL ⟨[],0,⟨[hP 0 0 [4],hR 1 0 [7],hP 0 0 [2],hP 7 0 [8,9],hP 15 0 [10],hR 31 0 [11],hP 63 0 [12],hP 127 0 [13],hP 255 0 [14,4],hR 511 0 [14,15],hP 255 0 [14,2],hP 2047 0 [14,16,17],hP 4095 0 [14,18],hR 8191 0 [14,19],hP 255 0 [14,3],hR 16639 0 [14,21],hP 255 0 [14,2],hP 114943 0 [14,22,23],hP 246015 0 [14,24],hR 508159 0 [14,25],hR 1032447 0 [14,26],hP 2097151 0 [14,20,27],hP 4194303 0 [14,28],hP 8388607 0 [29]],0,[(1,[0]),(5,[0]),(9,[0]),(13,[0]),(15,[0]),(19,[0]),(20,[0])]⟩⟩) .nil) (nS (nO .nil (nO (nO .nil (nL ⟨[],0,⟨[hP 0 0 [6],hR 1 0 [76],hP 0 0 [8],hP 7 0 [77,78],hR 15 0 [79],hP 0 0 [7],hR 32 0 [81],hP 0 0 [8],hP 224 0 [82,83],hR 480 0 [84],hP 1023 0 [80,85]],0,[(1,[0]),(4,[0]),(6,[0]),(9,[0])]⟩⟩)) (nL ⟨[],0,⟨[hP 0 0 [0],hP 0 0 [5],hP 3 0 [19,20],hR 7 0 [21],hP 0 0 [1],hP 0 0 [5],hP 48 0 [23,24],hR 112 0 [25],hP 0 0 [],hP 0 0 [],hE 783 0 [6,22],hE 2047 1 [7,26]],2,[(3,[0]),(7,[0,1])]⟩⟩))) (nO (nL (nO (nL ⟨[],0,⟨[hP 0 0 [0],hP 1 0 [3],hP 3 0 [4],hR 7 0 [5],hP 15 0 [6],hP 31 0 [7],hR 63 0 [8],hP 0 0 [0],hP 128 0 [10],hP 384 0 [11],hR 896 0 [12],hP 2047 0 [9,13]],0,[(3,[0]),(6,[0]),(10,[0])]⟩⟩) .nil)) .nil) .nil) (nO .nil (nL (nO .nil (nO (nL ⟨[],9,⟨[hP 0 0 [1],hP 1 0 [23],hP 3 0 [24],hR 7 0 [25],hP 0 0 [0],hE 16 0 [27],hR 15 1 [26],hP 0 1 [],hE 255 1 [26,30]],2,[(3,[0,1]),(6,[0,1])]⟩⟩) .nil))))))) (nO (nO (nS (nO .nil (nO (nO (nO (nL ⟨[],0,⟨[hR 0 0 [16],hR 0 0 [14],hP 0 0 [15],hE 1 0 [6,116],hE 11 1 [7,117],hP 31 2 [118],hP 63 2 []],2,[(0,[0]),(1,[0,1])]⟩⟩) .nil) (nL ⟨[],0,⟨[hR 0 0 [13],hP 0 0 [4],hR 2 0 [94],hE 6 0 [95],hP 15 1 [93,96],hP 0 1 [],hE 63 1 [16,97]],2,[(0,[0,1]),(2,[0])]⟩⟩)) .nil)) (nL (nO .nil (nO .nil (nL ⟨[],0,⟨[hP 0 0 [2],hR 1 0 [26],hP 0 0 [5],hR 4 0 [28],hP 15 0 [27,29],hP 31 0 [30],hR 63 0 [31],hP 0 0 [5],hR 128 0 [33],hP 511 0 [32,34],hP 1023 0 [35]],0,[(1,[0]),(3,[0]),(6,[0]),(8,[0])]⟩⟩)))) (nO (nO (nL (nO (nL ⟨[],0,⟨[hR 0 0 [0],hP 1 0 [4],hP 3 0 [5],hR 7 0 [6],hP 15 0 [7],hP 31 0 [8],hR 63 0 [9],hR 0 0 [0],hP 128 0 [11],hP 384 0 [12],hR 896 0 [13],hE 2047 0 [10,14],hP 4095 1 [15]],1,[(0,[0]),(3,[0]),(6,[0]),(7,[0]),(10,[0])]⟩⟩) (nO (nL ⟨[],0,⟨[hR 0 0 [0],hP 1 0 [18],hP 3 0 [19],hR 7 0 [20],hR 0 0 [0],hP 16 0 [22],hP 48 0 [23],hR 112 0 [24],hP 240 0 [25],hP 496 0 [26],hR 1008 0 [27],hP 0 0 [3],hP 0 0 [3],hP 4096 0 [30],hE 16368 0 [28,29,31],hP 32767 1 [21],hP 65535 1 [33],hE 131071 1 [34,32]],2,[(0,[0,1]),(3,[0,1]),(4,[0]),(7,[0]),(10,[0])]⟩⟩) .nil))) .nil) (nL (nO (nO (nO (nO (nL ⟨[],0,⟨[hP 0 0 [9],hP 1 0 [61],hP 3 0 [62],hP 7 0 [63,4],hR 15 0 [63,64],hP 31 0 [63,65],hP 63 0 [63,66],hP 127 0 [67],hP 255 0 [68,4],hR 511 0 [68,69],hP 255 0 [68,0],hP 1279 0 [68,71],hP 3327 0 [68,72],hR 7423 0 [68,73],hP 16383 0 [68,70,74],hP 32767 0 [68,75],hP 65535 0 [76],hP 131071 0 [77,4],hR 262143 0 [77,78],hP 524287 0 [77,79],hP 1048575 0 [77,80],hP 2097151 0 [77,81],hE 4194303 0 [77,82],hP 8388607 1 [77,83],hP 16777215 1 [84]],1,[(4,[0]),(9,[0]),(13,[0]),(18,[0])]⟩⟩) .nil) .nil) .nil) .nil)))) (nO (nS (nO .nil (nL ⟨[],0,⟨[hP 0 0 [3],hR 1 0 [15],hP 0 0 [2],hP 7 0 [16,17],hP 15 0 [18],hR 31 0 [19],hR 0 0 [6],hP 64 0 [21],hP 192 0 [22],hR 448 0 [23],hP 1023 0 [20,24],hR 2047 0 [25],hP 0 0 [],hE 8191 0 [7,26]],1,[(1,[0]),(5,[0]),(6,[0]),(9,[0]),(11,[0])]⟩⟩)) (nS (nO (nO (nO (nL ⟨[],0,⟨[hP 0 0 [12],hE 1 0 [89],hP 0 1 [7],hR 4 1 [91],hR 15 1 [90,92],hP 31 1 [93],hP 63 1 [88],hP 63 1 [88],hP 127 1 [94],hP 511 1 [95]],1,[(3,[0,1]),(4,[1])]⟩⟩) (nO (nL ⟨[],0,⟨[hP 0 0 [11],hR 0 0 [17],hP 1 0 [136],hE 7 0 [9,137],hP 15 1 []],1,[(1,[0])]⟩⟩) .nil)) (nS ⟨[],0,⟨[hP 0 0 [12],hE 1 0 [79],hP 0 1 [7],hR 4 1 [81],hR 15 1 [80,82],hP 31 1 [83],hP 63 1 [78],hP 63 1 [78],hP 127 1 [84],hP 511 1 [85]],1,[(3,[0,1]),(4,[1])]⟩⟩ (nL ⟨[],0,⟨[hP 0 0 [12],hE 1 0 [98],hP 0 1 [7],hR 4 1 [100],hR 15 1 [99,101],hP 31 1 [102]],1,[(3,[0,1]),(4,[1])]⟩⟩) .nil)) (nS ⟨[],0,⟨[hR 0 0 [4],hP 0 0 [1],hE 3 0 [20,21],hP 7 1 [22],hP 15 1 [23],hP 31 1 [24,2],hP 63 1 [24,25],hP 127 1 [24,26],hP 255 1 [27],hP 511 1 [28,2],hP 511 1 [28,4],hR 1535 1 [28,30],hR 3583 1 [28,31],hP 8191 1 [28,29,32],hP 16383 1 [28,33],hP 32767 1 [34],hP 65535 1 [35,7],hR 131071 1 [35,36],hP 262143 1 [35,37],hP 524287 1 [35,38],hP 1048575 1 [39],hP 2097151 1 [40,7],hR 4194303 1 [40,41],hP 2097151 1 [40,11],hR 10485759 1 [40,43],hP 33554431 1 [40,42,44],hP 67108863 1 [40,45],hP 134217727 1 [46],hP 268435455 1 [47,7],hR 536870911 1 [47,48],hE 1073741823 1 [47,49],hP 268435455 2 [47,4],hR 2415919103 2 [47,51],hP 268435455 2 [47,7],hR 8858370047 2 [47,53],hP 32480690175 2 [47,52,54],hP 66840428543 2 [47,55],hR 135559905279 2 [47,56],hP 274877906943 2 [47,50,57],hP 549755813887 2 [47,58]],2,[(0,[0]),(11,[1]),(12,[1]),(17,[1]),(22,[1]),(24,[1]),(29,[1]),(32,[1,2]),(34,[1,2]),(37,[1,2])]⟩⟩ (nS ⟨[],0,⟨[hP 0 0 [2],hP 0 0 [11],hP 0 0 [7],hR 4 0 [64],hP 14 0 [63,65],hP 0 0 [4],hR 32 0 [67],hP 0 0 [7],hR 128 0 [69],hP 480 0 [68,70],hP 992 0 [71],hR 2016 0 [72],hP 0 0 [11],hR 0 0 [7],hP 16383 0 [62,66,73,74,75],hP 32767 0 [76],hP 65535 0 [77]],0,[(3,[0]),(6,[0]),(8,[0]),(11,[0]),(13,[0])]⟩⟩ (nO (nL ⟨[],0,⟨[hP 0 0 [1],hE 1 0 [123],hP 0 1 [2],hP 0 1 [7],hR 8 1 [126],hP 0 1 [7],hR 32 1 [128],hP 96 1 [129],hP 252 1 [125,127,130],hP 3 1 [124],hE 1023 1 [9,131],hP 2047 2 []],2,[(4,[0,1]),(6,[0,1])]⟩⟩) .nil) .nil) (nO (nO (nL ⟨[],0,⟨[hP 0 0 [11],hR 0 0 [17],hP 1 0 [134],hE 7 0 [9,135],hP 15 1 []],1,[(1,[0])]⟩⟩) .nil) .nil))) (nL (nO (nO (nL ⟨[],0,⟨[hP 0 0 [0],hP 1 0 [11],hP 3 0 [12],hR 7 0 [13],hP 0 0 [0],hP 16 0 [15],hP 48 0 [16],hR 112 0 [17],hP 255 0 [14],hP 511 0 [19],hE 1023 0 [20,18]],1,[(3,[0]),(7,[0])]⟩⟩) .nil) .nil)) .nil) .nil) (nO (nO (nL (nO .nil (nL ⟨[],0,⟨[hR 0 0 [0],hP 1 0 [6],hP 3 0 [7],hR 7 0 [8],hP 15 0 [9],hP 31 0 [10],hR 63 0 [11],hP 0 0 [3],hE 128 0 [13],hP 511 1 [12],hP 1023 1 [14]],1,[(0,[0,1]),(3,[0,1]),(6,[0,1])]⟩⟩))) .nil) (nS (nO (nL ⟨[],0,⟨[hR 0 0 [0],hP 0 0 [2],hE 3 0 [8,9]],1,[(0,[0])]⟩⟩) (nL ⟨[],0,⟨[hP 0 0 [2],hR 0 0 [0],hP 2 0 [12],hP 6 0 [13],hP 14 0 [14],hR 30 0 [15],hE 63 0 [11,16],hP 127 1 [17],hP 255 1 [18],hP 127 1 [1],hE 639 1 [20],hP 2047 2 [1],hE 4095 2 [21,19]],3,[(1,[0]),(5,[0])]⟩⟩)) (nL (nO (nO .nil (nL ⟨[],0,⟨[hP 0 0 [6],hR 0 0 [5],hR 0 0 [0],hE 4 0 [21],hP 14 1 [20,22],hP 31 1 [19,23],hE 63 1 [5,24]],2,[(1,[0,1]),(2,[0])]⟩⟩)) .nil)) .nil)))) (nO (nS (nO (nO (nO .nil (nL ⟨[],0,⟨[hR 0 0 [9],hR 0 0 [12],hP 0 0 [13],hE 1 0 [6,52],hE 11 1 [7,53],hP 31 2 [54]],2,[(0,[0]),(1,[0,1])]⟩⟩)) .nil) .nil) (nS (nO .nil (nO .nil (nL ⟨[],0,⟨[hP 0 0 [2],hR 1 0 [25],hP 0 0 [5],hP 7 0 [26,27],hR 15 0 [28],hR 0 0 [6],hP 0 0 [2],hR 64 0 [31],hR 192 0 [32],hE 511 0 [29,30,33],hP 1023 1 [34]],1,[(1,[0]),(4,[0]),(5,[0]),(7,[0]),(8,[0])]⟩⟩))) (nL (nL ⟨[],0,⟨[hP 0 0 [0],hR 1 0 [2],hP 3 0 [3],hR 7 0 [4],hR 0 0 [1],hP 16 0 [6],hP 48 0 [7],hR 112 0 [8],hE 255 0 [5,9],hP 511 1 [10]],1,[(1,[0]),(3,[0]),(4,[0]),(7,[0])]⟩⟩)) (nO (nL (nO (nO .nil (nL ⟨[],0,⟨[hR 0 0 [0],hP 1 0 [23],hP 3 0 [24],hR 7 0 [25],hP 15 0 [26],hP 31 0 [27],hR 63 0 [28],hR 0 0 [0],hP 128 0 [30],hP 384 0 [31],hR 896 0 [32],hP 2047 0 [29,33]],0,[(0,[0]),(3,[0]),(6,[0]),(7,[0]),(10,[0])]⟩⟩)) (nO .nil (nL ⟨[],0,⟨[hR 0 0 [0],hP 1 0 [35],hP 3 0 [36],hR 7 0 [37],hR 0 0 [0],hP 16 0 [39],hP 48 0 [40],hR 112 0 [41],hP 0 0 [3],hP 256 0 [43],hP 255 0 [38],hP 1279 0 [45],hE 3327 0 [46],hP 8191 1 [42],hP 16383 1 [47],hE 32767 1 [48,44]],2,[(0,[0]),(3,[0]),(4,[0]),(7,[0])]⟩⟩)))) .nil)) (nO .nil (nL (nO (nL ⟨[],0,⟨[hP 0 0 [0],hP 0 0 [1],hP 0 0 [2],hP 6 0 [11,12],hP 1 0 [10],hP 31 0 [14,13],hR 63 0 [15],hP 127 0 [16]],0,[(6,[0])]⟩⟩) (nO (nO (nL ⟨[],0,⟨[hP 0 0 [8],hP 0 0 [1],hR 2 0 [39],hP 7 0 [38,40],hP 15 0 [41],hP 31 0 [42,0],hP 31 0 [42,1],hP 31 0 [42,8],hP 223 0 [42,44,45],hP 63 0 [42,43],hP 1023 0 [42,47,46],hR 2047 0 [42,48],hP 4095 0 [42,49],hP 8191 0 [42,50],hP 16383 0 [51,0],hP 16383 0 [51,1],hP 16383 0 [51,8],hP 114687 0 [51,53,54],hP 32767 0 [51,52],hP 524287 0 [51,56,55],hR 1048575 0 [51,57],hP 2097151 0 [51,58],hP 4194303 0 [51,59],hP 8388607 0 [60,7],hP 16777215 0 [60,61],hP 33554431 0 [51,60,62],hP 67108863 0 [42,51,63],hP 134217727 0 [42,64]],0,[(2,[0]),(11,[0]),(20,[0])]⟩⟩) .nil) .nil))))) (nS (nO (nO (nL ⟨[],0,⟨[hP 0 0 [],hR 0 0 [4],hE 1 0 [2,17],hE 7 1 [3,18]],2,[(1,[0,1])]⟩⟩) (nO .nil (nO (nL ⟨[],0,⟨[hP 0 0 [5],hR 1 0 [78],hP 0 0 [11],hP 4 0 [80],hP 12 0 [81],hR 28 0 [82],hP 60 0 [83],hE 127 0 [79,84],hP 255 1 [5],hE 511 1 [86,85]],2,[(1,[0]),(5,[0])]⟩⟩) .nil))) .nil) .nil (nO (nO (nL (nO (nS ⟨[],0,⟨[hR 0 0 [0],hP 1 0 [3],hP 3 0 [4],hR 7 0 [5],hP 15 0 [6],hP 31 0 [7],hR 63 0 [8],hR 127 0 [9],hR 0 0 [0],hP 256 0 [11],hP 768 0 [12],hR 1792 0 [13],hP 4095 0 [10,14]],0,[(0,[0]),(3,[0]),(6,[0]),(7,[0]),(8,[0]),(11,[0])]⟩⟩ (nL ⟨[],0,⟨[hR 0 0 [0],hP 1 0 [16],hP 3 0 [17],hR 7 0 [18],hR 0 0 [0],hP 16 0 [20],hP 48 0 [21],hR 112 0 [22],hP 240 0 [23],hP 496 0 [24],hR 1008 0 [25],hR 0 0 [0],hP 2048 0 [27],hP 6144 0 [28],hP 14336 0 [29],hR 30720 0 [30],hP 63488 0 [31],hE 131056 0 [26,32],hP 262143 1 [19],hP 524287 1 [34],hE 1048575 1 [35,33]],2,[(0,[0,1]),(3,[0,1]),(4,[0]),(7,[0]),(10,[0]),(11,[0]),(15,[0])]⟩⟩) .nil) .nil)) .nil) .nil))))))
end Go.As.Try
end
section
namespace Go.As.Try
open Go Go.As Go.Proofs
set_option maxRecDepth 100000
theorem amV:(List.range 283).map tab.get=(List.range 283).map (ayA Tryz.prog):=by kernel_rfl
theorem YK:(List.range 226).map Wn.get=(List.range 226).map (fun g=>Tryz.prog.funcs[g]?):=by kernel_rfl
theorem asG:(List.range 226).all (fun g=>match Wn.get g with |some f=>aDN (Xj (lim 283 tab) (hAt htab) g) f|none=>true)=true:=by kernel_rfl
theorem mixed:Tryz.prog.follows .mixedOrders=true:=by kernel_rfl
end Go.As.Try
namespace Go.Proofs
open Go.Shelf
def Tryz.laysM144_ren:Go.Shelf.Ren:=⟨fun|144=>120|143=>173|219=>185|217=>184|225=>193|224=>194|267=>195|266=>192|314=>201|n=>n,fun|9=>9|4=>4|3=>3|5=>5|46=>258|146=>264|51=>261|n=>n,fun|1=>0|n=>n⟩
theorem Tryz.laysM144:Go.Proofs.LaysM.n144 Tryz.prog Tryz.laysM144_ren where
 mixed:=by kernel_rfl
 f143:=Tryz.func173.trans (congrArg some (by kernel_rfl))
 f144:=Tryz.func120.trans (congrArg some (by kernel_rfl))
 f217:=Tryz.func184.trans (congrArg some (by kernel_rfl))
 f219:=Tryz.func185.trans (congrArg some (by kernel_rfl))
 f224:=Tryz.func194.trans (congrArg some (by kernel_rfl))
 f225:=Tryz.func193.trans (congrArg some (by kernel_rfl))
 f266:=Tryz.func192.trans (congrArg some (by kernel_rfl))
 f267:=Tryz.func195.trans (congrArg some (by kernel_rfl))
 f314:=Tryz.func201.trans (congrArg some (by kernel_rfl))
 t3:=Tryz.underlying3
 a3:=Tryz.isAgg3
 z3:=Tryz.sizeOf3
 v3:=Tryz.zeroValue3
 t4:=Tryz.underlying4
 a4:=Tryz.isAgg4
 z4:=Tryz.sizeOf4
 v4:=Tryz.zeroValue4
 t5:=Tryz.underlying5
 a5:=Tryz.isAgg5
 z5:=Tryz.sizeOf5
 v5:=Tryz.zeroValue5
 t9:=Tryz.underlying9
 a9:=Tryz.isAgg9
 z9:=Tryz.sizeOf9
 v9:=Tryz.zeroValue9
 t46:=Tryz.underlying258
 a46:=Tryz.isAgg258
 z46:=Tryz.sizeOf258
 v46:=Tryz.zeroValue258
 t51:=Tryz.underlying261
 a51:=Tryz.isAgg261
 z51:=Tryz.sizeOf261
 v51:=Tryz.zeroValue261
 t146:=Tryz.underlying264
 a146:=Tryz.isAgg264
 z146:=Tryz.sizeOf264
 v146:=Tryz.zeroValue264
 g1:=by kernel_rfl
 i3:=by kernel_rfl
 i4:=by kernel_rfl
 i5:=by kernel_rfl
 i9:=by kernel_rfl
 i46:=by kernel_rfl
 i51:=by kernel_rfl
 i146:=by kernel_rfl
 m1:=by kernel_rfl
 s1_3:=fun w h=>Go.Proofs.cell_of_shapedOpen_int (zero:=#[.int .i64 0]) (t:=3) h (of_decide_eq_true (by kernel_rfl)) (by kernel_rfl) rfl (by kernel_rfl) (by kernel_rfl) Tryz.underlying3
end Go.Proofs
end
section
namespace Go.As
noncomputable section
open Go.RowKit
def AL:List AV->St->T (AV×St):=fun args s=>match args with
 |[.nJ e,.int .u8 (.lit (.ofNat c))]=>if c<256 then .ret (.int .i64 (.op .cnt e (.lit (Int.ofNat c))),s) else .fail
 |args=>Jw args s
def AB:List AV->St->T (AV×St):=fun args s=>match args with
 |[.nJ e,.int .u8 (.lit (.ofNat c))]=>if c<256 then .ret (.int .i64 (.op .idx e (.lit (Int.ofNat c))),s) else .fail
 |args=>Jv args s
def sW:List AV->St->T (AV×St):=fun args s=>match args with
 |[.str b,.nJ e]=>if b.length<4294967281 then .ret (.bool (.not (.eq (.op .con (.dat (pJ b)) e) (.lit 0))),s) else .fail
 |args=>AO args s
theorem aiA {x:UInt8} {c:Nat} (hc:c<256):(D.i (x.toNat:Int)= .i (c:Int))↔x=UInt8.ofNat c:=by
 simp only [D.i.injEq,aK5];constructor
 ·intro h;rw [<- h];simp
 ·intro h;rw [h,aKo];omega
theorem aiC {c:Nat} (hc:c<256): ∀l:List UInt8,(Lib.countByte l (UInt8.ofNat c):Int)=awJ (l.map fun b=> .i (b.toNat:Int)) (c:Int)
 |[]=>rfl
 |x::xs=>by
  have ih:=aiC hc xs;unfold Lib.countByte at *;rw [List.count_cons,aJz];simp only [awJ];rw [<- ih];by_cases h:x=UInt8.ofNat c
  ·rw [aJe ((aiA hc).2 h),aJe (by simpa using h)];omega
  ·rw [aJd (fun q=>h ((aiA hc).1 q)),aJd (by simpa using h)];omega
theorem Zj {c:Nat} (hc:c<256): ∀(l:List UInt8) (i:Nat),(Lib.indexByte l (UInt8.ofNat c)= -1->xU (c:Int) (l.map fun b=> .i (b.toNat:Int)) (i:Int)= -1)/\(Lib.indexByte l (UInt8.ofNat c)≠-1->xU (c:Int) (l.map fun b=> .i (b.toNat:Int)) (i:Int)=(i:Int)+Lib.indexByte l (UInt8.ofNat c))
 |[],i=> ⟨fun _=>rfl,fun h=>absurd rfl h⟩
 |x::xs,i=>by
  obtain⟨ih1,ih2⟩:=Zj hc xs (i+1);have hge:=Lib.indexByte_ge xs (UInt8.ofNat c);have hcast:(((i+1:Nat):Int))=(i:Int)+1:=by omega
  rw [hcast] at ih1 ih2
  have key:Lib.indexByte (x::xs) (UInt8.ofNat c)=if x=UInt8.ofNat c then 0 else if Lib.indexByte xs (UInt8.ofNat c)= -1 then -1 else Lib.indexByte xs (UInt8.ofNat c)+1:=by simp only [Lib.indexByte,beq_iff_eq]
  have key2:xU (c:Int) ((x::xs).map fun b=> .i (b.toNat:Int)) (i:Int)=if (x.toNat:Int)=(c:Int) then (i:Int) else xU (c:Int) (xs.map fun b=> .i (b.toNat:Int)) ((i:Int)+1):=rfl;by_cases h:x=UInt8.ofNat c
  ·have h':=(aiA hc).2 h;simp only [D.i.injEq] at h';rw [key,key2,aJe h,aJe h'];exact⟨fun q=>by omega,fun _=>by omega⟩
  ·have h': ¬(x.toNat:Int)=(c:Int):=fun q=>h ((aiA hc).1 (by rw [q]));rw [key,key2,aJd h,aJd h'];by_cases hi:Lib.indexByte xs (UInt8.ofNat c)= -1
   ·rw [aJe hi];exact⟨fun _=>ih1 hi,fun q=>absurd rfl q⟩
   ·rw [aJd hi];exact⟨fun q=>by omega,fun _=>by rw [ih2 hi]; omega⟩
theorem aBm {c:Nat} (hc:c<256) (l:List UInt8):P7 (l.map fun b=> .i (b.toNat:Int)) (c:Int)=Lib.indexByte l (UInt8.ofNat c):=by
 obtain⟨h1,h2⟩:=Zj hc l 0;unfold P7;by_cases h:Lib.indexByte l (UInt8.ofNat c)= -1
 ·have:=h1 h;rw [h]; exact this
 ·have:=h2 h;rw [show ((0:Nat):Int)=0 from rfl,Int.zero_add] at this;exact this
theorem ahZ: ∀(c s:List UInt8),adO (c.map fun b=> .i (b.toNat:Int)) (s.map fun b=> .i (b.toNat:Int))=c.isPrefixOf s
 |[],s=>by simp [adO]
 |_::_,[]=>rfl
 |a::x,b::y=>by simp only [aJz,adO,List.isPrefixOf,ahZ x y];congr 1;rw [aJW,decide_eq_true_eq,beq_iff_eq];simp only [D.i.injEq,aK5];exact UInt8.toNat_inj
theorem aiB (c:List UInt8): ∀s:List UInt8,alR (s.map fun b=> .i (b.toNat:Int)) (c.map fun b=> .i (b.toNat:Int))=Lib.contains s c
 |[]=>by cases c<;>simp [alR,adO,Lib.contains,Lib.index]
 |b::bs=>by
  have ih:=aiB c bs;have hp:=ahZ c (b::bs);simp only [aJz] at hp;unfold Lib.contains at *;simp only [aJz,Lib.index,alR];rw [hp,ih];have hge:=index_ge c bs
  have key:(0<=(if c.isPrefixOf (b::bs)=true then (0:Int) else if (Lib.index bs c == -1)=true then -1 else Lib.index bs c+1))↔(c.isPrefixOf (b::bs)=true\/0<=Lib.index bs c):=by
   by_cases hq:c.isPrefixOf (b::bs)=true
   ·simp [hq]
   ·by_cases h1:Lib.index bs c= -1
    ·simp [hq,h1]
    ·simp only [beq_iff_eq,hq,h1,if_false,false_or,aJw];omega
  rw [aJW,aKw,decide_eq_true_eq];exact key.symm.trans decide_eq_true_iff.symm
section
variable {P:Program}
theorem alS [Glob] {g:FuncId} {fn:Func} (hf:P.funcs[g]?=some fn) (hname:(fn.name == "runtime.NumGoroutine")=false) (hb:fn.body.isNone=true) (hn:Extern.findNext fn=none) (he:Extern.find fn=some Extern.BytealgCount.count):nU P g AL:=by
 intro aJc s E w vals u s' r hv hp hl;unfold AL at hl;split at hl
 ·rename_i e c;split at hl
  ·rename_i hc;have:=aH hl;simp only [aJg] at this;obtain⟨rfl,rfl⟩:=this;simp only [bP,VR,SE.den] at hv;obtain⟨u1,r1,rfl,hrd,u2,r2,rfl,rfl,rfl⟩:=hv;obtain⟨st,rfl,hd⟩:=hrd.string;refine⟨rfl,hp,?_⟩;unfold vH vG;rw [Eh hf hname hb hn he (Lib.run_countString st (Int.ofNat c) w)];refine⟨E,Stp.refl _ _ _,r,?_⟩;simp only [VR,SE.den,iY.den];have:(Int.ofNat c).toNat.toUInt8=UInt8.ofNat c:=rfl;rw [this,aiC hc,hd];unfold Bo wQ;rw [aW];rfl
  ·simp [T.leaf] at hl
 ·exact awK hf hname hb hn he _ _ _ _ _ _ _ r hv hp hl
theorem akR [Glob] {g:FuncId} {fn:Func} (hf:P.funcs[g]?=some fn) (hname:(fn.name == "runtime.NumGoroutine")=false) (hb:fn.body.isNone=true) (hn:Extern.findNext fn=none) (he:Extern.find fn=some Extern.BytealgIndexByte.indexByte):nU P g AB:=by
 intro aJc s E w vals u s' r hv hp hl;unfold AB at hl;split at hl
 ·rename_i e c;split at hl
  ·rename_i hc;have:=aH hl;simp only [aJg] at this;obtain⟨rfl,rfl⟩:=this;simp only [bP,VR,SE.den] at hv;obtain⟨u1,r1,rfl,hrd,u2,r2,rfl,rfl,rfl⟩:=hv;obtain⟨st,rfl,hd⟩:=hrd.string;refine⟨rfl,hp,?_⟩;unfold vH vG;rw [Eh hf hname hb hn he (Lib.run_indexByteString st (Int.ofNat c) w)];refine⟨E,Stp.refl _ _ _,r,?_⟩;simp only [VR,SE.den,iY.den];have:(Int.ofNat c).toNat.toUInt8=UInt8.ofNat c:=rfl;rw [this,<- aBm hc,hd];unfold Bo wQ;rw [aW];rfl
  ·simp [T.leaf] at hl
 ·exact arK hf hname hb hn he _ _ _ _ _ _ _ r hv hp hl
theorem Xf [Glob] {g:FuncId} (hg: ∀(ρ:Nat->Int) (ro:Nat->Prop) (w:World),Glob.ok ρ ro w.heap->∀s sub:ByteArray,s.size<4294967281->Calls P g #[.string s,.string sub] w fun e w'=>e= .returned (.bool (Lib.contains s.data.toList sub.data.toList))/\w'=w)
 (hrun: ∀(args:Array Value) (w:World),(callFunc g args).run P w= .ok (.enter g args) w):nU P g sW:=by
 intro aJc s E w vals u s' r hv hp hl;unfold sW at hl;split at hl
 ·rename_i b e;split at hl
  ·rename_i hlen;have:=aH hl;simp only [aJg] at this;obtain⟨rfl,rfl⟩:=this;simp only [bP,VR] at hv;obtain⟨u1,r1,rfl,⟨rfl,hbb⟩,u2,r2,rfl,hrd,rfl⟩:=hv;obtain⟨st,rfl,hd⟩:=hrd.string;refine⟨rfl,hp,?_⟩;unfold vH vG;rw [hrun];refine Calls.mono (hg E.ρ E.ro w r.glob (cO b) st (by simpa [cO,ByteArray.size] using hlen)) fun e' w' ⟨he,hw⟩=>?_;subst hw;refine⟨_,he,E,Stp.refl _ _ _,r,?_⟩;simp only [VR,SB.den,SE.den,iY.den,aF];have h2:(cO b).data.toList=b.map UInt8.ofNat:=by simp [cO]
   rw [h2,hd,Il b hbb];unfold Bo wQ;rw [aW,aW,aiB];cases Lib.contains (b.map UInt8.ofNat) st.data.toList<;>rfl
  ·simp [T.leaf] at hl
 ·exact Zl hg hrun _ _ _ _ _ _ _ r hv hp hl
end
end
end Go.As
end

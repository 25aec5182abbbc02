import Derived.Deep.LoopGhost
import Derived.IntWalk
import Derived.ChangeArms
import Derived.DataReads
import GoSem.ClaimJoined
import Derived.OpenShut
import Derived.KernelRfl
import Derived.Test.YtakeldbjhhiinaaGreatDoorProg
import Derived.Shelf.Strings.Search3
import Derived.Shelf.LaysM
import Derived.Shelf.Strings.Shaped
import Derived.Test.YtakeldbjhhiinaaGreatDoorAsZS1
set_option linter.unusedSectionVars false
set_option linter.unusedVariables false
set_option linter.unusedSimpArgs false
section
namespace Go.As
noncomputable section
def EO (pos:Nat->Nat) (o:Oper):Oper:={ o with after:=o.after.map (fun e=>{ e with on:=pos e.on }),guard:=match o.guard with |none=>none|some (j,b)=>some (pos j,b) }
def posOf:List Nat->Nat->Nat
 |[],_=>0
 |x::xs,i=>match Nat.beq x i with
  |true=>0
  |false=>posOf xs i+1
def JZ (pos:Nat->Nat) (all:List Oper):List Nat->List Oper
 |[]=>[]
 |i::is=>match iD all i with
  |some o=>EO pos o::JZ pos all is
  |none=>[]
def jA (ord:List Nat) (all:List Oper):List Oper:=JZ (posOf ord) all ord
def Vm (ord:List Nat) (n:Nat):Bool:=
 Nat.beq ord.length n&&(List.range n).all (fun i=>match iD ord (posOf ord i) with |some j=>Nat.beq i j|none=>false)&&
 (List.range n).all (fun j=>match iD ord j with |some i=>Nat.blt i n&&Nat.beq (posOf ord i) j|none=>false)
theorem XI: ∀(ord:List Nat) (i:Nat),posOf ord i<=ord.length
 |[],_=>aIV _
 |x::xs,i=>by
  simp only [posOf,aI5];split
  ·omega
  ·have:=XI xs i; omega
theorem Sr: ∀(ord:List Nat) (i:Nat),posOf ord i<ord.length->ord[posOf ord i]?=some i
 |[],_,h=>by simp [posOf] at h
 |x::xs,i,h=>by
  simp only [posOf,aI5] at h ⊢;split
  ·rename_i he;simp [aIW he]
  ·rename_i he;rw [he] at h;simp only at h;simpa using Sr xs i (by omega)
structure Perm (n:Nat) (ord:List Nat):Prop where
 len:ord.length=n
 at': ∀i,i<n->ord[posOf ord i]?=some i
 back: ∀j,j<n->∃i,ord[j]?=some i/\i<n/\posOf ord i=j
theorem ajB {ord:List Nat} {n:Nat} (h:Vm ord n=true):Perm n ord:=by
 unfold Vm at h;simp only [aIU,aJg,aJL] at h;obtain⟨⟨h1,h2⟩,h3⟩:=h;refine⟨aIW h1,fun i hi=>?_,fun j hj=>?_⟩
 ·have:=h2 i hi;split at this
  ·rename_i j hjj;rw [dD] at hjj;rw [hjj,aIW this]
  ·simp at this
 ·have:=h3 j hj;split at this
  ·rename_i i hii;rw [dD] at hii;simp only [aIU] at this;exact⟨i,hii,by simpa [aJ0] using this.1,aIW this.2⟩
  ·simp at this
theorem Perm.lt {n:Nat} {ord:List Nat} (p:Perm n ord) {i:Nat} (hi:i<n):posOf ord i<n:=by have:=p.at' i hi;rw [<- p.len];exact (aJf.1 this).1
theorem Perm.ge {n:Nat} {ord:List Nat} (p:Perm n ord) {i:Nat} (hi: ¬i<n):posOf ord i=n:=by
 have h1:=XI ord i;rw [p.len] at h1;rcases aJb (posOf ord i) n with h|h
 ·have h2:=Sr ord i (by rw [p.len]; exact h);obtain⟨k,h3,h4,_⟩:=p.back _ h;rw [h2] at h3;simp only [aIS] at h3;omega
 ·omega
theorem Perm.inj {n:Nat} {ord:List Nat} (p:Perm n ord) {i j:Nat} (hi:i<n) (hj:j<n) (h:posOf ord i=posOf ord j):i=j:=by have h1:=p.at' i hi;have h2:=p.at' j hj;rw [h,h2] at h1;simpa using h1.symm
theorem Sz {pos:Nat->Nat} {all:List Oper}: ∀{is:List Nat},(∀i∈is,i<all.length)->∀j:Nat,(JZ pos all is)[j]?=(is[j]?).bind fun i=>(all[i]?).map (EO pos)
 |[],_,j=>by simp [JZ]
 |i::is,h,j=>by
  have hi:=h i (by simp);have ih:=Sz (pos:=pos) (is:=is) fun k hk=>h k (by simp [hk]);simp only [JZ];rw [dD,aI6 hi]
  cases j with
  |zero=>simp [aI6 hi]
  |succ j=>simpa using ih j
section
variable {P:Program}
theorem uD {ord:List Nat} {ops:Array Oper} (p:Perm ops.size ord) {i:Nat} (hi:i<ops.size):(jA ord ops.toList)[posOf ord i]?=(ops[i]?).map (EO (posOf ord)):=by
 unfold jA
 rw [Sz (by
  intro k hk;obtain⟨j,hj,rfl⟩:=aKi hk;obtain⟨i',h1,h2,_⟩:=p.back j (by rw [<- p.len]; exact hj);rw [aI6 hj] at h1;simp only [aIS] at h1;rw [h1]
  simpa using h2),p.at' i hi]
 simp
theorem xC {ord:List Nat} {ops:Array Oper} (p:Perm ops.size ord):(jA ord ops.toList).length=ops.size:=by
 have h0: ∀j,j<ops.size->(jA ord ops.toList)[j]?.isSome=true:=by intro j hj;obtain⟨i,_,h2,h3⟩:=p.back j hj;have:=uD p h2;rw [h3] at this;rw [this];simp [h2]
 have hle:(jA ord ops.toList).length<=ops.size:=by
  have: ∀(is:List Nat),(JZ (posOf ord) ops.toList is).length<=is.length:=by
   intro is
   induction is with
   |nil=>simp [JZ]
   |cons i is ih=>simp only [JZ]; split<;>simp; omega
  have:=this ord;rw [p.len] at this;exact this
 rcases aJb (jA ord ops.toList).length ops.size with h|h
 ·have:=h0 _ h;rw [aJH (aIV _)] at this;simp at this
 ·omega
theorem aoV (pos:Nat->Nat) (o:Oper) (a:Act) (w:World) (K:Act->World->Prop) (Q:Exit->Act->World->Prop):(EO pos o).wp P a w K Q=o.wp P a w K Q:=rfl
theorem aaF (pos:Nat->Nat) (o:Oper) (a:Act) (w:World):(EO pos o).asks P a w=o.asks P a w:=rfl
theorem UM {ord:List Nat} {ops:Array Oper} (p:Perm ops.size ord) (tmps:Array Value) (j:Nat):yielded (jA ord ops.toList).toArray tmps (posOf ord j)=yielded ops tmps j:=by
 unfold yielded
 have:((jA ord ops.toList).toArray[posOf ord j]?).bind (·.dst)=(ops[j]?).bind (·.dst):=by
  rw [aKC];rcases aJb j ops.size with h|h
  ·rw [uD p h];cases ops[j]?<;>rfl
  ·rw [p.ge (by omega),aJH (by rw [xC p]; exact aIV _),aKj h]
 rw [this]
theorem Xj {ord:List Nat} {ops:Array Oper} (p:Perm ops.size ord) (tmps:Array Value) (o:Oper) :
 Region.wanted (EO (posOf ord) o) (yielded (jA ord ops.toList).toArray tmps)=Region.wanted o (yielded ops tmps):=by
 unfold Region.wanted EO
 cases hg:o.guard with
 |none=>rfl
 |some g=> obtain⟨j,b⟩:=g;simp only;rw [UM p]
theorem nC {md:Region.Mode} {ops:Array Oper} {listed:Array Bool} {i:Nat}:i∈Region.ready md ops listed↔∃o,ops[i]?=some o/\listed.getD i true=false/\∀e∈o.after.toList,Region.binds md e=true->listed.getD e.on false=true:=by
 unfold Region.ready;simp only [aJU,aJL,aIU,aJZ];constructor
 ·rintro⟨h1,h2,h3⟩;have e:=aK6 h1;refine⟨_,e,h2,?_⟩;rw [e] at h3;simp only [aJw,aIY,aLA] at h3;intro x hx hb;have:=h3 x (by simpa using hx);rw [hb] at this;simpa using this
 ·rintro⟨o,h1,h2,h3⟩;have hi:i<ops.size:=(aJn.1 h1).1;refine⟨hi,h2,?_⟩;rw [h1];simp only [aJw,aIY,aLA];intro x hx
  cases hb:Region.binds md x with
  |false=>rfl
  |true=>simpa using h3 x (by simpa using hx) hb
theorem Fv {md:Region.Mode} {ord:List Nat} {ops:Array Oper} (p:Perm ops.size ord) {listed listed':Array Bool} (hz:listed.size=ops.size) (hz':listed'.size=ops.size) (hl: ∀i,i<ops.size->listed'[posOf ord i]?=listed[i]?) {i:Nat} (hi:i<ops.size) :
 posOf ord i∈Region.ready md (jA ord ops.toList).toArray listed'↔i∈Region.ready md ops listed:=by
 have hg: ∀(k:Nat) (d:Bool),listed'.getD (posOf ord k) d=listed.getD k d:=by
  intro k d;simp only [aJB];rcases aJb k ops.size with h|h
  ·rw [hl k h]
  ·rw [p.ge (by omega),aKj (by omega),aKj (by omega)]
 rw [nC,nC,aKC,uD p hi,hg];constructor
 ·rintro⟨o,h1,h2,h3⟩;rw [aJe] at h1;obtain⟨o0,h0,rfl⟩:=h1;refine⟨o0,h0,h2,fun e he hb=>?_⟩
  have:=h3 { e with on:=posOf ord e.on } (by
   simp only [EO,aLc,aJh]
   exact⟨e,he,rfl⟩) hb
  rwa [hg] at this
 ·rintro⟨o,h1,h2,h3⟩;refine⟨EO (posOf ord) o,by rw [h1]; rfl,h2,fun e he hb=>?_⟩;simp only [EO,aLc,aJh] at he;obtain⟨e0,he0,rfl⟩:=he;show listed'.getD (posOf ord e0.on) false=true;rw [hg];exact h3 e0 he0 hb
theorem Zw {md:Region.Mode} {ord:List Nat} {ops:Array Oper} (p:Perm ops.size ord) {Q:Exit->Act->World->Prop}: ∀(fuel:Nat) (listed listed':Array Bool) (a:Act) (w:World),listed.size=ops.size->listed'.size=ops.size->
 (∀i,i<ops.size->listed'[posOf ord i]?=listed[i]?)->wpAny P md (jA ord ops.toList).toArray Q fuel listed' a w->wpAny P md ops Q fuel listed a w:=by
 have aF3: ∀(listed listed':Array Bool),listed.size=ops.size->listed'.size=ops.size->(∀i,i<ops.size->listed'[posOf ord i]?=listed[i]?)->
  (Region.ready md (jA ord ops.toList).toArray listed'= []↔Region.ready md ops listed= []):=by
  intro listed listed' hz hz' hl;constructor
  ·intro h;rw [aKS] at h ⊢;intro i hm
   have hi:i<ops.size:=by obtain⟨o,ho,_⟩:=nC.1 hm;exact (aJn.1 ho).1
   exact h _ ((Fv p hz hz' hl hi).2 hm)
  ·intro h;rw [aKS] at h ⊢;intro j hm
   have hj:j<ops.size:=by obtain⟨o,ho,_⟩:=nC.1 hm;rw [aKC] at ho;rw [<- xC p];exact (aJf.1 ho).1
   obtain⟨i,_,h2,h3⟩:=p.back j hj;subst h3;exact h _ ((Fv p hz hz' hl h2).1 hm)
 intro fuel
 induction fuel with
 |zero=> intro listed listed' a w hz hz' hl h;exact⟨(aF3 _ _ hz hz' hl).1 h.1,h.2⟩
 |succ fuel ih=>
  intro listed listed' a w hz hz' hl h;refine⟨fun h0=>h.1 ((aF3 _ _ hz hz' hl).2 h0),fun i hm=>?_⟩
  have hi:i<ops.size:=by obtain⟨o,ho,_⟩:=nC.1 hm;exact (aJn.1 ho).1
  have hh:=h.2 _ ((Fv p hz hz' hl hi).2 hm)
  have hstep: ∀a w,wpAny P md (jA ord ops.toList).toArray Q fuel (listed'.setIfInBounds (posOf ord i) true) a w->wpAny P md ops Q fuel (listed.setIfInBounds i true) a w:=by
   intro a w hw;refine ih _ _ a w (by simp [hz]) (by simp [hz']) (fun k hk=>?_) hw;rw [aKD,aKD];by_cases hik:i=k
   ·subst hik;rw [aIR rfl,aIR rfl,hz,hz',aIR hi,aIR (p.lt hi)]
   ·rw [aIQ hik,aIQ (fun h=>hik (p.inj hi hk h)),hl k hk]
  have h2:=wpOp_mono hstep hh;unfold wpOp at h2 ⊢;rw [aKC,uD p hi] at h2
  cases ho:ops[i]? with
  |none=>rw [ho] at h2; exact h2
  |some o=> rw [ho] at h2;simp only [aJw] at h2 ⊢;rw [Xj p,aoV,aaF] at h2;exact h2
structure awM where
 ord:List Nat
 h:Zj
def auW (tt:TT) (H:Nat->Nat->Option awM) (call:dS) (g id:Nat) (all:List Oper) (s:St):T St:=match H g id with
 |some p=>match p.ord with
  |[]=>Pq tt call all (statOf all p.h) s
  |o::os=>match jA (o::os) all with
   |all'=>Pq tt call all' (statOf all' p.h) s
 |none=> .fail
def aFa (tt:TT) (H:Nat->Nat->Option awM) (g id:Nat) (all:List Oper):Bool:=match H g id with
 |some p=>match p.ord with
  |[]=>CV tt all p.h
  |o::os=>Vm (o::os) all.length&&CV tt (jA (o::os) all) p.h
 |none=>true
theorem auV [Glob] {tt:TT} (htt:eX P tt) (hm:P.follows .mixedOrders=true) {H:Nat->Nat->Option awM} {call:dS} (hc:kQ P call) (g:Nat):Dx P (aFa tt H g) (auW tt H call g):=by
 intro id ops hk E s s' a w Q hd fit h hq;unfold aFa at hk;unfold auW at h;split at hk
 ·rename_i p hp;rw [hp] at h;simp only at h;split at hk
  ·rename_i he;rw [he] at h;have:=Jp hk;refine aAN htt hm hc id ops E s s' a w Q hd fit ?_ hq;unfold draw;rw [this];exact h
  ·rename_i o os he;rw [he] at h;simp only at h;simp only [aIU] at hk;have hp:=ajB hk.1;have hp:Perm ops.size (o::os):=by simpa using hp
   have:=Jp hk.2;refine wp_region_any hm ?_
   have hd': ∀x∈((jA (o::os) ops.toList).toArray).toList,∀d,x.dst=some d->d<a.tmps.size:=by
    intro x hx d hxd;obtain⟨j,hj,rfl⟩:=aKi hx;have hj':j<ops.size:=by rw [<- xC hp]; exact hj
    obtain⟨i,_,h2,h3⟩:=hp.back j hj';have hg:=uD hp h2;rw [h3] at hg
    have hx2:(jA (o::os) ops.toList)[j]?=some ((jA (o::os) ops.toList).toArray.toList[j]):=by rw [aI6 hj]
    rw [hx2] at hg;rw [aK6 h2] at hg;simp only [aJw,aIS] at hg;rw [hg] at hxd;exact hd (ops[i]) (by simp) d hxd
   have key:=Po (ops:=(jA (o::os) ops.toList).toArray) htt hc hd' fit (by
    unfold draw;rw [this]
    exact h) hq
   have hsz:(jA (o::os) ops.toList).toArray.size=ops.size:=by simpa using xC hp
   rw [hsz] at key;refine Zw hp _ _ _ _ _ (by simp) (by simp) (fun i hi=>?_) key;rw [aKk,aKk,aIR hi,aIR (hp.lt hi)]
 ·rename_i hh;rw [hh] at h;simp [T.leaf] at h
end
end
end Go.As
end
section
namespace Go.As
noncomputable section
def SA (h:Hp):List Nat->Tr dW->Tr dW
 |[],t=>t
 |i::is,t=>match h.get i with
  |some o=>SA h is (t.put i (some o))
  |none=>SA h is t
theorem Jc {h:Hp}: ∀(is:List Nat) (t:Tr dW),(∀id o,t.get id=some o->h.get id=some o)->∀id o,(SA h is t).get id=some o->h.get id=some o
 |[],_,ht,id,o,hg=>ht id o hg
 |i::is,t,ht,id,o,hg=>by
  simp only [SA] at hg;split at hg
  ·rename_i x hx;refine Jc is _ (fun j y hy=>?_) id o hg;rw [Tr.get_put] at hy;split at hy
   ·rename_i he;subst he;simp only [aIS] at hy;subst hy;exact hx
   ·exact ht j y hy
  ·exact Jc is t ht id o hg
def Ja:List (SE×List AV)->List (SE×List AV)->Bool
 |[],[]=>true
 |(i,a)::x,(j,b)::y=>gZ i j&&kV a b&&Ja x y
 |_,_=>false
theorem RU: ∀{a b:List (SE×List AV)},Ja a b=true->a=b
 |[],[],_=>rfl
 |[],_::_,h=>by simp [Ja] at h
 |_::_,[],h=>by simp [Ja] at h
 |(i,a)::x,(j,b)::y,h=>by simp only [Ja,aIU] at h;rw [bZ _ _ h.1.1,iI _ _ h.1.2,RU h.2]
def U9:dW->dW->Bool
 | .cells a e,.cells b f=>kV a b&&Nat.beq e f
 | .vec a t e x,.vec b u f y=>gZ a b&&Nat.beq t u&&Nat.beq e f&&Ja x y
 |_,_=>false
theorem Z9 {a b:dW} (h:U9 a b=true):a=b:=by
 cases a<;>cases b<;>simp only [U9,aI9,aIU] at h
 ·rw [iI _ _ h.1,aIW h.2]
 ·rw [bZ _ _ h.1.1.1,aIW h.1.1.2,aIW h.1.2,RU h.2]
def JU {α:Type} (f:α->α->Bool):Tr α->Tr α->Bool
 | .nil,.nil=>true
 | .node v l r,.node u x y=>(match v,u with |some a,some b=>f a b|none,none=>true|_,_=>false)&&JU f l x&&JU f r y
 |_,_=>false
theorem Gv {α:Type} {f:α->α->Bool} (hf: ∀a b,f a b=true->a=b): ∀(a b:Tr α),JU f a b=true->a=b
 | .nil,b,h=>by cases b<;>simp [JU] at h; rfl
 | .node v l r,b,h=>by
   cases b with
   |nil=>simp [JU] at h
   |node u x y=>
    simp only [JU,aIU] at h;rw [Gv hf l x h.1.2,Gv hf r y h.2];have h1:=h.1.1;cases v<;>cases u<;>simp only [aI9] at h1
    ·rfl
    ·rw [hf _ _ h1]
def inL (i:Nat):List Nat->Bool
 |[]=>false
 |j::l=>match Nat.beq i j with
  |true=>true
  |false=>inL i l
theorem VH {i:Nat}: ∀{l:List Nat},inL i l=true↔i∈l
 |[]=>by simp [inL]
 |j::l=>by
  simp only [inL,aI3];split
  ·rename_i h; simp [aIW h]
  ·rename_i h; rw [VH]; simp [aKr h]
def without (i:Nat):List Nat->List Nat
 |[]=>[]
 |j::l=>match Nat.beq i j with
  |true=>without i l
  |false=>j::without i l
theorem xE {i k:Nat}: ∀{l:List Nat},k∈without i l↔k∈l/\k≠i
 |[]=>by simp [without]
 |j::l=>by
  simp only [without];split
  ·rename_i h;have:=aIW h;subst this;rw [xE];simp only [aI3];constructor
   ·rintro⟨h1,h2⟩; exact⟨.inr h1,h2⟩
   ·rintro⟨h1|h1,h2⟩
    ·exact absurd h1 h2
    ·exact⟨h1,h2⟩
  ·rename_i h;have:=aKr h;simp only [aI3];rw [xE];constructor
   ·rintro (rfl|⟨h1,h2⟩)
    ·exact⟨.inl rfl,fun e=>this e.symm⟩
    ·exact⟨.inr h1,h2⟩
   ·rintro⟨h1|h1,h2⟩
    ·exact .inl h1
    ·exact .inr ⟨h1,h2⟩
def Ti (all:List Oper) (rem:List Nat) (i:Nat):Bool:=match iD all i with
 |some o=>o.after.toList.all fun e=>!Region.binds .any e||(!inL e.on rem&&Nat.blt e.on all.length)
 |none=>false
def Y6 (tt:TT) (call:dS) (all:List Oper) (pc:List (SB×Bool)) (tS:Tr AV) (tH:Hp):Nat->List Nat->Tr AV->Hp->Bool
 |0,rem,S,H=>match rem with
  |[]=>JU fD S tS&&JU U9 H.m tH.m&&Nat.beq H.next tH.next&&(match H.res with |none=>true|_=>false)
  |_=>false
 |n+1,rem,S,H=>match rem with
  |[]=>false
  |_=>rem.any (Ti all rem)&&rem.all fun i=>match Ti all rem i with
   |false=>true
   |true=>match iD all i with
    |some o=>match ev1 tt call all o ⟨S,H,pc⟩ with
     | .ret (v,s')=>Y6 tt call all pc tS tH n (without i rem) (BU S o.dst v) s'.h
     |_=>false
    |none=>false
section
variable {P:Program}
theorem aoH {E:En} {h:Array Obj} {S:Tr AV} {a:Act} (sr:SR E h S a) {d:Option Nat} {v:AV} {u:Value} (hd: ∀t,d=some t->t<a.tmps.size) (hv:VR E h v u):SR E h (BU S d v) (a.put d u):=by
 cases d with
 |none=>exact sr
 |some t=>exact sr.put (hd t rfl) hv
theorem awE [Glob] {tt:TT} (htt:eX P tt) {call:dS} (hc:kQ P call) {ops:Array Oper} {ρ:Nat->Int} {pc:List (SB×Bool)} (hpc:bM ρ pc) {tS:Tr AV} {tH:Hp} (htr:tH.res=none) {Q:Exit->Act->World->Prop} {m:Nat} (hd: ∀o∈ops.toList,∀d,o.dst=some d->d<m) :
 ∀(n:Nat) (rem:List Nat) (S:Tr AV) (H:Hp) (E:En) (a:Act) (w:World) (listed:Array Bool),Y6 tt call ops.toList pc tS tH n rem S H=true->E.ρ=ρ->bJ E H w->SR E w.heap S a->a.tmps.size=m->listed.size=ops.size->
  (∀i,i<ops.size->(listed[i]?=some true↔i∉rem))->(∀i∈rem,i<ops.size)->
  (∀(a':Act) (w':World) (E':En),Stp E H w E' tH w'->bJ E' tH w'->SR E' w'.heap tS a'->a'.tmps.size=m->a'.defers=a.defers->Q .normal a' w')->wpAny P .any ops Q n listed a w:=by
 intro n;have hat: ∀(i:Nat),iD ops.toList i=ops[i]?:=fun i=>by rw [dD,aJu]
 have aoW: ∀(rem:List Nat) (listed:Array Bool),listed.size=ops.size->(∀i,i<ops.size->(listed[i]?=some true↔i∉rem))->∀i,i∈Region.ready .any ops listed->i∈rem/\Ti ops.toList rem i=true/\i<ops.size:=by
  intro rem listed hsz hl i hi;obtain⟨o,ho,h1,h2⟩:=nC.1 hi;have hin:i<ops.size:=(aJn.1 ho).1
  have hf:listed[i]?=some false:=by
   have e:listed[i]?=some (listed[i]'(by omega)):=by simp
   rw [e];simp only [aJB,e,aIY] at h1;rw [h1]
  refine⟨?_,?_,hin⟩
  ·apply Classical.byContradiction;intro hn;rw [(hl i hin).2 hn] at hf;simp at hf
  ·unfold Ti;rw [hat,ho];simp only [aJg];intro e he
   cases hb:Region.binds .any e with
   |false=>rfl
   |true=>
    have:=h2 e he hb
    have hlt:e.on<ops.size:=by
     rcases aJb e.on ops.size with h|h
     ·exact h
     ·simp [aJB,aKj (show listed.size<=e.on by omega)] at this
    simp only [aKU,aKB,aIU,aJZ];refine⟨?_,by simpa [aJ0] using hlt⟩
    cases hin2:inL e.on rem with
    |false=>rfl
    |true=>
     exfalso;have hm:=VH.1 hin2;have e1:listed[e.on]?=some (listed[e.on]'(by omega)):=by simp [hsz,hlt]
     simp only [aJB,e1,aIY] at this;rw [this] at e1;exact (hl e.on hlt).1 e1 hm
 have aDn: ∀(rem:List Nat) (listed:Array Bool),listed.size=ops.size->(∀i,i<ops.size->(listed[i]?=some true↔i∉rem))->(∀i∈rem,i<ops.size)->rem.any (Ti ops.toList rem)=true->Region.ready .any ops listed≠[]:=by
  intro rem listed hsz hl hr hany hnil;rw [aLm] at hany;obtain⟨i,hi,hm⟩:=hany;have hin:=hr i hi
  have:i∈Region.ready .any ops listed:=by
   rw [nC];unfold Ti at hm;rw [hat] at hm;split at hm
   ·rename_i o ho;refine⟨o,ho,?_,fun e he hb=>?_⟩
    ·have e1:listed[i]?=some (listed[i]'(by omega)):=by simp [hsz,hin]
     simp only [aJB,e1,aIY]
     cases hb:listed[i]'(by omega) with
     |false=>rfl
     |true=> rw [hb] at e1;exact absurd hi ((hl i hin).1 e1)
    ·rw [aJg] at hm;have:=hm e he;rw [hb] at this;simp only [aKU,aKB,aIU,aJZ] at this;obtain⟨this,hlt⟩:=this;have hlt:e.on<ops.size:=by simpa [aJ0] using hlt
     have hnot:e.on∉rem:=fun h=>by rw [VH.2 h] at this; simp at this
     have:=(hl e.on hlt).2 hnot;simp [aJB,this]
   ·simp at hm
  rw [hnil] at this;simp at this
 induction n with
 |zero=>
  intro rem S H E a w listed h hρ r sr ha hsz hl hr hq;simp only [Y6] at h;split at h
  ·simp only [aIU] at h;obtain⟨⟨⟨h1,h2⟩,h3⟩,h4⟩:=h;have e1:=Gv oM _ _ h1;have e2:=Gv (fun _ _=>Z9) _ _ h2;have e3:=aIW h3
   have e4:H.res=none:=by
    split at h4
    ·assumption
    ·simp at h4
   have eH:H=tH:=by obtain⟨m1,n1,r1⟩:=H;obtain⟨m2,n2,r2⟩:=tH;simp only at e2 e3 e4 htr;subst e2 e3 e4 htr;rfl
   subst e1 eH;refine⟨?_,hq a w E (Stp.refl _ _ _) r sr ha rfl⟩;rw [aKS];intro i hi;have:=(aoW [] listed hsz hl i hi).1;simp at this
  ·simp at h
 |succ n ih=>
  intro rem S H E a w listed h hρ r sr ha hsz hl hr hq;simp only [Y6] at h;split at h
  ·simp at h
  ·rename_i hne;simp only [aIU] at h;refine⟨fun h0=>absurd h0 (aDn rem listed hsz hl hr h.1),fun i hi=>?_⟩;obtain⟨g1,g2,g3⟩:=aoW rem listed hsz hl i hi;have hi2:=(aJg.1 h.2) i g1;rw [g2] at hi2;simp only at hi2;split at hi2
   ·rename_i o ho;have ho':ops[i]?=some o:=by rw [<- hat]; exact ho
    split at hi2
    ·rename_i v s' hev;have hact:=Wq htt hc (ops:=ops) (o:=o) (s:=⟨S,H,pc⟩) (s':=s') (v:=v) (ρ:=ρ) hpc (by rw [hev]; rfl);refine hact.wpOp hρ r sr ho' fun u E' w' st r' hv=>?_
     have hdo: ∀t,o.dst=some t->t<a.tmps.size:=by intro t ht;rw [ha];exact hd o (Array.mem_toList_iff.2 (aKR ho')) t ht
     have sr':SR E' w'.heap (BU S o.dst v) (a.put o.dst u):=aoH (sr.keep (st.keeps r)) hdo hv;refine ih (without i rem) _ _ E' (a.put o.dst u) w' (listed.setIfInBounds i true) hi2 (st.ρ.trans hρ) r' sr' (by rw [NT]; exact ha) (by simpa using hsz) ?_ ?_ ?_
     ·intro k hk;rw [aKD,xE];by_cases hik:i=k
      ·subst hik;rw [aIR rfl,aIR (by omega)];simp
      ·rw [aIQ hik,hl k hk];constructor
       ·intro h1 h2; exact h1 h2.1
       ·intro h1 h2; exact h1 ⟨h2,fun e=>hik e.symm⟩
     ·intro k hk;exact hr k (xE.1 hk).1
     ·intro a' w2 E2 st2 r2 sr2 hs2 hd2;exact hq a' w2 E2 (st.trans st2) r2 sr2 hs2 (by rw [hd2,As.put_defers])
    ·simp at hi2
   ·simp at hi2
end
end
end Go.As
end
section
namespace Go.As
noncomputable section
def Pj (o:Oper) (j:Nat):Bool:=o.after.toList.any fun e=>Region.binds .any e&&Nat.beq e.on j
def U8 (n1:Nat) (all:List Oper):Bool:=
 Nat.blt 0 n1&&Nat.ble n1 all.length&&
 (List.range all.length).all (fun j=>match iD all j with
  |some o=>match Nat.blt j n1 with
   |true=>(o.after.toList.all fun e=>!Region.binds .any e||Nat.blt e.on j)&&(match o.guard with |some (k,_)=>Nat.blt k n1|none=>true)
   |false=>Pj o (n1-1)
  |none=>false)&&
 (match iD all (n1-1) with
  |some o=>(List.range (n1-1)).all fun i=>Pj o i
  |none=>false)
structure acT (n1:Nat) (ops:Array Oper):Prop where
 pos:0<n1
 le:n1<=ops.size
 back: ∀(i:Nat) (o:Oper),i<n1->ops[i]?=some o->∀e∈o.after.toList,Region.binds .any e=true->e.on<i
 guard: ∀(i:Nat) (o:Oper),i<n1->ops[i]?=some o->∀k b,o.guard=some (k,b)->k<n1
 late: ∀(i:Nat) (o:Oper),n1<=i->ops[i]?=some o->∃e∈o.after.toList,Region.binds .any e=true/\e.on=n1-1
 last: ∀(o:Oper),ops[n1-1]?=some o->∀i,i<n1-1->∃e∈o.after.toList,Region.binds .any e=true/\e.on=i
theorem Ue {o:Oper} {j:Nat} (h:Pj o j=true): ∃e∈o.after.toList,Region.binds .any e=true/\e.on=j:=by unfold Pj at h;rw [aLm] at h;obtain⟨e,he,h⟩:=h;simp only [aIU] at h;exact⟨e,he,h.1,aIW h.2⟩
theorem Z4 {n1:Nat} {ops:Array Oper} (h:U8 n1 ops.toList=true):acT n1 ops:=by
 have hat: ∀(i:Nat),iD ops.toList i=ops[i]?:=fun i=>by rw [dD,aJu]
 unfold U8 at h;simp only [aIU] at h;obtain⟨⟨⟨h1,h2⟩,h3⟩,h4⟩:=h;have h1:0<n1:=by simpa [aJ0] using h1
 have h2:n1<=ops.size:=by simpa using aJM h2
 rw [aJg] at h3
 have h3: ∀(i:Nat) (o:Oper),ops[i]?=some o->(match Nat.blt i n1 with
  |true=>(o.after.toList.all fun e=>!Region.binds .any e||Nat.blt e.on i)&&(match o.guard with |some (k,_)=>Nat.blt k n1|none=>true)
  |false=>Pj o (n1-1))=true:=by
  intro i o ho;have hi:i<ops.size:=(aJn.1 ho).1;have:=h3 i (aJL.2 (by simpa using hi));rw [hat,ho] at this;exact this
 refine⟨h1,h2,?_,?_,?_,?_⟩
 ·intro i o hi ho e he hb;have:=h3 i o ho;rw [show Nat.blt i n1=true by simpa [aJ0] using hi] at this;simp only [aIU] at this;have:=(aJg.1 this.1) e he;rw [hb] at this;simpa [aJ0] using this
 ·intro i o hi ho k b hg;have:=h3 i o ho;rw [show Nat.blt i n1=true by simpa [aJ0] using hi] at this;simp only [aIU,hg] at this;simpa [aJ0] using this.2
 ·intro i o hi ho;have:=h3 i o ho
  rw [show Nat.blt i n1=false by
   cases hb:Nat.blt i n1 with
   |false=>rfl
   |true=>rw [aJ0] at hb; omega] at this
  exact Ue this
 ·intro o ho i hi;rw [hat,ho] at h4;exact Ue ((aJg.1 h4) i (aJL.2 hi))
section
variable {P:Program}
theorem wp_exit {o:Oper} {a:Act} {w:World} {K:Act->World->Prop} {Q1 Q:Exit->Act->World->Prop} (h: ∀e a w,e≠.normal->Q1 e a w->Q e a w) (hh:o.wp P a w K Q1):o.wp P a w K Q:=by
 have hl:LetsOut Q1->LetsOut Q:=fun⟨a,w,h1⟩=> ⟨a,w,h _ _ _ (by simp) h1⟩;unfold Oper.wp at *;generalize (execOp a.eval o).run P w=r at *
 cases r with
 |ok n w'=>
  cases n<;>simp only [Oper.upon] at hh ⊢<;>
   first
    |exact hh
    |exact Calls.mono hh (fun e w'' he=>by cases e<;>first |exact he|exact h _ _ _ (by simp) he|exact hl he)
 |halt x w'=>cases x<;>simp only [Oper.upon] at hh ⊢<;>first |exact hh|exact h _ _ _ (by simp) hh
theorem X3 {l l':Nat->Bool} {i:Nat} (h1:l i=false) (h2:l' i=true) (h: ∀j,j≠i->l' j=l j): ∀n,i<n->left l' n+1=left l n
 |0,hi=>by omega
 |n+1,hi=>by
  simp only [left];by_cases hin:i=n
  ·subst hin
   have: ∀m,m<=i->left l' m=left l m:=by
    intro m
    induction m with
    |zero=>intro _; rfl
    |succ m ih=> intro hm;simp only [left];rw [ih (by omega),h m (by omega)]
   rw [this i (aIV _)];simp [h1,h2]
  ·have:=X3 h1 h2 h n (by omega);rw [h n (fun e=>hin e.symm)];omega
theorem Ot {l:Nat->Bool}: ∀n,(∀i,i<n->l i=true)->left l n=0
 |0,_=>rfl
 |n+1,h=>by simp only [left];rw [Ot n (fun i hi=>h i (by omega)),h n (by omega)];rfl
def firstT (n1 n:Nat):Array Bool:=(Array.range n).map fun i=>decide (i<n1)
theorem Xg {n1:Nat} {ops:Array Oper} (sf:acT n1 ops) {Q Q1:Exit->Act->World->Prop} (hq: ∀e a w,e≠.normal->Q1 e a w->Q e a w) (hn: ∀a w,Q1 .normal a w->wpAny P .any ops Q (ops.size-n1) (firstT n1 ops.size) a w) :
 ∀(f:Nat) (l1 l:Array Bool) (a:Act) (w:World),l1.size=n1->l.size=ops.size->(∀i,i<n1->l[i]?=l1[i]?)->(∀i,n1<=i->i<ops.size->l[i]?=some false)->left (fun i=>l1.getD i true) n1=f->(l1[n1-1]?=some true->f=0)->
  wpAny P .any (ops.toList.take n1).toArray Q1 f l1 a w->wpAny P .any ops Q (f+(ops.size-n1)) l a w:=by
 have hR: ∀i,i<n1->(ops.toList.take n1).toArray[i]?=ops[i]?:=by intro i hi;rw [aKC,aJX,aIR hi,aJu]
 have hRs:(ops.toList.take n1).toArray.size=n1:=by have:=sf.le;simp;omega
 have hlf:LetsOut Q1->LetsOut Q:=fun⟨a,w,h1⟩=> ⟨a,w,hq _ _ _ (by simp) h1⟩
 have hget: ∀(l:Array Bool) (i:Nat),i<l.size->(l.getD i true=true↔l[i]?=some true)/\(l.getD i false=true↔l[i]?=some true):=by
  intro l i hi;have e:l[i]?=some (l[i]'hi):=by simp
  simp only [aJB,e,aIY];simp
 intro f
 induction f with
 |zero=>
  intro l1 l a w h1 h2 h3 h4 h5 h6 hw;have hall:=Jl n1 h5
  have:l=firstT n1 ops.size:=by
   apply Array.ext_getElem?;intro i;unfold firstT;rcases aJb i ops.size with hi|hi
   ·rw [aK4,aK5,aIR hi];rcases aJb i n1 with hi1|hi1
    ·rw [h3 i hi1,((hget l1 i (by omega)).1.1 (hall i hi1))];simp [hi1]
    ·rw [h4 i hi1 hi];simp;omega
   ·rw [aKj (by omega),aKj (by simp; omega)]
  rw [this,aI2];exact hn a w hw.2
 |succ f ih=>
  intro l1 l a w h1 h2 h3 h4 h5 h6 hw;rw [show f+1+(ops.size-n1)=(f+(ops.size-n1))+1 by omega];have hle:=sf.le;have hpos:=sf.pos;have hlast:l1[n1-1]?=some true->False:=fun h=>by have:=h6 h; omega
  refine⟨fun hnil=>?_,fun i hi=>?_⟩
  ·exfalso
   have hall: ∀i,i<n1->l[i]?=some true:=by
    intro i
    induction i using Nat.strongRecOn with
    |_ i ih2=>
     intro hi;apply Classical.byContradiction;intro hno;have hio:ops[i]?=some (ops[i]'(by omega)):=by simp
     have:i∈Region.ready .any ops l:=by
      rw [nC];refine⟨_,hio,?_,fun e he hb=>?_⟩
      ·cases hb:l.getD i true with
       |false=>rfl
       |true=>exact absurd ((hget l i (by omega)).1.1 hb) hno
      ·have hlt:=sf.back i _ hi hio e he hb;exact (hget l e.on (by omega)).2.2 (ih2 e.on hlt (by omega))
     rw [hnil] at this;simp at this
   have:=Ot (l:=fun i=>l1.getD i true) n1 (fun i hi=>(hget l1 i (by omega)).1.2 (by rw [<- h3 i hi]; exact hall i hi));omega
  ·obtain⟨o,ho,g1,g2⟩:=nC.1 hi;have hin:i<ops.size:=(aJn.1 ho).1
   have hi1:i<n1:=by
    rcases aJb i n1 with h|h
    ·exact h
    ·exfalso;obtain⟨e,e1,e2,e3⟩:=sf.late i o h ho;have:=g2 e e1 e2;rw [e3] at this;have:=(hget l (n1-1) (by omega)).2.1 this;rw [h3 _ (by omega)] at this;exact hlast this
   have hl1:l1.getD i true=false:=by
    cases hb:l1.getD i true with
    |false=>rfl
    |true=> have:=(hget l1 i (by omega)).1.1 hb;rw [<- h3 i hi1] at this;have:=(hget l i (by omega)).1.2 this;rw [g1] at this;simp at this
   have hed: ∀e∈o.after.toList,Region.binds .any e=true->l1.getD e.on false=true:=by intro e he hb;have hlt:=sf.back i o hi1 ho e he hb;have:=(hget l e.on (by omega)).2.1 (g2 e he hb);rw [h3 _ (by omega)] at this;exact (hget l1 e.on (by omega)).2.2 this
   have hr1:i∈Region.ready .any (ops.toList.take n1).toArray l1:=by rw [nC];exact⟨o,by rw [hR i hi1]; exact ho,hl1,hed⟩
   have hop:=hw.2 i hr1
   have hnext: ∀a w,wpAny P .any (ops.toList.take n1).toArray Q1 f (l1.setIfInBounds i true) a w->wpAny P .any ops Q (f+(ops.size-n1)) (l.setIfInBounds i true) a w:=by
    intro a w hw2
    have hleft:left (fun j=>(l1.setIfInBounds i true).getD j true) n1=f:=by
     have:=X3 (l:=fun j=>l1.getD j true) (l':=fun j=>(l1.setIfInBounds i true).getD j true) (i:=i) hl1 (by
      simp only [aJB,aKT]
      split<;>rfl) (fun j hj=>by
      simp only [aJB]
      rw [aJR (fun e=>hj e.symm)]) n1 hi1
     omega
    refine ih _ _ a w (by simpa using h1) (by simpa using h2) (fun k hk=>?_) (fun k hk1 hk2=>?_) hleft (fun hlt=>?_) hw2
    ·rw [aKD,aKD,h3 k hk,h1,h2];by_cases hik:i=k
     ·rw [aIR hik,aIR hik,aIR hin,aIR hi1]
     ·rw [aIQ hik,aIQ hik]
    ·rw [aJR (by omega)];exact h4 k hk1 hk2
    ·by_cases hil:i=n1-1
     ·rw [<- hleft];refine Ot n1 fun k hk=>?_;by_cases hk2:k=i
      ·subst hk2;simp only [aJB,aKT];split<;>rfl
      ·obtain⟨e,e1,e2,e3⟩:=sf.last o (by rw [<- hil]; exact ho) k (by omega);have:=hed e e1 e2;rw [e3] at this;have:=(hget l1 k (by omega)).2.1 this;simp only [aJB];rw [aJR (fun e=>hk2 e.symm),this];rfl
     ·rw [aJR hil] at hlt;exact absurd hlt hlast
   have hop:=wpOp_mono hnext hop;unfold wpOp at hop ⊢;rw [hR i hi1,ho] at hop;rw [ho];simp only at hop ⊢
   have hwant:Region.wanted o (yielded (ops.toList.take n1).toArray a.tmps)=Region.wanted o (yielded ops a.tmps):=by
    unfold Region.wanted
    cases hg:o.guard with
    |none=>rfl
    |some g=> obtain⟨k,b⟩:=g;simp only;have:=sf.guard i o hi1 ho k b hg;unfold yielded;rw [hR k this]
   rw [hwant] at hop;split
   ·rename_i hwt;rw [aIR hwt] at hop;rcases hop with h|⟨h,h'⟩
    ·exact .inl (wp_exit hq h)
    ·exact .inr ⟨h,hlf h'⟩
   ·rename_i hwt;rw [aIQ hwt] at hop;exact hop
end
end
end Go.As
end
section
namespace Go.As
noncomputable section
def NQ (n1 n:Nat):List Nat:=(List.range (n-n1)).map fun k=>k+n1
def aFS:AV->List Nat
 | .ptr i _=>[i]
 | .slice i _ _ _=>[i]
 |_=>[]
def aDL (S:Tr AV):List Nat->List Nat
 |[]=>[]
 |t::ts=>match S.get t with
  |some v=>aFS v++aDL S ts
  |none=>aDL S ts
def agC (all:List Oper) (S:Tr AV):List Nat->List Nat
 |[]=>[]
 |i::is=>match iD all i with
  |some o=>aDL S (Ob o.op)++agC all S is
  |none=>agC all S is
def aoK (tt:TT) (call:dS) (all:List Oper) (pc:List (SB×Bool)):List Nat->Tr AV->Hp->Option (Tr AV×Hp)
 |[],S,H=>some (S,H)
 |i::is,S,H=>match iD all i with
  |some o=>match ev1 tt call all o ⟨S,H,pc⟩ with
   | .ret (v,s')=>aoK tt call all pc is (BU S o.dst v) s'.h
   |_=>none
  |none=>none
def WB (tt:TT) (call:dS) (all:List Oper) (n1:Nat) (s1:St):T St:=
 match s1.h.res with
 |some _=> .fail
 |none=>match (⟨SA s1.h (agC all s1.slots (NQ n1 all.length)) .nil,s1.h.next,none⟩ : Hp) with
  |small=>match aoK tt call all s1.pc (NQ n1 all.length) s1.slots small with
   |some (S,H)=>match H.res with
    |none=>match Nat.beq H.next s1.h.next&&Y6 tt call all s1.pc S H (all.length-n1) (NQ n1 all.length) s1.slots small with
     |true=> .ret ⟨S,⟨Tr.over H.m (Tr.minus small.m s1.h.m),s1.h.next,none⟩,s1.pc⟩
     |false=> .fail
    |some _=> .fail
   |none=> .fail
structure UJ where
 ord:List Nat
 n1:Nat
 h:Zj
def Ug (tt:TT) (H:Nat->Nat->Option UJ) (call:dS) (g id:Nat) (all:List Oper) (s:St):T St:=match H g id with
 |some p=>match p.n1 with
  |0=>match p.ord with
   |[]=>Pq tt call all (statOf all p.h) s
   |o::os=>match jA (o::os) all with
    |all'=>Pq tt call all' (statOf all' p.h) s
  |n1=>(Pq tt call (all.take n1) (statOf (all.take n1) p.h) s).bind (WB tt call all n1)
 |none=> .fail
def WM (tt:TT) (H:Nat->Nat->Option UJ) (g id:Nat) (all:List Oper):Bool:=match H g id with
 |some p=>match p.n1 with
  |0=>match p.ord with
   |[]=>CV tt all p.h
   |o::os=>Vm (o::os) all.length&&CV tt (jA (o::os) all) p.h
  |n1=>U8 n1 all&&CV tt (all.take n1) p.h
 |none=>true
section
variable {P:Program}
theorem Tc {n1 n i:Nat} (h:n1<=n):i∈NQ n1 n↔n1<=i/\i<n:=by
 unfold NQ;rw [aJh];constructor
 ·rintro⟨k,hk,rfl⟩;rw [aJL] at hk;omega
 ·rintro⟨h1,h2⟩;exact⟨i-n1,aJL.2 (by omega),by omega⟩
theorem ajO (n:Nat): ∀m,m<=n->left (fun i=>(Array.replicate n false).getD i true) m=m:=by
 intro m
 induction m with
 |zero=>intro _; rfl
 |succ m ih=>
  intro hm;have hlt:m<n:=by omega
  simp only [left];rw [ih (by omega)];simp [hlt]
theorem acL [Glob] {tt:TT} (htt:eX P tt) {call:dS} (hc:kQ P call) {ops:Array Oper} {n1:Nat} (sf:acT n1 ops) {E:En} {s s1 s':St} {a a1:Act} {w w1:World} {Q:Exit->Act->World->Prop}
 (hd: ∀o∈ops.toList,∀d,o.dst=some d->d<a.tmps.size) (ht:Then E s a w s1 a1 w1) (h:(WB tt call ops.toList n1 s1).leaf E.ρ=some s') (hq: ∀a' w',Then E s a w s' a' w'->Q .normal a' w') :
 wpAny P .any ops Q (ops.size-n1) (firstT n1 ops.size) a1 w1:=by
 obtain⟨d1,z1,E1,st1,f1⟩:=ht;have hlen:ops.toList.length=ops.size:=aJp;unfold WB at h;split at h
 ·simp [T.leaf] at h
 ·rename_i hres;simp only at h;split at h
  ·rename_i S H hseq;split at h
   ·rename_i hHr;split at h
    ·rename_i hall;simp only [aIU] at hall;have hnx:=aIW hall.1;have:=aG h;subst this
     have hsub: ∀id o,(⟨SA s1.h (agC ops.toList s1.slots (NQ n1 ops.toList.length)) .nil,s1.h.next,none⟩ : Hp).get id=some o->s1.h.get id=some o:=
      fun id o hg=>Jc _ _ (fun _ _ hh=>by simp [Tr.get] at hh) id o hg
     have rs:=f1.rel.part hsub (aIV _) (by simp);have hpc:bM E1.ρ s1.pc:=f1.pc;have hal:=hall.2;rw [hlen] at hal;refine awE htt hc (ops:=ops) (ρ:=E1.ρ) (pc:=s1.pc) hpc hHr (m:=a.tmps.size) hd (ops.size-n1) (NQ n1 ops.size) s1.slots _ E1 a1 w1 (firstT n1 ops.size) hal rfl (by rw [hlen] at rs; exact rs) f1.sr z1 (by simp [firstT]) ?_ ?_ ?_
     ·intro i hi;rw [Tc sf.le];unfold firstT;rw [aK4,aK5,aIR hi];simp only [aJw,aIS,decide_eq_true_eq];omega
     ·intro i hi;exact ((Tc sf.le).1 hi).2
     ·intro a2 w2 E2 st2 r2 sr2 z2 d2;rw [hlen] at hsub;obtain⟨Hc,e0,_,_,r3,Zl⟩:=arH f1.rel hsub st2 r2 s1.h.next (fun id hid=>r2.fresh id (by omega))
      have dY:=Zl.strong (by rw [e0]; exact aIV _) (by rw [e0]) (fun id hdm=>by
       rcases st2.dmn id hdm with h1|h1|h1
       ·exact .inl h1
       ·have h1':s1.h.next<=id/\id<H.next:=h1;omega
       ·simp at h1)
      subst e0;refine hq a2 w2 ⟨d2.trans d1,z2,E2,st1.trans ?_,?_⟩
      ·rw [hlen]; exact dY
      ·refine⟨by rw [hlen]; exact r3,sr2,?_⟩;show bM E2.ρ s1.pc;rw [st2.ρ];exact hpc
    ·simp [T.leaf] at h
   ·simp [T.leaf] at h
  ·simp [T.leaf] at h
theorem Ie [Glob] {tt:TT} (htt:eX P tt) (hm:P.follows .mixedOrders=true) {H:Nat->Nat->Option UJ} {call:dS} (hc:kQ P call) (g:Nat):Dx P (WM tt H g) (Ug tt H call g):=by
 intro id ops hk E s s' a w Q hd fit h hq;unfold WM at hk;unfold Ug at h;split at hk
 ·rename_i p hp;rw [hp] at h;simp only at h;split at hk
  ·rename_i hn;rw [hn] at h;simp only at h
   have hP:=auV (P:=P) htt hm (H:=fun _ _=>some ⟨p.ord,p.h⟩) hc g id ops (by
    unfold aFa
    exact hk) E s s' a w Q hd fit (by
    unfold auW
    exact h) hq
   exact hP
  ·rename_i n1 hn;split at h
   ·rename_i h0;exact absurd h0 hn
   ·rename_i n1' _;simp only [aIU] at hk;have sf:=Z4 hk.1;have hst:=Jp hk.2;obtain⟨s1,h1,h2⟩:=T.gK h;refine wp_region_any hm ?_;have hle:=sf.le;have hRs:(ops.toList.take p.n1).toArray.size=p.n1:=by simp; omega
    have hd1: ∀o∈(ops.toList.take p.n1).toArray.toList,∀d,o.dst=some d->d<a.tmps.size:=by intro o ho;exact hd o (aJA (by simpa using ho))
    have key:=Po (P:=P) (ops:=(ops.toList.take p.n1).toArray) (Q:=fun e a' w'=>match e with | .normal=>wpAny P .any ops Q (ops.size-p.n1) (firstT p.n1 ops.size) a' w'|e=>Q e a' w') htt hc hd1 fit (s':=s1) (by
     unfold draw;rw [List.toList_toArray,hst]
     exact h1) (fun a' w' ht=>acL htt hc sf hd ht h2 hq)
    rw [hRs] at key
    have:=Xg sf (Q:=Q) (fun e a w hne hh=>by
     cases e with
     |normal=>exact absurd rfl hne
     |_=>exact hh) (fun a w hh=>hh) p.n1 (Array.replicate p.n1 false) (Array.replicate ops.size false) a _ (by simp) (by simp) (fun i hi=>by
     rw [aKk,aKk,aIR hi,aIR (by omega)]) (fun i _ hi=>by
     rw [aKk,aIR hi]) (by
     exact ajO p.n1 p.n1 (aIV _)) (fun hh=>by
     rw [aKk,aIR (by have:=sf.pos; omega)] at hh
     simp at hh) key
    rw [show p.n1+(ops.size-p.n1)=ops.size by omega] at this;exact this
 ·rename_i hh;rw [hh] at h;simp [T.leaf] at h
end
end
end Go.As
end
section
namespace Go.As
noncomputable section
def lim {α:Type} (n:Nat) (t:Tr α) (k:Nat):Option α:=match Nat.ble n k with
 |true=>none
 |false=>t.get k
theorem afM {α:Type} {n:Nat} {t:Tr α} {f:Nat->Option α} (h:(List.range n).map t.get=(List.range n).map f) {k:Nat} {x:α} (hk:lim n t k=some x):f k=some x:=by
 unfold lim at hk;split at hk
 ·simp at hk
 ·rename_i hle
  have hlt:k<n:=by
   have: ¬(n<=k):=by intro h;rw [aKE h] at hle;simp at hle
   omega
  have:=congrArg (fun l=>l[k]?) h;simp only [aJi,aKc hlt,aJw,aIS] at this;rw [<- this];exact hk
section
variable {P:Program}
theorem awW {n:Nat} {tab:Tr TI} (h:(List.range n).map tab.get=(List.range n).map (axD P)):eX P (lim n tab):=fun _ _ hk=>axC (afM h hk)
def aDq (chk:Nat->List Oper->Bool) (f:Func):Bool:=!(f.name == "runtime.NumGoroutine")&&(match f.body with |some c=>nN chk f.ntmps c|none=>true)
def hAt {α:Type} (t:Tr (Tr α)) (g id:Nat):Option α:=match t.get g with
 |some u=>u.get id
 |none=>none
theorem azT {n:Nat} {VL:Tr Func} (h:(List.range n).map VL.get=(List.range n).map (fun g=>P.funcs[g]?)) {chk:Nat->Nat->List Oper->Bool} (hc:(List.range n).all (fun g=>match VL.get g with |some f=>aDq (chk g) f|none=>true)=true):alB P chk (lim n VL):=by
 intro g fn hk;have h1:=afM h hk;refine⟨h1,?_⟩
 have hlt:g<n:=by
  unfold lim at hk;split at hk
  ·simp at hk
  ·rename_i hle;rcases aJb g n with h|h
   ·exact h
   ·rw [aKE h] at hle; simp at hle
 have hget:VL.get g=some fn:=by
  unfold lim at hk;split at hk
  ·simp at hk
  ·exact hk
 have:=aJg.1 hc g (aJL.2 hlt);rw [hget] at this;simp only [aDq,aIU,aJZ] at this;refine⟨this.1,fun c hb=>?_⟩;rw [hb] at this;exact this.2
end
end
end Go.As
end
section
namespace Go.As
noncomputable section
structure Ren where
 ns:List SE
 bl:List Nat
 sh:List Nat
def Ren.se (r:Ren):SE->SE
 | .lit n=> .lit n
 | .aO i=>match iD r.ns i with |some e=>e|none=> .aO i
 | .add a b=> .add (r.se a) (r.se b)
 | .sub a b=> .sub (r.se a) (r.se b)
 | .mul a b=> .mul (r.se a) (r.se b)
 | .quo a b=> .quo (r.se a) (r.se b)
 | .rem a b=> .rem (r.se a) (r.se b)
 | .wrap k a=> .wrap k (r.se a)
 | .inp b e=> .inp b (r.se e)
 | .dat d=> .dat d
 | .op o a b=>match o with
   | .len=>fA (r.se a)
   |o=> .op o (r.se a) (r.se b)
 | .ap f a=> .ap f (r.se a)
def Ren.sb (r:Ren):SB->SB
 | .lit b=> .lit b
 | .lt a b=>lK (r.se a) (r.se b)
 | .le a b=> .le (r.se a) (r.se b)
 | .eq a b=>Ey (r.se a) (r.se b)
 | .not s=> .not (r.sb s)
 | .and a b=> .and (r.sb a) (r.sb b)
def Ren.id (r:Ren) (i:Nat):Nat:=match iD r.bl i with |some j=>j|none=>0
def Ren.BG (r:Ren) (i:Nat):Nat:=match iD r.sh i with |some j=>j|none=>0
mutual
def Ren.av (r:Ren):AV->AV
 | .bool b=> .bool (r.sb b)
 | .int k e=> .int k (r.se e)
 | .str s=> .str s
 | .ptr i o=> .ptr (r.id i) (r.BG i+o)
 | .kX=> .kX
 | .sD cs=> .sD (r.La cs)
 | .slice i o l c=> .slice (r.id i) (r.BG i+o) l c
 | .aA=> .aA
 | .ro cs n f=> .ro (r.La cs) n f
 | .map i=> .map (r.id i)
 | .qH=> .qH
 | .func f a b=> .func f (r.La a) (r.La b)
 | .CJ=> .CJ
 | .iface t v=> .iface t (r.av v)
 | .FD=> .FD
 | .agg cs=> .agg (r.La cs)
 | .tuple cs=> .tuple (r.La cs)
 | .opq i=> .opq i
 | .inp k ks=> .inp k ks
 | .emp=> .emp
 | .dat e t=> .dat (r.se e) t
 | .nI e=> .nI (r.se e)
 | .vY i n t=>match r.BG i with
   |0=> .vY (r.id i) (r.se n) t
   |_=> .opq 0
 | .qZ i es x o=>match r.BG i with
   |0=> .qZ (r.id i) es (r.se x) o
   |_=> .opq 0
 | .BD i lo n t=>match r.BG i with
   |0=> .BD (r.id i) (r.se lo) (r.se n) t
   |_=> .opq 0
 | .any=> .any
 | .IQ z t=> .IQ (r.se z) t
def Ren.La (r:Ren):List AV->List AV
 |[]=>[]
 |x::xs=>r.av x::r.La xs
end
mutual
def rO (n:Nat):AV->Bool
 | .ptr i _=>Nat.blt i n
 | .slice i _ _ _=>Nat.blt i n
 | .map i=>Nat.blt i n
 | .vY i _ _=>Nat.blt i n
 | .qZ i _ _ _=>Nat.blt i n
 | .BD i _ _ _=>Nat.blt i n
 | .sD cs=>uY n cs
 | .ro cs _ _=>uY n cs
 | .func _ a b=>uY n a&&uY n b
 | .iface _ v=>rO n v
 | .agg cs=>uY n cs
 | .tuple cs=>uY n cs
 |_=>true
def uY (n:Nat):List AV->Bool
 |[]=>true
 |x::xs=>rO n x&&uY n xs
end
def Ren.env (r:Ren) (ρ:Nat->Int) (i:Nat):Int:=match iD r.ns i with |some e=>e.den ρ|none=>ρ i
theorem SS {α:Type}: ∀{l:List α} {i:Nat},l.length<=i->iD l i=none
 |[],_,_=>rfl
 |_::_,0,h=>by simp at h
 |_::l,i+1,h=>by simp only [iD]; exact SS (by simpa using h)
theorem Ren.qB {r:Ren} (h:r.ns.length<=900) {ρ:Nat->Int} {i:Nat} (hi:900<=i):r.env ρ i=ρ i:=by unfold Ren.env;rw [SS (by omega)]
theorem Ren.eU {r:Ren} (h:r.ns.length<=900) (ρ:Nat->Int): ∀e:SE,(r.se e).den ρ=e.den (r.env ρ)
 | .lit n=>rfl
 | .aO i=>by simp only [Ren.se,SE.den,Ren.env];split<;>rfl
 | .add a b=>by simp only [Ren.se,SE.den,Ren.eU h ρ a,Ren.eU h ρ b]
 | .sub a b=>by simp only [Ren.se,SE.den,Ren.eU h ρ a,Ren.eU h ρ b]
 | .mul a b=>by simp only [Ren.se,SE.den,Ren.eU h ρ a,Ren.eU h ρ b]
 | .quo a b=>by simp only [Ren.se,SE.den,Ren.eU h ρ a,Ren.eU h ρ b]
 | .rem a b=>by simp only [Ren.se,SE.den,Ren.eU h ρ a,Ren.eU h ρ b]
 | .wrap k a=>by simp only [Ren.se,SE.den,Ren.eU h ρ a]
 | .inp b e=>by simp only [Ren.se,SE.den,Ren.eU h ρ e];rw [Ren.qB h (by omega)]
 | .dat d=>rfl
 | .op o a b=>by
   cases o with
   |len=> simp only [Ren.se,dF,Ren.eU h ρ a];simp [SE.den,iZ.den]
   |_=>simp only [Ren.se,SE.den,Ren.eU h ρ a,Ren.eU h ρ b]
 | .ap f a=>by simp only [Ren.se,SE.den,Ren.eU h ρ a];rw [Ren.qB h (by unfold lD; omega)]
theorem Ren.I7 {r:Ren} (h:r.ns.length<=900) (ρ:Nat->Int): ∀c:SB,(r.sb c).den ρ=c.den (r.env ρ)
 | .lit b=>rfl
 | .lt a b=>by simp only [Ren.sb,dV,SB.den,Ren.eU h]
 | .le a b=>by simp only [Ren.sb,SB.den,Ren.eU h]
 | .eq a b=>by simp only [Ren.sb,mX,SB.den,Ren.eU h]
 | .not s=>by simp only [Ren.sb,SB.den,Ren.I7 h ρ s]
 | .and a b=>by simp only [Ren.sb,SB.den,Ren.I7 h ρ a,Ren.I7 h ρ b]
def En.ren (E:En) (r:Ren):En:={ ρ:=r.env E.ρ,θ:=fun i=>((E.θ (r.id i)).1,(E.θ (r.id i)).2+r.BG i),κ:=fun i=>E.κ (r.id i)-r.BG i,dm:=fun i=>i<r.bl.length/\E.dm (r.id i),ro:=E.ro }
theorem FY {i n:Nat} (h:Nat.blt i n=true):i<n:=by have:=aJM h;omega
mutual
theorem VR.ren {E:En} {r:Ren} {h:Array Obj} (hl:r.ns.length<=900): ∀(x:AV) (u:Value),rO r.bl.length x=true->VR E h (r.av x) u->VR (E.ren r) h x u
 | .bool b,u,_,hv=>by simp only [Ren.av,VR,En.ren,Ren.I7 hl] at *; exact hv
 | .int k e,u,_,hv=>by simp only [Ren.av,VR,En.ren,Ren.eU hl] at *; exact hv
 | .str s,u,_,hv=>by simp only [Ren.av,VR] at *; exact hv
 | .ptr i o,u,hi,hv=>by simp only [Ren.av,VR,En.ren,rO] at *; exact⟨by rw [hv.1,aJs],FY hi,hv.2⟩
 | .kX,u,_,hv=>by simp only [Ren.av,VR] at *; exact hv
 | .sD cs,u,hi,hv=>by simp only [Ren.av,VR,rO] at *;obtain⟨b,o,us,h1,h2,h3,h4⟩:=hv;exact⟨b,o,us,h1,h2,bQ.ren hl cs us hi h3,h4⟩
 | .slice i o l c,u,hi,hv=>by
   simp only [Ren.av,VR,rO] at *;obtain⟨h1,a,cap,h2,h3,h4⟩:=hv;refine⟨⟨FY hi,h1⟩,a,cap,h2,h3,?_⟩
   cases c with
   |exact k=> simp only [gG,En.ren] at *;exact⟨h4.1,h4.2.imp (fun h=>by rw [h,aJs]) id⟩
   |rest es=>
    simp only [gG,En.ren] at *;rcases h4 with ⟨q1,q2⟩|⟨q1,q2,q3⟩
    ·exact .inl ⟨by rw [q1,aJs],by omega⟩
    ·exact .inr ⟨q1,q2,by omega⟩
 | .aA,u,_,hv=>by simp only [Ren.av,VR] at *; exact hv
 | .ro cs n f,u,hi,hv=>by simp only [Ren.av,VR,rO] at *;obtain⟨b,o,cap,us,h1,h2,h3,h4,h5,h6⟩:=hv;exact⟨b,o,cap,us,h1,h2,h3,h4,bQ.ren hl cs us hi h5,h6⟩
 | .map i,u,hi,hv=>by simp only [Ren.av,VR,En.ren,rO] at *; exact⟨hv.1,FY hi,hv.2⟩
 | .qH,u,_,hv=>by simp only [Ren.av,VR] at *; exact hv
 | .func f a b,u,hi,hv=>by simp only [Ren.av,VR,rO,aIU] at *;obtain⟨us,ws,h1,h2,h3⟩:=hv;exact⟨us,ws,h1,bQ.ren hl a us hi.1 h2,bQ.ren hl b ws hi.2 h3⟩
 | .CJ,u,_,hv=>by simp only [Ren.av,VR] at *; exact hv
 | .iface t v,u,hi,hv=>by simp only [Ren.av,VR,rO] at *;obtain⟨y,h1,h2⟩:=hv;exact⟨y,h1,VR.ren hl v y hi h2⟩
 | .FD,u,_,hv=>by simp only [Ren.av,VR] at *; exact hv
 | .agg cs,u,hi,hv=>by simp only [Ren.av,VR,rO] at *;obtain⟨us,h1,h2⟩:=hv;exact⟨us,h1,bQ.ren hl cs us hi h2⟩
 | .tuple cs,u,hi,hv=>by simp only [Ren.av,VR,rO] at *;obtain⟨us,h1,h2⟩:=hv;exact⟨us,h1,bQ.ren hl cs us hi h2⟩
 | .opq i,u,_,hv=>by simp only [Ren.av,VR] at hv
 | .inp k ks,u,_,hv=>by
   simp only [Ren.av,VR,En.ren] at *;rw [Ren.qB hl (by omega)];rcases hv with hv|⟨b,o,n,cap,h1,h2,h3,h4,h5⟩
   ·exact .inl hv
   ·refine .inr ⟨b,o,n,cap,h1,h2,h3,h4,fun i j kd hi hj=>?_⟩;rw [Ren.qB hl (by omega)];exact h5 i j kd hi hj
 | .emp,u,_,hv=>by simp only [Ren.av,VR] at *; exact hv
 | .dat e t,u,_,hv=>by simp only [Ren.av,VR,En.ren,Ren.eU hl] at *; exact hv
 | .nI e,u,_,hv=>by simp only [Ren.av,VR,En.ren,Ren.eU hl] at *; exact hv
 | .vY i n t,u,hi,hv=>by
   simp only [Ren.av] at hv;split at hv
   ·rename_i hs;simp only [VR,En.ren,rO,Ren.eU hl] at *;obtain⟨h1,k,a,cap,h2,h3,h4,h5⟩:=hv;refine⟨⟨FY hi,h1⟩,k,a,cap,h2,h3,h4,?_⟩;simp only [gG,hs] at *;simpa using h5
   ·simp [VR] at hv
 | .any,u,_,_=>by simp only [VR]
 | .IQ z t,u,_,hv=>by simp only [Ren.av,VR,En.ren,Ren.eU hl] at *; exact hv
 | .BD i lo n t,u,hi,hv=>by
   simp only [Ren.av] at hv;split at hv
   ·rename_i hs;simp only [VR,En.ren,rO,Ren.eU hl] at *;obtain⟨h1,l,k,a,cap,h2,h3,h4,h5,h6⟩:=hv;refine⟨⟨FY hi,h1⟩,l,k,a,cap,h2,h3,h4,h5,?_⟩;simp only [gG,hs] at *;simpa using h6
   ·simp [VR] at hv
 | .qZ i es x o,u,hi,hv=>by
   simp only [Ren.av] at hv;split at hv
   ·rename_i hs;simp only [VR,En.ren,rO,Ren.eU hl] at *;obtain⟨h1,k,h2,h3⟩:=hv;exact⟨⟨FY hi,h1⟩,k,h2,by rw [h3,hs,aJj]⟩
   ·simp [VR] at hv
theorem bQ.ren {E:En} {r:Ren} {h:Array Obj} (hl:r.ns.length<=900): ∀(xs:List AV) (us:List Value),uY r.bl.length xs=true->bQ E h (r.La xs) us->bQ (E.ren r) h xs us
 |[],us,_,hv=>by simp only [Ren.La,bQ] at *; exact hv
 |x::xs,us,hi,hv=>by simp only [Ren.La,bQ,uY,aIU] at *;obtain⟨u,vs,h1,h2,h3⟩:=hv;exact⟨u,vs,h1,VR.ren hl x u hi.1 h2,bQ.ren hl xs vs hi.2 h3⟩
end
theorem aA8 {E:En} {r:Ren} {h:Array Obj} {xs ys:List AV} {us:List Value} (hs:kV (r.La xs) ys=true) (hv:bQ E h ys us):bQ E h (r.La xs) us:=by rw [iI _ _ hs]; exact hv
def yO (r:Ren):List (AV×AV×Nat)->List (AV×AV×Nat)->Bool
 |[],[]=>true
 |(k,v,_)::xs,(k',v',_)::ys=>match fD (r.av k) k' with
  |true=>match fD (r.av v) v' with
   |true=>yO r xs ys
   |false=>false
  |false=>false
 |_,_=>false
def Ws (n:Nat):List (AV×AV×Nat)->Bool
 |[]=>true
 |(k,v,_)::xs=>rO n k&&rO n v&&Ws n xs
def XP (n:Nat):List (SE×List AV)->Bool
 |[]=>true
 |(_,cs)::l=>uY n cs&&XP n l
def rF (r:Ren):List (SE×List AV)->List (SE×List AV)->Bool
 |[],[]=>true
 |(i,a)::x,(j,b)::y=>gZ (r.se i) j&&kV (r.La a) b&&rF r x y
 |_,_=>false
def ajH (n:Nat):dW->Bool
 | .vec _ _ _ ov=>XP n ov
 | .cells cs _=>uY n cs
 | .map es _=>Ws n es
 | .oV _ _=>true
 | .jF _ _=>true
def iV (r:Ren) (k:Nat):dW->dW->Bool
 | .cells cs e,.cells ds f=>match Nat.beq e f with
   |true=>match fQ k ds with
    |some ds=>kV (r.La cs) ds
    |none=>false
   |false=>false
 | .map es _,.map fs _=>yO r es fs
 | .oV s p,.oV t q=>jT s t&&Nat.beq p q&&Nat.beq k 0
 | .jF e t,.jF e' t'=>gZ (r.se e) e'&&Nat.beq t t'&&Nat.beq k 0
 | .vec e t ty ov,.vec e' t' ty' wX=>gZ (r.se e) e'&&Nat.beq t t'&&Nat.beq ty ty'&&rF r ov wX&&Nat.beq k 0
 |_,_=>false
theorem fH.ren {E:En} {r:Ren} {h:Array Obj} (hl:r.ns.length<=900): ∀{xs ys:List (AV×AV×Nat)} {es:List MapEntry},Ws r.bl.length xs=true->yO r xs ys=true->fH E h ys es->fH (E.ren r) h xs es
 |[],[],es,_,_,h=>by simp only [fH] at *; exact h
 |[],_::_,_,_,hs,_=>by simp [yO] at hs
 |(_,_,_)::_,[],_,_,hs,_=>by simp [yO] at hs
 |(k,v,b)::xs,(k',v',b')::ys,es,hi,hs,h=>by
  simp only [Ws,aIU] at hi;simp only [yO] at hs;simp only [fH] at *;obtain⟨e,rr,rfl,h1,h2,_,h4⟩:=h;split at hs
  ·rename_i e1;split at hs
   ·rename_i e2;refine⟨e,rr,rfl,VR.ren hl k _ hi.1.1 (by rw [oM _ _ e1]; exact h1),VR.ren hl v _ hi.1.2 (by rw [oM _ _ e2]; exact h2),trivial,fH.ren hl hi.2 hs h4⟩
   ·simp at hs
  ·simp at hs
theorem wQ {r:Ren}: ∀xs:List AV,(r.La xs).length=xs.length
 |[]=>rfl
 |_::xs=>by simp [Ren.La,wQ xs]
theorem SI {r:Ren} (hl:r.ns.length<=900) {ρ:Nat->Int} {i:Nat}: ∀{ov wX:List (SE×List AV)},rF r ov wX=true->dR ρ i wX=(dR (r.env ρ) i ov).map r.La
 |[],[],_=>rfl
 |[],_::_,h=>by simp [rF] at h
 |_::_,[],h=>by simp [rF] at h
 |(j,a)::x,(k,b)::y,h=>by simp only [rF,aIU] at h;have h1:=bZ _ _ h.1.1;have h2:=iI _ _ h.1.2;simp only [dR];rw [<- h1,Ren.eU hl,<- h2,SI hl h.2];split<;>rfl
theorem SG {n:Nat}: ∀{ov:List (SE×List AV)},XP n ov=true->∀p∈ov,uY n p.2=true
 |[],_,p,hp=>by simp at hp
 |(j,a)::x,h,p,hp=>by
  simp only [XP,aIU] at h;rcases aI3.1 hp with rfl|hp
  ·exact h.1
  ·exact SG h.2 p hp
theorem Ii {E:En} {r:Ren} {h:Array Obj} (hl:r.ns.length<=900) {row:Row} {ov wX:List (SE×List AV)} (hs:rF r ov wX=true) (hi:XP r.bl.length ov=true): ∀(ds:List D) (i:Nat) {us:List Value},
 bQ E h (aN E.ρ row wX ds i) us->bQ (E.ren r) h (aN (E.ren r).ρ row ov ds i) us
 |[],_,us,hv=>by simp only [aN,bQ] at *; exact hv
 |d::ds,i,us,hv=>by
  simp only [aN] at *;obtain⟨a,b,rfl,h1,h2⟩:=hv.split;refine bQ.append ?_ (Ii hl hs hi ds (i+1) h2);rw [SI hl hs] at h1;show bQ (E.ren r) h (match dR (r.env E.ρ) i ov with |some cs=>cs|none=>jP row (.dat d)) a
  cases ho:dR (r.env E.ρ) i ov with
  |none=> rw [ho] at h1;simp only [Option.map_none] at h1;exact (iJ (E:=E.ren r)).2 (show EK E.ro h row (dec (enc d)) a from (iJ (E:=E)).1 h1)
  |some cs=> rw [ho] at h1;simp only [aJw] at h1;obtain⟨p,p1,p2,_⟩:=oN ho;exact bQ.ren hl cs a (by rw [<- p2]; exact SG hi p p1) h1
theorem ND {r:Ren} {row:Row}: ∀{ov wX:List (SE×List AV)},rF r ov wX=true->GL row wX->GL row ov
 |[],[],_,h=>h
 |[],_::_,h,_=>by simp [rF] at h
 |_::_,[],h,_=>by simp [rF] at h
 |(j,a)::x,(k,b)::y,h,ho=>by
  simp only [rF,aIU] at h;intro p hp;rcases aI3.1 hp with rfl|hp
  ·have:=congrArg List.length (iI _ _ h.1.2);rw [wQ] at this;simp only;rw [this];exact ho (k,b) (by simp)
  ·exact ND h.2 (fun q hq=>ho q (by simp [hq])) p hp
theorem OR.ren {E:En} {r:Ren} {h:Array Obj} (hl:r.ns.length<=900) {id:Nat} {o o':dW} (hi:ajH r.bl.length o=true) (hs:iV r (r.BG id) o o'=true) (ho:OR E h (r.id id) o'):OR (E.ren r) h id o:=by
 cases o with
 |cells cs e=>
  cases o' with
  |cells ds f=>
   simp only [iV] at hs;simp only [ajH] at hi;split at hs
   ·rename_i he;have he:=aIW he;subst he;split at hs
    ·rename_i ds' hdr;simp only [OR] at *;obtain⟨arr,lo,hi',us,h1,h2,h3,h4,h5,h6,h7⟩:=ho;obtain⟨g1,g2,g3⟩:=h2.fQ hdr;have hlen:=congrArg List.length (iI _ _ hs);rw [wQ] at hlen;refine⟨arr,lo,hi',us.drop (r.BG id),h1,bQ.ren hl cs _ hi (aA8 hs g1),fun i u hu=>?_,?_,?_,h6,fun u hu=>h7 u (aJv hu)⟩
     ·rw [aJ7] at hu;have:=h3 _ u hu;show arr[(E.θ (r.id id)).2+r.BG id+i]?=some u;rw [aJs];exact this
     ·show cs.length<=E.κ (r.id id)-r.BG id;omega
     ·show (E.θ (r.id id)).2+r.BG id+(E.κ (r.id id)-r.BG id)=arr.size;omega
    ·simp at hs
   ·simp at hs
  |map _ _=>simp [iV] at hs
  |oV _ _=>simp [iV] at hs
  |vec _ _ _ _=>simp [iV] at hs
  |jF _ _=>simp [iV] at hs
 |map es c=>
  cases o' with
  |map fs d=> simp only [iV] at hs;simp only [ajH] at hi;simp only [OR] at *;obtain⟨ents,c',h1,h2⟩:=ho;exact⟨ents,c',h1,fH.ren hl hi hs h2⟩
  |cells _ _=>simp [iV] at hs
  |oV _ _=>simp [iV] at hs
  |vec _ _ _ _=>simp [iV] at hs
  |jF _ _=>simp [iV] at hs
 |oV s p=>
  cases o' with
  |oV t q=> simp only [iV,aIU] at hs;have h1:=(qL _ _).1 hs.1.1;have h2:=aIW hs.1.2;have h3:=aIW hs.2;subst h1 h2;simp only [OR,En.ren,h3] at *;exact ho
  |cells _ _=>simp [iV] at hs
  |map _ _=>simp [iV] at hs
  |vec _ _ _ _=>simp [iV] at hs
  |jF _ _=>simp [iV] at hs
 |jF e t=>
  cases o' with
  |cells _ _=>simp [iV] at hs
  |map _ _=>simp [iV] at hs
  |oV _ _=>simp [iV] at hs
  |vec _ _ _ _=>simp [iV] at hs
  |jF e' t'=> simp only [iV,aIU] at hs;have h1:=bZ _ _ hs.1.1;have h2:=aIW hs.1.2;subst h1 h2;simp only [OR] at *;have hden:e.den (E.ren r).ρ=(r.se e).den E.ρ:=(Ren.eU hl E.ρ e).symm;rw [hden];exact ho
 |vec e t ty ov=>
  cases o' with
  |cells _ _=>simp [iV] at hs
  |map _ _=>simp [iV] at hs
  |oV _ _=>simp [iV] at hs
  |jF _ _=>simp [iV] at hs
  |vec e' t' ty' wX=>
   simp only [iV,aIU] at hs;simp only [ajH] at hi;have h1:=bZ _ _ hs.1.1.1.1;have h2:=aIW hs.1.1.1.2;have h3:=aIW hs.1.1.2;have h4:=aIW hs.2;have hov:=hs.1.2;subst h1 h2 h3;simp only [OR] at *;obtain⟨h0,arr,lo,hi',us,q1,q2,q3,q4,q5,q6,q7⟩:=ho;have hok:=ND hov h0.1;have hden:e.den (E.ren r).ρ=(r.se e).den E.ρ:=(Ren.eU hl E.ρ e).symm;rw [hden];refine⟨⟨hok,h0.2⟩,arr,lo,hi',us,q1,Ii hl hov hi _ _ q2,?_,?_,?_,q6,q7⟩
   ·intro i u hu;show arr[(E.θ (r.id id)).2+r.BG id+i]?=some u;rw [h4,aJj];exact q3 i u hu
   ·show _<=E.κ (r.id id)-r.BG id;rw [bY hok,h4,aJQ,<- bY (ρ:=E.ρ) h0.1];exact q4
   ·show (E.θ (r.id id)).2+r.BG id+(E.κ (r.id id)-r.BG id)=arr.size;rw [h4,aJj,aJQ];exact q5
end
end Go.As
end
section
namespace Go.As
noncomputable section
open Go.RowKit
structure CS where
 k:Nat
 slots:List (Nat×AV)
 objs:List dW
 pc:List (SB×Bool)
 m:SE
def sN:List (Nat×AV)->Tr AV->Tr AV
 |[],t=>t
 |(i,v)::l,t=>sN l (t.put i (some v))
def wG:List dW->Nat->Tr dW->Tr dW
 |[],_,t=>t
 |o::os,i,t=>wG os (i+1) (t.put i (some o))
def CS.st (c:CS):St:=⟨sN c.slots .nil,⟨wG c.objs 0 .nil,c.objs.length,none⟩,c.pc⟩
structure Gs where
 ns:Tr SE
 bl:Tr (Nat×Nat)
def Gs.num (g:Gs) (i:Nat) (e:SE):Gs:=match g.ns.get i with
 |some _=>g
 |none=> ⟨g.ns.put i (some e),g.bl⟩
def Gs.blk (g:Gs) (i j k:Nat):Gs:=match g.bl.get i with
 |some _=>g
 |none=> ⟨g.ns,g.bl.put i (some (j,k))⟩
def Jq (x y:SE) (g:Gs):Gs:=match x with
 | .aO i=>g.num i y
 |_=>g
def aGw:SB->SB->Gs->Gs
 | .not a,.not b,g=>aGw a b g
 | .eq a b,.eq c d,g=>Jq b d (Jq a c g)
 |_,_,g=>g
mutual
def arA:AV->AV->Gs->Gs
 | .bool a,.bool b,g=>aGw a b g
 | .int _ e,.int _ f,g=>Jq e f g
 | .ptr i o,.ptr j p,g=>g.blk i j (p-o)
 | .slice i o _ _,.slice j p _ _,g=>g.blk i j (p-o)
 | .map i,.map j,g=>g.blk i j 0
 | .agg a,.agg b,g=>Hr a b g
 | .tuple a,.tuple b,g=>Hr a b g
 | .iface _ a,.iface _ b,g=>arA a b g
 | .func _ a b,.func _ c d,g=>Hr b d (Hr a c g)
 | .sD a,.sD b,g=>Hr a b g
 | .ro a _ _,.ro b _ _,g=>Hr a b g
 | .dat a _,.dat b _,g=>Jq a b g
 | .nI a,.nI b,g=>Jq a b g
 | .vY i a _,.vY j b _,g=>(Jq a b g).blk i j 0
 | .qZ i _ a _,.qZ j _ b _,g=>(Jq a b g).blk i j 0
 | .IQ a _,.IQ b _,g=>Jq a b g
 | .BD i l a _,.BD j k b _,g=>(Jq l k (Jq a b g)).blk i j 0
 |_,_,g=>g
def Hr:List AV->List AV->Gs->Gs
 |x::xs,y::ys,g=>Hr xs ys (arA x y g)
 |_,_,g=>g
end
def aqZ:List (AV×AV×Nat)->List (AV×AV×Nat)->Gs->Gs
 |(k,v,_)::xs,(k',v',_)::ys,g=>aqZ xs ys (arA v v' (arA k k' g))
 |_,_,g=>g
def aBS:List (SE×List AV)->List (SE×List AV)->Gs->Gs
 |(i,a)::x,(j,b)::y,g=>aBS x y (Hr a b (Jq i j g))
 |_,_,g=>g
def aIf (k:Nat) (o o':dW) (g:Gs):Gs:=match o,o' with
 | .cells a _,.cells b _=>match fQ k b with
   |some b=>Hr a b g
   |none=>g
 | .map a _,.map b _=>aqZ a b g
 | .vec a _ _ ov,.vec b _ _ wX=>aBS ov wX (Jq a b g)
 | .jF a _,.jF b _=>Jq a b g
 |_,_=>g
def LU (s:Tr AV):List (Nat×AV)->Gs->Gs
 |[],g=>g
 |(t,v)::l,g=>match s.get t with
  |some v'=>LU s l (arA v v' g)
  |none=>LU s l g
def Jr (h:Hp):List dW->Nat->Gs->Gs
 |[],_,g=>g
 |o::os,i,g=>match g.bl.get i with
  |some (j,k)=>match h.get j with
   |some o'=>Jr h os (i+1) (aIf k o o' g)
   |none=>Jr h os (i+1) g
  |none=>Jr h os (i+1) g
def FM (g:Tr SE):Nat->Nat->List SE
 |0,_=>[]
 |n+1,i=>match g.get i with
  |some e=>e::FM g n (i+1)
  |none=> .lit 0::FM g n (i+1)
def VB (g:Tr (Nat×Nat)):Nat->Nat->List Nat
 |0,_=>[]
 |n+1,i=>match g.get i with
  |some (e,_)=>e::VB g n (i+1)
  |none=>0::VB g n (i+1)
def VA (g:Tr (Nat×Nat)):Nat->Nat->List Nat
 |0,_=>[]
 |n+1,i=>match g.get i with
  |some (_,e)=>e::VA g n (i+1)
  |none=>0::VA g n (i+1)
def CS.guess (c:CS) (s:St):Ren:=match Jr s.h c.objs 0 (LU s.slots c.slots ⟨.nil,.nil⟩) with
 |⟨ns,bl⟩=> ⟨FM ns c.k 0,VB bl c.objs.length 0,VA bl c.objs.length 0⟩
def afG (i:Nat):List Nat->Bool
 |[]=>true
 |j::l=>match Nat.beq i j with
  |true=>false
  |false=>afG i l
def Ef:List Nat->Bool
 |[]=>true
 |i::l=>afG i l&&Ef l
def Lp (r:Ren) (n:Nat) (s:Tr AV):List (Nat×AV)->Bool
 |[]=>true
 |(t,v)::l=>match s.get t with
  |some v'=>rO n v&&fD (r.av v) v'&&Lp r n s l
  |none=>false
def Jf (r:Ren) (n:Nat) (h:Hp):List dW->Nat->Bool
 |[],_=>true
 |o::os,i=>match h.get (r.id i) with
  |some o'=>ajH n o&&iV r (r.BG i) o o'&&Jf r n h os (i+1)
  |none=>false
def Y1 (pc:List (SB×Bool)) (e:SE):Option Int×Option Int:=match e with
 | .lit z=>(some z,some z)
 |e=>bounds e pc
def agB (a b:Int):Bool:=decide (-9223372036854775808<=a)&&decide (b<=9223372036854775807)
def PZ (pc:List (SB×Bool)) (e:SE):Option Int×Option Int:=match e with
 | .wrap .i64 (.add a b)=>match Y1 pc a,Y1 pc b with
   |(some la,some ha),(some lb,some hb)=>if agB (la+lb) (ha+hb) then (some (la+lb),some (ha+hb)) else bounds e pc
   |_,_=>bounds e pc
 | .wrap .i64 (.sub a b)=>match Y1 pc a,Y1 pc b with
   |(some la,some ha),(some lb,some hb)=>if agB (la-hb) (ha-lb) then (some (la-hb),some (ha-lb)) else bounds e pc
   |_,_=>bounds e pc
 |e=>Y1 pc e
def P6 (a b:Option Int):Bool:=match a,b with
 |some x,some y=>decide (x<y)
 |_,_=>false
def WT (a b:Option Int):Bool:=match a,b with
 |some x,some y=>decide (x<=y)
 |_,_=>false
def prv (pc:List (SB×Bool)) (c:SB) (v:Bool):Bool:=
 match nP pc c with
 |some b=>b == v
 |none=>match c with
  | .lt a b=>match v with
    |true=>P6 (PZ pc a).2 (PZ pc b).1
    |false=>WT (PZ pc b).2 (PZ pc a).1
  | .eq a b=>match v with
    |true=>false
    |false=>P6 (PZ pc a).2 (PZ pc b).1||P6 (PZ pc b).2 (PZ pc a).1
  |_=>false
def LV (pv:List (SB×Bool)->SB->Bool->Bool) (r:Ren) (pc:List (SB×Bool)):List (SB×Bool)->Bool
 |[]=>true
 |(c,v)::l=>pv pc (r.sb c) v&&LV pv r pc l
def CS.fits (pv:List (SB×Bool)->SB->Bool->Bool) (c:CS) (s:St) (r:Ren):Bool:=
 Nat.ble r.ns.length 900&&Nat.beq r.bl.length c.objs.length&&Ef r.bl&&Lp r c.objs.length s.slots c.slots&&Jf r c.objs.length s.h c.objs 0&&LV pv r s.pc c.pc
theorem BR: ∀{l:List (Nat×AV)} {t:Tr AV} {i:Nat} {v:AV},(sN l t).get i=some v->(i,v)∈l\/t.get i=some v
 |[],t,i,v,h=> .inr h
 |(j,x)::l,t,i,v,h=>by
  simp only [sN] at h;rcases BR h with h|h
  ·exact .inl (by simp [h])
  ·rw [Tr.get_put] at h;split at h
   ·rename_i e;simp only [aIS] at h;exact .inl (by rw [e,h]; simp)
   ·exact .inr h
theorem oC: ∀{l:List dW} {i:Nat} {t:Tr dW} {j:Nat},(wG l i t).get j=if i<=j/\j<i+l.length then l[j-i]? else t.get j
 |[],i,t,j=>by rw [aIQ (by simp)];rfl
 |o::os,i,t,j=>by
  simp only [wG];rw [oC,Tr.get_put];simp only [aI5];by_cases h1:i+1<=j/\j<i+1+os.length
  ·rw [aIR h1,aIR (by omega)];have:j-i=(j-(i+1))+1:=by omega
   rw [this,aIX]
  ·rw [aIQ h1];by_cases h3:j=i
   ·subst h3;rw [aIR rfl,aIR (by omega)];simp
   ·rw [aIQ h3,aIQ (by omega)]
theorem XU {i:Nat}: ∀{l:List Nat},afG i l=true->i∉l
 |[],_=>by simp
 |j::l,h=>by
  simp only [afG] at h;split at h
  ·simp at h
  ·rename_i hb;have:=aKr hb;simp [this,XU h]
theorem vM: ∀{l:List Nat},Ef l=true->∀{i j x:Nat},iD l i=some x->iD l j=some x->i=j
 |[],_,i,_,_,h,_=>by simp [iD] at h
 |y::l,hd,i,j,x,h1,h2=>by
  simp only [Ef,aIU] at hd;have hn:=XU hd.1
  have hm: ∀{i:Nat} {l:List Nat} {x:Nat},iD l i=some x->x∈l:=by intro i l x h;rw [dD] at h;exact aJo h
  cases i with
  |zero=>
   cases j with
   |zero=>rfl
   |succ j=> simp only [iD,aIS] at h1 h2;subst h1;exact absurd (hm h2) hn
  |succ i=>
   cases j with
   |zero=> simp only [iD,aIS] at h1 h2;subst h2;exact absurd (hm h1) hn
   |succ j=> simp only [iD] at h1 h2;rw [vM hd.2 h1 h2]
theorem JQ {r:Ren} {n:Nat} {s:Tr AV}: ∀{l:List (Nat×AV)},Lp r n s l=true->∀{t:Nat} {v:AV},(t,v)∈l->∃v',s.get t=some v'/\rO n v=true/\r.av v=v'
 |[],_,_,_,h=>by simp at h
 |(t0,v0)::l,hs,t,v,h=>by
  simp only [Lp] at hs;split at hs
  ·rename_i v' hv;simp only [aIU] at hs;rcases aI3.1 h with h|h
   ·simp only [aIT] at h;obtain⟨rfl,rfl⟩:=h;exact⟨v',hv,hs.1.1,oM _ _ hs.1.2⟩
   ·exact JQ hs.2 h
  ·simp at hs
theorem mG {r:Ren} {n:Nat} {h:Hp}: ∀{l:List dW} {i:Nat},Jf r n h l i=true->∀{j:Nat} {o:dW},l[j]?=some o->∃o',h.get (r.id (i+j))=some o'/\ajH n o=true/\iV r (r.BG (i+j)) o o'=true
 |[],_,_,_,_,h=>by simp at h
 |o0::os,i,hs,j,o,hj=>by
  simp only [Jf] at hs;split at hs
  ·rename_i o' ho;simp only [aIU] at hs
   cases j with
   |zero=> simp at hj;subst hj;exact⟨o',ho,hs.1.1,hs.1.2⟩
   |succ j=> have:=mG hs.2 (j:=j) (by simpa using hj);rw [show i+(j+1)=i+1+j by omega];exact this
  ·simp at hs
def awL (pv:List (SB×Bool)->SB->Bool->Bool):Prop:= ∀(ρ:Nat->Int) (pc:List (SB×Bool)) (c:SB) (v:Bool),bM ρ pc->pv pc c v=true->c.den ρ=v
theorem Iw {ρ:Nat->Int} {pc:List (SB×Bool)} (hp:bM ρ pc) (e:SE):Within (Y1 pc e).1 (Y1 pc e).2 (e.den ρ):=by
 unfold Y1;split
 ·simp [Within,SE.den]
 ·exact qN hp
theorem OB {a b x:Int} (h:agB a b=true) (h1:a<=x) (h2:x<=b):IntKind.i64.wrap x=x:=by simp only [agB,aIU,decide_eq_true_eq] at h;rw [<- qA];simp only [Bq];rw [aIR (by omega)]
theorem ahR {ρ:Nat->Int} {pc:List (SB×Bool)} (hp:bM ρ pc) (e:SE):Within (PZ pc e).1 (PZ pc e).2 (e.den ρ):=by
 unfold PZ;split
 ·rename_i a b;have ha:=Iw hp a;have hb:=Iw hp b;split
  ·rename_i la ha' lb hb' e1 e2;rw [e1] at ha;rw [e2] at hb;have a1:=ha.1 la rfl;have a2:=ha.2 ha' rfl;have b1:=hb.1 lb rfl;have b2:=hb.2 hb' rfl;split
   ·rename_i hi;simp only [SE.den];rw [OB hi (by omega) (by omega)];constructor<;>intro l hl<;>simp at hl<;>omega
   ·exact qN hp
  ·exact qN hp
 ·rename_i a b;have ha:=Iw hp a;have hb:=Iw hp b;split
  ·rename_i la ha' lb hb' e1 e2;rw [e1] at ha;rw [e2] at hb;have a1:=ha.1 la rfl;have a2:=ha.2 ha' rfl;have b1:=hb.1 lb rfl;have b2:=hb.2 hb' rfl;split
   ·rename_i hi;simp only [SE.den];rw [OB hi (by omega) (by omega)];constructor<;>intro l hl<;>simp at hl<;>omega
   ·exact qN hp
  ·exact qN hp
 ·exact Iw hp e
theorem JA {a b:Option Int} {x y:Int} (h:P6 a b=true) (h1: ∀z,a=some z->x<=z) (h2: ∀z,b=some z->z<=y):x<y:=by
 unfold P6 at h;split at h
 ·have:=h1 _ rfl;have:=h2 _ rfl;simp at h;omega
 ·simp at h
theorem acS {a b:Option Int} {x y:Int} (h:WT a b=true) (h1: ∀z,a=some z->x<=z) (h2: ∀z,b=some z->z<=y):x<=y:=by
 unfold WT at h;split at h
 ·have:=h1 _ rfl;have:=h2 _ rfl;simp at h;omega
 ·simp at h
theorem aaI:awL prv:=by
 intro ρ pc c v hp h;unfold prv at h;split at h
 ·rename_i b hb;rw [jJ hp hb];simpa using h
 ·split at h
  ·have ha:=fun a=>ahR hp a;split at h
   ·have:=JA h (ha _).2 (ha _).1;simp [SB.den,this]
   ·have:=acS h (ha _).2 (ha _).1;simp [SB.den]; omega
  ·have ha:=fun a=>ahR hp a;split at h
   ·simp at h
   ·simp only [aJ8] at h;simp only [SB.den,beq_eq_false_iff_ne,ne_eq];rcases h with h|h
    ·have:=JA h (ha _).2 (ha _).1;omega
    ·have:=JA h (ha _).2 (ha _).1;omega
  ·simp at h
theorem OT {pv:List (SB×Bool)->SB->Bool->Bool} (hpv:awL pv) {r:Ren} (hl:r.ns.length<=900) {ρ:Nat->Int} {pc:List (SB×Bool)} (hp:bM ρ pc): ∀{l:List (SB×Bool)},LV pv r pc l=true->bM (r.env ρ) l
 |[],_=>by intro c b h; simp at h
 |(c0,v0)::l,h=>by
  simp only [LV,aIU] at h;intro c b hm;rcases aI3.1 hm with hm|hm
  ·simp only [aIT] at hm;obtain⟨rfl,rfl⟩:=hm;rw [<- Ren.I7 hl];exact hpv ρ pc _ _ hp h.1
  ·exact OT hpv hl hp h.2 c b hm
theorem Hy [Glob] {pv:List (SB×Bool)->SB->Bool->Bool} (hpv:awL pv) {E:En} {c:CS} {s:St} {r:Ren} {a:Act} {w:World} (f:Fit E s a w) (h:c.fits pv s r=true):r.ns.length<=900/\Fit (E.ren r) c.st a w/\
 ∀id o,c.st.h.get id=some o->∃o',s.h.get (r.id id)=some o':=by
 unfold CS.fits at h;simp only [aIU] at h;obtain⟨⟨⟨⟨⟨h1,h2⟩,h3⟩,h4⟩,h5⟩,h6⟩:=h;have hl:=aJM h1;have hn:=aIW h2
 have hget: ∀id o,c.st.h.get id=some o->c.objs[id]?=some o:=by
  intro id o ho;have:(wG c.objs 0 .nil).get id=some o:=ho;rw [oC] at this;split at this
  ·simpa using this
  ·simp [Tr.get] at this
 refine⟨hl,⟨⟨?_,?_,?_,?_,f.rel.Cc,Glob.ren f.rel.glob fun i hi=>Ren.qB hl hi⟩,?_,OT hpv hl f.pc h6⟩,?_⟩
 ·intro id hid hd;have:id<r.bl.length:=hd.1;have hid:c.objs.length<=id:=hid;omega
 ·intro x hx;simp [CS.st] at hx
 ·intro id o ho;obtain⟨o',g1,g2,g3⟩:=mG h5 (hget id o ho);rw [aI2] at g1 g3;obtain⟨q1,q2,q3⟩:=f.rel.live _ _ g1;have hlt:=(aJf.1 (hget id o ho)).1;exact⟨⟨by omega,q1⟩,OR.ren hl (by rw [hn]; exact g2) g3 q2,q3⟩
 ·intro id id' o o' ho ho' he;obtain⟨p,g1,_⟩:=mG h5 (hget id o ho);obtain⟨p',g1',_⟩:=mG h5 (hget id' o' ho');rw [aI2] at g1 g1';have heq:=f.rel.inj _ _ _ _ g1 g1' he;have hlt:=(aJf.1 (hget id o ho)).1;have hlt':=(aJf.1 (hget id' o' ho')).1;unfold Ren.id at heq
  cases e1:iD r.bl id with
  |none=>rw [dD,aKw] at e1; omega
  |some x=>
   cases e2:iD r.bl id' with
   |none=>rw [dD,aKw] at e2; omega
   |some y=> rw [e1,e2] at heq;simp only at heq;subst heq;exact vM h3 e1 e2
 ·intro t v ht;have:(sN c.slots .nil).get t=some v:=ht;rcases BR this with h|h
  ·obtain⟨v',g1,g2,g3⟩:=JQ h4 h;obtain⟨u,q1,q2⟩:=f.sr t v' g1;exact⟨u,q1,VR.ren hl v u (by rw [hn]; exact g2) (by rw [g3]; exact q2)⟩
  ·simp [Tr.get] at h
 ·intro id o ho;obtain⟨o',g1,_⟩:=mG h5 (hget id o ho);rw [aI2] at g1;exact⟨o',g1⟩
end
end Go.As
end
section
namespace Go.As
noncomputable section
open Go.RowKit
structure Base where
 w0:World
 ro:Nat->Prop
 ρ0:Nat->Int
structure Top [Glob] (B:Base) (E:En) (s:St) (a:Act) (w:World):Prop where
 fit:Fit E s a w
 hi: ∀i,900<=i->E.ρ i=B.ρ0 i
 ro: ∀b,B.ro b->E.ro b
 below:Below B.w0.heap.size B.w0 w
 own: ∀id o,s.h.get id=some o->B.w0.heap.size<=(E.θ id).1
theorem Top.then [Glob] {B:Base} {E:En} {s s':St} {a a':Act} {w w':World} (t:Top B E s a w) (h:Then E s a w s' a' w'): ∃E',Top B E' s' a' w'/\E'.ρ=E.ρ:=by
 obtain⟨_,_,E',st,f'⟩:=h;refine⟨E',⟨f',fun i hi=>by rw [st.ρ]; exact t.hi i hi,fun b hb=>st.ro b (t.ro b hb),?_,?_⟩,st.ρ⟩
 ·refine t.below.trans ⟨st.os,st.tape,st.output,st.size,fun k hk=>?_⟩
  exact st.keep k (aJP hk t.below.size) fun id o ho he=>by have:=t.own id o ho;omega
 ·intro id o ho;rcases aJb (E'.θ id).1 w.heap.size with h|h
  ·obtain⟨EF,o0,h0,he⟩:=st.own id o ho h;rw [<- he];exact t.own EF o0 h0
  ·exact aJr t.below.size h
theorem Top.fits [Glob] {pv:List (SB×Bool)->SB->Bool->Bool} (hpv:awL pv) {B:Base} {E:En} {c:CS} {s:St} {r:Ren} {a:Act} {w:World} (t:Top B E s a w) (h:c.fits pv s r=true):r.ns.length<=900/\Top B (E.ren r) c.st a w:=by
 obtain⟨hl,f,ho⟩:=Hy hpv t.fit h;refine⟨hl,f,fun i hi=>?_,t.ro,t.below,fun id o hid=>?_⟩
 ·show r.env E.ρ i=_;rw [Ren.qB hl hi];exact t.hi i hi
 ·obtain⟨o',h'⟩:=ho id o hid;exact t.own _ _ h'
inductive Fr where
 |seq (p:List Nat) (c:Code)
 |block (id:Nat)
def VF {α:Type}:T α->(α->Bool)->Bool
 | .fail,_=>false
 | .ret a,f=>f a
 | .split _ x y,f=>VF x f&&VF y f
structure Cfg where
 tt:TT
 call:dS
 draw:Nat->List Oper->St->T St
 lf:Nat
 pv:List (SB×Bool)->SB->Bool->Bool
 res:List ResultVar
def Cfg.ev (g:Cfg) (c:Code) (s:St):T (Ex×St):=lT g.tt g.call g.draw g.lf c s
def isTrue:Option (List AV)->Bool
 |some [.bool (.lit b)]=>b
 |_=>false
def arU (g:Cfg) (e:Ex) (s:St):Bool:=match e with
 | .exit _=>false
 |_=>isTrue (oP g.tt s g.res)
def aDo:AV->AV->Bool
 | .int _ (.lit a),.int _ (.lit b)=>a == b
 | .int _ (.lit _),.int _ _=>false
 | .slice _ _ n _,.slice _ _ m _=>Nat.beq n m
 | .slice _ _ _ _,_=>false
 | .aA,.aA=>true
 | .aA,_=>false
 |_,_=>true
def quick (s:Tr AV):List (Nat×AV)->Bool
 |[]=>true
 |(t,v)::l=>match s.get t with
  |some v'=>match aDo v v' with
   |true=>quick s l
   |false=>false
  |none=>false
def WV (pv:List (SB×Bool)->SB->Bool->Bool) (s:St):List CS->Bool
 |[]=>false
 |c::cs=>match quick s.slots c.slots with
  |false=>WV pv s cs
  |true=>match c.fits pv s (c.guess s) with
   |true=>true
   |false=>WV pv s cs
abbrev Tabs:=List Nat->Option (List CS)
mutual
def go (g:Cfg) (tabs:Tabs):Nat->List Nat->Code->List Fr->St->Bool
 |0,_,_,_,_=>false
 |n+1,p,c,fr,s=>match tabs p with
  |some cs=>WV g.pv s cs
  |none=>match c with
   | .seq a b=>go g tabs n (0::p) a (.seq (1::p) b::fr) s
   | .block id b=>go g tabs n (0::p) b (.block id::fr) s
   |c=>VF (g.ev c s) fun (e,s')=>cont g tabs n fr e s'
def cont (g:Cfg) (tabs:Tabs):Nat->List Fr->Ex->St->Bool
 |0,_,_,_=>false
 |n+1,fr,e,s=>match fr with
  |[]=>arU g e s
  | .seq p c::fr=>match e with
    | .normal=>go g tabs n p c fr s
    |e=>cont g tabs n fr e s
  | .block id::fr=>match e with
    | .exit j=>match Nat.beq j id with
      |true=>cont g tabs n fr .normal s
      |false=>cont g tabs n fr (.exit j) s
    |e=>cont g tabs n fr e s
end
def apart (pc:List (SB×Bool)) (x:SE):List SE->Bool
 |[]=>true
 |y::l=>match decEq pc x y with
  |some false=>apart pc x l
  |_=>false
structure Hint where
 ts:List (SB×Bool):=[]
 xs:List SE:=[]
 n:Nat:=0
section
variable {P:Program} {g:Cfg} {chk:Nat->List Oper->Bool} {N:Nat} {body:Code} {B:Base} {Q:Exit->Act->World->Prop}
structure aIE [Glob] (P:Program) (g:Cfg) (chk:Nat->List Oper->Bool):Prop where
 tt:eX P g.tt
 call:kQ P g.call
 draw:Dx P chk g.draw
 pv:awL g.pv
theorem Top.pc [Glob] {B:Base} {E:En} {s:St} {a:Act} {w:World} {pc:List (SB×Bool)} (t:Top B E s a w) (hp:bM E.ρ pc):Top B E { s with pc:=pc } a w:=
 ⟨⟨t.fit.rel,t.fit.sr,hp⟩,t.hi,t.ro,t.below,t.own⟩
end
end
end Go.As
end
section
namespace Go.As
noncomputable section
open Go.RowKit
section
variable {P:Program} {c:Code} {Q:Exit->Act->World->Prop} {a:Act} {w:World}
def QF (P:Program) (c:Code) (Q:Exit->Act->World->Prop) (a:Act) (w:World):Prop:=
 ∀b k cs,∃e a' w',Q e a' w'/\Arrives P (lone (b.at a (.code c::.inLoop c::k)) cs w) b k cs e a' w'
theorem aaP (h:c.wp P (Exit.then (QF P c Q) Q) a w):QF P c Q a w:=by
 intro b k cs;obtain⟨e,a₁,w₁,hq,harr⟩:=h b (.inLoop c::k) cs
 cases e with
 |normal=> obtain⟨e₂,a₂,w₂,hq₂,harr₂⟩:=hq b k cs;exact⟨e₂,a₂,w₂,hq₂,.of_steps (Steps.trans harr (.one step_inLoop)) harr₂⟩
 |exit id=>exact⟨_,a₁,w₁,hq,.pass (x:=.inLoop c) rfl (fun _ _=> .inl (by simp)) harr⟩
 |goto l=>exact⟨_,a₁,w₁,hq,.pass (x:=.inLoop c) rfl (fun _ _=> .inl (by simp)) harr⟩
 |ret=>exact⟨_,a₁,w₁,hq,.pass (x:=.inLoop c) rfl (fun _ _=> .inl (by simp)) harr⟩
 |panic ch=>exact⟨_,a₁,w₁,hq,.pass (x:=.inLoop c) rfl (fun _ _=> .inl (by simp)) harr⟩
 |outgrown=>exact⟨_,a₁,w₁,hq,.pass (x:=.inLoop c) rfl (fun _ _=> .inl (by simp)) harr⟩
theorem aaQ (h:QF P c Q a w):(Code.loop c).wp P Q a w:=by intro b k cs;obtain⟨e,a',w',hq,harr⟩:=h b k cs;exact⟨e,a',w',hq,.of_steps (.one step_loop) harr⟩
end
inductive FrE where
 |seq (p:List Nat) (c:Code)
 |block (id:Nat)
 |loop (p:List Nat) (b:Code)
 |scope
def vI (body:Code):List Nat->Option (Code×List FrE)
 |[]=>some (body,[])
 |d::p=>match vI body p with
  |some (.seq a b,fr)=>match d with
   |0=>some (a,.seq (1::p) b::fr)
   |_=>some (b,fr)
  |some (.block id b,fr)=>some (b,.block id::fr)
  |some (.cond _ a b,fr)=>match d with
   |0=>some (a,fr)
   |_=>some (b,fr)
  |some (.loop b,fr)=>some (b,.loop p b::fr)
  |some (.scope b,fr)=>some (b,.scope::fr)
  |_=>none
def QH (body:Code):List FrE->Prop
 |[]=>True
 | .seq p c::fr=>vI body p=some (c,fr)/\QH body fr
 | .block _::fr=>QH body fr
 | .loop p b::fr=>vI body p=some (.loop b,fr)/\QH body fr
 | .scope::fr=>QH body fr
def KE (P:Program) (Q:Exit->Act->World->Prop):List FrE->Exit->Act->World->Prop
 |[]=>Q
 | .seq _ c::fr=>Exit.then (fun a w=>c.wp P (KE P Q fr) a w) (KE P Q fr)
 | .block id::fr=>Exit.inBlock id (KE P Q fr)
 | .loop _ b::fr=>Exit.then (QF P b (KE P Q fr)) (KE P Q fr)
 | .scope::fr=>Exit.noGoto (KE P Q fr)
inductive RK where
 |one (c:CK)
 |agg (cs:List CK)
 deriving DecidableEq,Inhabited
def RK.flat:RK->List CK
 | .one c=>[c]
 | .agg cs=>cs
def vF:List RK->List CK
 |[]=>[]
 |r::rs=>r.flat++vF rs
def ahQ (c:CK) (t:SE):AV:=match c with
 | .int k=> .int k t
 | .bool=> .bool (.not (.eq t (.lit 0)))
 | .str=> .nI t
 | .sl ty=> .dat t ty
def PX:List CK->(Nat->SE)->Nat->List AV
 |[],_,_=>[]
 |c::cs,f,i=>ahQ c (f i)::PX cs f (i+1)
def wH:List RK->(Nat->SE)->Nat->List AV
 |[],_,_=>[]
 | .one c::r,f,i=>ahQ c (f i)::wH r f (i+1)
 | .agg cs::r,f,i=> .agg (PX cs f i)::wH r f (i+cs.length)
def apO (c:CK) (v:AV):Option SE:=match c with
 | .int k=>match v with
   | .int k' e=>if k=k' then some e else none
   |_=>none
 | .bool=>none
 | .str=>Bl v
 | .sl t=>sJ (.sl t) v
def aAa:AV->Bool
 | .agg _=>false
 | .tuple _=>false
 |_=>true
def cellsOf:List RK->List AV->Option (List AV)
 |[],[]=>some []
 | .one _::rs,v::vs=>match aAa v with
   |true=>match cellsOf rs vs with
    |some l=>some (v::l)
    |none=>none
   |false=>none
 | .agg cs::rs,v::vs=>match v with
   | .agg xs=>match Nat.beq xs.length cs.length with
     |true=>match cellsOf rs vs with
      |some l=>some (xs++l)
      |none=>none
     |false=>none
   |_=>none
 |_,_=>none
def outs {α:Type}:List CK->List AV->St->(List SE->St->T α)->T α
 |[],[],s,k=>k [] s
 |c::cs,v::vs,s,k=>match c with
  | .bool=>match v with
    | .bool b=>qX s b fun s b=>outs cs vs s fun es s=>k (.lit (if b then 1 else 0)::es) s
    |_=> .fail
  |c=>match apO c v with
   |some e=>outs cs vs s fun es s=>k (e::es) s
   |none=> .fail
 |_,_,_,_=> .fail
def iU:List SE->SE
 |[]=> .dat (.i 0)
 |e::es=>iH (I5 e) (iU es)
def uZ (r:SE) (i:Nat):SE:=.op .num (.op (.cell i) r (.lit 0)) (.lit 0)
inductive Lf where
 |out (es:List SE)
 |jump (j:Nat) (es:List SE)
 deriving Inhabited
structure JF where
 tt:TT
 call:dS
 draw:Nat->List Oper->St->T St
 lf:Nat
 res:List ResultVar
 pW:List RK
 eG:List dW:=[]
 ko:Nat:=0
 wW:List CS:=[]
 kR:Nat:=0
 fz:List (Nat×Nat×Nat):=[]
def JF.ev (g:JF) (c:Code) (s:St):T (Ex×St):=lT g.tt g.call g.draw g.lf c s
abbrev Ld:=List Nat->Option (List (Nat×CS))
def aDM:Nat->Tr (Nat×Nat)
 |0=> .nil
 |n+1=>(aDM n).put n (some (n,0))
def jQ (g:JF) (h:Hp):Ren:=match Jr h g.eG 0 ⟨.nil,aDM g.eG.length⟩ with
 |⟨ns,_⟩=> ⟨FM ns g.ko 0,List.range g.eG.length,[]⟩
def CS.mJ (m:Nat) (c:CS) (s:St):Ren:=match Jr s.h c.objs 0 (LU s.slots c.slots ⟨.nil,aDM m⟩) with
 |⟨ns,bl⟩=> ⟨FM ns c.k 0,VB bl c.objs.length 0,VA bl c.objs.length 0⟩
def OD (m:Nat) (r:Ren):Bool:=match m with
 |0=>true
 |n+1=>(match iD r.bl n with |some j=>Nat.beq j n|none=>false)&&Nat.beq (r.BG n) 0&&OD n r
def J9:Nat->Nat->List SE->List SE
 |0,_,ns=>ns
 |_+1,_,[]=>[]
 |n+1,i,_::ns=> .aO i::J9 n (i+1) ns
def xY (kR:Nat) (r:Ren):Ren:=match kR with
 |0=>r
 |n+1=>{ r with ns:=J9 (n+1) 0 r.ns }
def YF (n m kR:Nat) (s:St):List CS->Nat->T Lf
 |[],_=> .fail
 |c::l,i=>match quick s.slots c.slots&&Nat.beq n c.slots.length with
  |false=>YF n m kR s l (i+1)
  |true=>match c.fits prv s (xY kR (c.mJ m s))&&OD m (xY kR (c.mJ m s)) with
   |true=> .ret (.out (.lit (Int.ofNat i)::(xY kR (c.mJ m s)).ns))
   |false=>YF n m kR s l (i+1)
def abG {α:Type}:List (Nat×Nat×Nat)->List AV->St->(List AV->St->T α)->T α
 |[],vs,s,k=>k vs s
 |(r,f,t)::l,vs,s,k=>match iD vs r with
  |some (.agg xs)=>match iD xs f with
   |some x=>ajZ x s fun x s=>match sJ (.sl t) x with
    |some e=>abG l (vs.set r (.agg (xs.set f (.dat e t)))) s k
    |none=> .fail
   |none=> .fail
  |_=> .fail
def arX (g:JF) (e:Ex) (s:St):T Lf:=match e with
 | .exit _=> .fail
 |_=>match oP g.tt s g.res with
  |none=> .fail
  |some vs=>match g.wW with
   |[]=>match cellsOf g.pW vs with
    |none=> .fail
    |some cells=>Ht cells s fun cells s=>match Jf (jQ g s.h) g.eG.length s.h g.eG 0 with
     |true=>outs (vF g.pW) cells s fun es _=> .ret (.out ((jQ g s.h).ns++es))
     |false=> .fail
   |c::l=>abG g.fz vs s fun vs s=>YF vs.length g.eG.length g.kR ⟨bI vs 0 .nil,s.h,s.pc⟩ (c::l) 0
def xW (m kR:Nat) (s:St):List (Nat×CS)->T Lf
 |[]=> .fail
 |(j,c)::l=>match quick s.slots c.slots with
  |false=>xW m kR s l
  |true=>match c.fits prv s (xY kR (c.mJ m s))&&OD m (xY kR (c.mJ m s)) with
   |true=> .ret (.jump j (xY kR (c.mJ m s)).ns)
   |false=>xW m kR s l
def Zy {α:Type} (k:St->T α):List (Nat×Nat)->St->T α
 |[],s=>k s
 |(t,g)::l,s=>match s.slots.get t with
  |some (.int _ e)=>qX s (.eq e (.aO g)) fun s _=>Zy k l s
  |_=>Zy k l s
def Dn {α:Type} (k:St->T α):List Nat->St->T α
 |[],s=>k s
 |t::ts,s=>match s.slots.get t with
  |some (.bool c)=>qX s c fun s b=>Dn k ts { s with slots:=s.slots.put t (some (.bool (.lit b))) }
  |_=>Dn k ts s
def avU:List (Nat×AV)->List Nat->List Nat
 |[],acc=>acc
 |(t,.bool _)::l,acc=>avU l (t::acc)
 |_::l,acc=>avU l acc
def avV:List (Nat×CS)->List Nat->List Nat
 |[],acc=>acc
 |(_,c)::l,acc=>avV l (avU c.slots acc)
mutual
def EG (g:JF) (tabs:Ld):Nat->List Nat->Code->List FrE->St->T Lf
 |0,_,_,_,_=> .fail
 |n+1,p,c,fr,s=>match tabs p with
  |some l=>Dn (fun s=>xW g.eG.length g.kR s l) (avV l []) s
  |none=>match c with
   | .seq a b=>EG g tabs n (0::p) a (.seq (1::p) b::fr) s
   | .block id b=>EG g tabs n (0::p) b (.block id::fr) s
   | .scope b=>EG g tabs n (0::p) b (.scope::fr) s
   | .cond v a b=>match As.ev s v with
     |some (.bool c)=>qX s c fun s t=>match t with
      |true=>EG g tabs n (0::p) a fr s
      |false=>EG g tabs n (1::p) b fr s
     |_=> .fail
   |c=>(g.ev c s).bind fun (e,s')=>AA g tabs n fr e s'
def AA (g:JF) (tabs:Ld):Nat->List FrE->Ex->St->T Lf
 |0,_,_,_=> .fail
 |n+1,fr,e,s=>match fr with
  |[]=>arX g e s
  | .seq p c::fr=>match e with
    | .normal=>EG g tabs n p c fr s
    |e=>AA g tabs n fr e s
  | .block id::fr=>match e with
    | .exit j=>match Nat.beq j id with
      |true=>AA g tabs n fr .normal s
      |false=>AA g tabs n fr (.exit j) s
    |e=>AA g tabs n fr e s
  | .loop p _::fr=>match e with
    | .normal=>match tabs p with
      |some l=>Dn (fun s=>xW g.eG.length g.kR s l) (avV l []) s
      |none=> .fail
    |e=>AA g tabs n fr e s
  | .scope::fr=>AA g tabs n fr e s
end
abbrev uU:=Nat->List Int->Option (List Int)
def qY (xs:List Int):Int:=enc (dL (xs.map .i))
def Good (F:uU) (ρ:Nat->Int):Prop:= ∀j xs,ρ (lD (2*j) (qY xs))=(if (F j xs).isSome then 1 else 0)/\ρ (lD (2*j+1) (qY xs))=qY ((F j xs).getD [])
def low (xs:List Int) (i:Nat):Int:=xs.getD i 0
open Classical in
def bT (F:uU) (lo:Nat->Int) (i:Nat):Int:=if i<900 then lo i else
 if h: ∃p:Nat×List Int,i=lD (2*p.1) (qY p.2) then (if (F h.choose.1 h.choose.2).isSome then 1 else 0) else
 if h: ∃p:Nat×List Int,i=lD (2*p.1+1) (qY p.2) then qY ((F h.choose.1 h.choose.2).getD []) else 0
theorem Y2 {a b:List Int} (h:qY a=qY b):a=b:=by
 unfold qY at h;have:=PI (lN h)
 have hinj: ∀{x y:List Int},x.map D.i=y.map D.i->x=y:=by
  intro x
  induction x with
  |nil=>intro y h; cases y with |nil=>rfl|cons z y=>simp at h
  |cons z x ih=>
   intro y h
   cases y with
   |nil=>simp at h
   |cons q y=> simp only [aJd,List.cons.injEq,D.i.injEq] at h;rw [h.1,ih h.2]
 exact hinj this
theorem zH {f g:Nat} {a b:Int} (h:lD f a=lD g b):f=g/\a=b:=by unfold lD at h;obtain⟨h1,h2⟩:=Jh (a:=f) (b:=zN a) (a':=g) (b':=zN b) (by omega);exact⟨h1,alM h2⟩
theorem Du (f:Nat) (a:Int):1000<=lD f a:=by unfold lD; omega
theorem wM {F:uU} {lo:Nat->Int} {i:Nat} (h:i<900):bT F lo i=lo i:=by unfold bT; rw [aIR h]
theorem oU (F:uU) (lo:Nat->Int):Good F (bT F lo):=by
 intro j xs;have h1:=Du (2*j) (qY xs);have h2:=Du (2*j+1) (qY xs);constructor
 ·unfold bT;rw [aIQ (by omega)];have h: ∃p:Nat×List Int,lD (2*j) (qY xs)=lD (2*p.1) (qY p.2):=⟨(j,xs),rfl⟩;rw [dif_pos h];obtain⟨q1,q2⟩:=zH h.choose_spec;have q2:=Y2 q2;have q1:h.choose.1=j:=by omega
  rw [<- q2,q1]
 ·unfold bT;rw [aIQ (by omega)]
  have hn: ¬∃p:Nat×List Int,lD (2*j+1) (qY xs)=lD (2*p.1) (qY p.2):=by rintro⟨p,hp⟩;have:=(zH hp).1;omega
  rw [dif_neg hn];have h: ∃p:Nat×List Int,lD (2*j+1) (qY xs)=lD (2*p.1+1) (qY p.2):=⟨(j,xs),rfl⟩;rw [dif_pos h];obtain⟨q1,q2⟩:=zH h.choose_spec;have q2:=Y2 q2;have q1:h.choose.1=j:=by omega
  rw [<- q2,q1]
theorem Good.ren {F:uU} {ρ ρ':Nat->Int} (g:Good F ρ) (h: ∀i,900<=i->ρ' i=ρ i):Good F ρ':=by intro j xs;have h1:=Du (2*j) (qY xs);have h2:=Du (2*j+1) (qY xs);rw [h _ (by omega),h _ (by omega)];exact g j xs
def fE (tree:Nat->T Lf):Nat->uU
 |0,_,_=>none
 |n+1,j,xs=>match (tree j).leaf (bT (fE tree n) (low xs)) with
  |none=>none
  |some (.out es)=>some (es.map (SE.den (bT (fE tree n) (low xs))))
  |some (.jump j' es)=>fE tree n j' (es.map (SE.den (bT (fE tree n) (low xs))))
def RP:List CK->Bool
 |[]=>true
 |c::l=>match c with
  | .int _=>RP l
  | .bool=>RP l
  |_=>false
def aqT (j:Nat) (P8 pW:List RK):List AV->St->T (AV×St):=fun args s=>match cellsOf P8 args with
 |none=> .fail
 |some cells=>Ht cells s fun cells s1=>outs (vF P8) cells s1 fun es s2=>
  qX s2 (.eq (.ap (2*j) (iU es)) (.lit 1)) fun s3 b=>match b with
   |true=> .ret (match wH pW (uZ (.ap (2*j+1) (iU es))) 0 with |[v]=>v|vs=> .tuple vs,match RP (vF pW) with
    |true=>{ s3 with h:=s.h }
    |false=>s3)
   |false=> .fail
end
end Go.As
end
section
namespace Go.As
open Go.RowKit
def gY (K:Nat):SE->Bool
 | .lit _=>true
 | .aO i=>Nat.blt i K
 | .add a b=>gY K a&&gY K b
 | .sub a b=>gY K a&&gY K b
 | .mul a b=>gY K a&&gY K b
 | .quo a b=>gY K a&&gY K b
 | .rem a b=>gY K a&&gY K b
 | .wrap _ a=>gY K a
 | .inp _ _=>false
 | .dat _=>true
 | .op _ a b=>gY K a&&gY K b
 | .ap _ _=>false
def BZ (K:Nat):SB->Bool
 | .lit _=>true
 | .lt a b=>gY K a&&gY K b
 | .le a b=>gY K a&&gY K b
 | .eq a b=>gY K a&&gY K b
 | .not s=>BZ K s
 | .and a b=>BZ K a&&BZ K b
mutual
def pJ (K:Nat):AV->Bool
 | .bool b=>BZ K b
 | .int _ e=>gY K e
 | .sD cs=>qM K cs
 | .ro cs _ _=>qM K cs
 | .func _ a b=>qM K a&&qM K b
 | .iface _ v=>pJ K v
 | .agg cs=>qM K cs
 | .tuple cs=>qM K cs
 | .inp _ _=>false
 | .dat e _=>gY K e
 | .nI e=>gY K e
 | .vY _ n _=>gY K n
 | .qZ _ _ i _=>gY K i
 | .BD _ l n _=>gY K l&&gY K n
 | .IQ z _=>gY K z
 |_=>true
def qM (K:Nat):List AV->Bool
 |[]=>true
 |x::xs=>pJ K x&&qM K xs
end
def L8 (K:Nat):List (AV×AV×Nat)->Bool
 |[]=>true
 |(k,v,_)::l=>pJ K k&&pJ K v&&L8 K l
def Oa (K:Nat):List (SE×List AV)->Bool
 |[]=>true
 |(i,cs)::l=>gY K i&&qM K cs&&Oa K l
def GX (K:Nat):dW->Bool
 | .cells cs _=>qM K cs
 | .map es _=>L8 K es
 | .oV _ _=>true
 | .vec e _ _ ov=>gY K e&&Oa K ov
 | .jF e _=>gY K e
def afC (K:Nat):List (SB×Bool)->Bool
 |[]=>true
 |(c,_)::l=>BZ K c&&afC K l
def yJ (K:Nat):List (Nat×AV)->Bool
 |[]=>true
 |(_,v)::l=>pJ K v&&yJ K l
def LG (K:Nat):List dW->Bool
 |[]=>true
 |o::l=>GX K o&&LG K l
def Di (K:Nat) (c:CS):Bool:=yJ K c.slots&&LG K c.objs&&afC K c.pc
section
variable {K:Nat} {ρ ρ':Nat->Int} (hρ: ∀i,i<K->ρ' i=ρ i)
include hρ
theorem dJ: ∀e:SE,gY K e=true->e.den ρ'=e.den ρ
 | .lit _,_=>rfl
 | .aO i,h=>by simp only [gY] at h; exact hρ i (FY h)
 | .add a b,h=>by simp only [gY,aIU] at h; simp only [SE.den,dJ a h.1,dJ b h.2]
 | .sub a b,h=>by simp only [gY,aIU] at h; simp only [SE.den,dJ a h.1,dJ b h.2]
 | .mul a b,h=>by simp only [gY,aIU] at h; simp only [SE.den,dJ a h.1,dJ b h.2]
 | .quo a b,h=>by simp only [gY,aIU] at h; simp only [SE.den,dJ a h.1,dJ b h.2]
 | .rem a b,h=>by simp only [gY,aIU] at h; simp only [SE.den,dJ a h.1,dJ b h.2]
 | .wrap _ a,h=>by simp only [gY] at h; simp only [SE.den,dJ a h]
 | .inp _ _,h=>by simp [gY] at h
 | .dat _,_=>rfl
 | .op _ a b,h=>by simp only [gY,aIU] at h; simp only [SE.den,dJ a h.1,dJ b h.2]
 | .ap _ _,h=>by simp [gY] at h
theorem yN: ∀c:SB,BZ K c=true->c.den ρ'=c.den ρ
 | .lit _,_=>rfl
 | .lt a b,h=>by simp only [BZ,aIU] at h; simp only [SB.den,dJ hρ a h.1,dJ hρ b h.2]
 | .le a b,h=>by simp only [BZ,aIU] at h; simp only [SB.den,dJ hρ a h.1,dJ hρ b h.2]
 | .eq a b,h=>by simp only [BZ,aIU] at h; simp only [SB.den,dJ hρ a h.1,dJ hρ b h.2]
 | .not s,h=>by simp only [BZ] at h; simp only [SB.den,yN s h]
 | .and a b,h=>by simp only [BZ,aIU] at h; simp only [SB.den,yN a h.1,yN b h.2]
end
section
variable {K:Nat} {E E':En} (hρ: ∀i,i<K->E'.ρ i=E.ρ i) (hθ:E'.θ=E.θ) (hκ:E'.κ=E.κ) (hdm:E'.dm=E.dm) (hro:E'.ro=E.ro) {h:Array Obj}
include hρ hθ hκ hdm hro
theorem gG.low {id off len:Nat} {a:Addr} {cap:Nat} {c:Zk} (hc:gG E id off len a cap c):gG E' id off len a cap c:=by
 cases c<;>simp only [gG] at*<;>rw [hθ]
 ·exact hc
 ·rw [hκ]; exact hc
mutual
theorem VR.low: ∀(x:AV) (u:Value),pJ K x=true->VR E h x u->VR E' h x u
 | .bool b,u,hl,hv=>by simp only [VR,pJ] at *; rw [yN hρ b hl]; exact hv
 | .int _ e,u,hl,hv=>by simp only [VR,pJ] at *; rw [dJ hρ e hl]; exact hv
 | .str s,u,_,hv=>by simp only [VR] at *; exact hv
 | .ptr id off,u,_,hv=>by simp only [VR] at *; rw [hθ,hdm]; exact hv
 | .kX,u,_,hv=>by simp only [VR] at *; exact hv
 | .sD cs,u,hl,hv=>by simp only [VR,pJ] at *;obtain⟨b,o,us,h1,h2,h3,h4,h5⟩:=hv;exact⟨b,o,us,h1,by rw [hro]; exact h2,bQ.low cs us hl h3,h4,h5⟩
 | .slice id off len c,u,_,hv=>by simp only [VR] at *;obtain⟨h1,a,cap,h2,h3,h4⟩:=hv;exact⟨by rw [hdm]; exact h1,a,cap,h2,h3,gG.low hρ hθ hκ hdm hro h4⟩
 | .aA,u,_,hv=>by simp only [VR] at *; exact hv
 | .ro cs n full,u,hl,hv=>by simp only [VR,pJ] at *;obtain⟨b,o,cap,us,h1,h2,h3,h4,h5,h6,h7⟩:=hv;exact⟨b,o,cap,us,h1,h2,h3,by rw [hro]; exact h4,bQ.low cs us hl h5,h6,h7⟩
 | .map id,u,_,hv=>by simp only [VR] at *; rw [hθ,hdm]; exact hv
 | .qH,u,_,hv=>by simp only [VR] at *; exact hv
 | .func fn fs cs,u,hl,hv=>by simp only [VR,pJ,aIU] at *;obtain⟨us,ws,h1,h2,h3⟩:=hv;exact⟨us,ws,h1,bQ.low fs us hl.1 h2,bQ.low cs ws hl.2 h3⟩
 | .CJ,u,_,hv=>by simp only [VR] at *; exact hv
 | .iface t x,u,hl,hv=>by simp only [VR,pJ] at *;obtain⟨y,h1,h2⟩:=hv;exact⟨y,h1,VR.low x y hl h2⟩
 | .FD,u,_,hv=>by simp only [VR] at *; exact hv
 | .agg cs,u,hl,hv=>by simp only [VR,pJ] at *;obtain⟨us,h1,h2⟩:=hv;exact⟨us,h1,bQ.low cs us hl h2⟩
 | .tuple cs,u,hl,hv=>by simp only [VR,pJ] at *;obtain⟨us,h1,h2⟩:=hv;exact⟨us,h1,bQ.low cs us hl h2⟩
 | .opq _,u,_,hv=>by simp only [VR] at hv
 | .inp _ _,u,hl,_=>by simp [pJ] at hl
 | .emp,u,_,hv=>by simp only [VR] at *; exact hv
 | .dat e t,u,hl,hv=>by simp only [VR,pJ] at *; rw [dJ hρ e hl,hro]; exact hv
 | .nI e,u,hl,hv=>by simp only [VR,pJ] at *; rw [dJ hρ e hl,hro]; exact hv
 | .vY id n t,u,hl,hv=>by simp only [VR,pJ] at *;obtain⟨h1,k,a,cap,h2,h3,h4,h5⟩:=hv;exact⟨by rw [hdm]; exact h1,k,a,cap,by rw [dJ hρ n hl]; exact h2,h3,h4,gG.low hρ hθ hκ hdm hro h5⟩
 | .qZ id es i off,u,hl,hv=>by simp only [VR,pJ] at *;obtain⟨h1,k,h2,h3⟩:=hv;exact⟨by rw [hdm]; exact h1,k,by rw [dJ hρ i hl]; exact h2,by rw [hθ]; exact h3⟩
 | .any,u,_,_=>by simp only [VR]
 | .IQ z t,u,hl,hv=>by simp only [VR,pJ] at *; rw [dJ hρ z hl,hro]; exact hv
 | .BD id lo n t,u,hl,hv=>by simp only [VR,pJ,aIU] at *;obtain⟨h1,l,k,a,cap,h2,h3,h4,h5,h6⟩:=hv;exact⟨by rw [hdm]; exact h1,l,k,a,cap,by rw [dJ hρ lo hl.1]; exact h2,by rw [dJ hρ n hl.2]; exact h3,h4,h5,gG.low hρ hθ hκ hdm hro h6⟩
theorem bQ.low: ∀(xs:List AV) (us:List Value),qM K xs=true->bQ E h xs us->bQ E' h xs us
 |[],us,_,hv=>by simp only [bQ] at *; exact hv
 |x::xs,us,hl,hv=>by simp only [bQ,qM,aIU] at *;obtain⟨u,vs,h1,h2,h3⟩:=hv;exact⟨u,vs,h1,VR.low x u hl.1 h2,bQ.low xs vs hl.2 h3⟩
end
theorem fH.low: ∀{es:List (AV×AV×Nat)} {ents:List MapEntry},L8 K es=true->fH E h es ents->fH E' h es ents
 |[],_,_,hv=>by simp only [fH] at *; exact hv
 |(k,v,b)::es,ents,hl,hv=>by simp only [fH,L8,aIU] at *;obtain⟨e,r,h1,h2,h3,h4,h5⟩:=hv;exact⟨e,r,h1,VR.low hρ hθ hκ hdm hro k _ hl.1.1 h2,VR.low hρ hθ hκ hdm hro v _ hl.1.2 h3,h4,fH.low hl.2 h5⟩
theorem SK {i:Nat}: ∀{ov:List (SE×List AV)},Oa K ov=true->dR E'.ρ i ov=dR E.ρ i ov
 |[],_=>rfl
 |(j,cs)::l,hl=>by simp only [Oa,aIU] at hl;simp only [dR];rw [dJ hρ j hl.1.1,SK hl.2]
theorem SN: ∀{ov:List (SE×List AV)},Oa K ov=true->∀p∈ov,qM K p.2=true
 |[],_,p,hp=>by simp at hp
 |(j,cs)::l,hl,p,hp=>by
  simp only [Oa,aIU] at hl;rcases aI3.1 hp with rfl|hp
  ·exact hl.1.2
  ·exact SN hl.2 p hp
theorem Ij {r:Row} {ov:List (SE×List AV)} (hl:Oa K ov=true): ∀(ds:List D) (i:Nat) {us:List Value},bQ E h (aN E.ρ r ov ds i) us->bQ E' h (aN E'.ρ r ov ds i) us
 |[],_,us,hv=>by simp only [aN,bQ] at *; exact hv
 |d::ds,i,us,hv=>by
  simp only [aN] at *;obtain⟨a,b,rfl,h1,h2⟩:=hv.split;refine bQ.append ?_ (Ij hl ds (i+1) h2);rw [SK hρ hθ hκ hdm hro hl]
  cases ho:dR E.ρ i ov with
  |none=> rw [ho] at h1;rw [iJ] at h1 ⊢;rw [hro];exact h1
  |some cs=> rw [ho] at h1;obtain⟨p,p1,p2,_⟩:=oN ho;exact bQ.low hρ hθ hκ hdm hro cs a (by rw [<- p2]; exact SN hρ hθ hκ hdm hro hl p p1) h1
theorem OR.low {id:Nat} {o:dW} (hl:GX K o=true) (ho:OR E h id o):OR E' h id o:=by
 cases o with
 |cells cs e=> simp only [OR,GX] at *;obtain⟨arr,lo,hi,us,h1,h2,h3,h4,h5,h6,h7⟩:=ho;rw [hθ,hκ];exact⟨arr,lo,hi,us,h1,bQ.low hρ hθ hκ hdm hro cs us hl h2,h3,h4,h5,h6,h7⟩
 |map es c=> simp only [OR,GX] at *;obtain⟨ents,c',h1,h2⟩:=ho;rw [hθ];exact⟨ents,c',h1,fH.low hρ hθ hκ hdm hro hl h2⟩
 |oV s p=>simp only [OR] at *; rw [hθ]; exact ho
 |jF e t=> simp only [OR,GX] at *;obtain⟨ents,c',h1,h2⟩:=ho;rw [hθ,dJ hρ e hl,hro];exact⟨ents,c',h1,h2⟩
 |vec e t ty ov=> simp only [OR,GX,aIU] at *;obtain⟨⟨h0,hw⟩,arr,lo,hi,us,h1,h2,h3,h4,h5,h6,h7⟩:=ho;have he:=dJ hρ e hl.1;rw [hθ,hκ,he];refine⟨⟨h0,hw⟩,arr,lo,hi,us,h1,Ij hρ hθ hκ hdm hro hl.2 _ _ h2,h3,?_,h5,h6,h7⟩;rw [bY h0] at h4 ⊢;exact h4
end
theorem XL {K:Nat} {ρ ρ':Nat->Int} (hρ: ∀i,i<K->ρ' i=ρ i): ∀{pc:List (SB×Bool)},afC K pc=true->bM ρ pc->bM ρ' pc
 |[],_,_=>by intro c b h; simp at h
 |(c0,b0)::l,hl,hp=>by
  simp only [afC,aIU] at hl;intro c b hm;rcases aI3.1 hm with hm|hm
  ·simp only [aIT] at hm;obtain⟨rfl,rfl⟩:=hm;rw [yN hρ c hl.1];exact hp c b (by simp)
  ·exact XL hρ hl.2 (fun c b h=>hp c b (by simp [h])) c b hm
theorem Gu {K:Nat}: ∀{l:List (Nat×AV)},yJ K l=true->∀{t:Nat} {v:AV},(t,v)∈l->pJ K v=true
 |[],_,_,_,h=>by simp at h
 |(t0,v0)::l,hs,t,v,h=>by
  simp only [yJ,aIU] at hs;rcases aI3.1 h with h|h
  ·simp only [aIT] at h;rw [h.2]; exact hs.1
  ·exact Gu hs.2 h
theorem CG {K:Nat}: ∀{l:List dW},LG K l=true->∀{i:Nat} {o:dW},l[i]?=some o->GX K o=true
 |[],_,_,_,h=>by simp at h
 |o0::l,hs,i,o,h=>by
  simp only [LG,aIU] at hs
  cases i with
  |zero=>simp at h; rw [<- h]; exact hs.1
  |succ i=>exact CG hs.2 (by simpa using h)
structure II (E:En) (s:St) (a:Act) (w:World):Prop where
 fresh: ∀id,s.h.next<=id->¬E.dm id
 res: ∀r,s.h.res=some r->r<s.h.next/\¬E.dm r
 live: ∀id o,s.h.get id=some o->E.dm id/\OR E w.heap id o/\¬E.ro (E.θ id).1
 inj: ∀id id' o o',s.h.get id=some o->s.h.get id'=some o'->(E.θ id).1=(E.θ id').1->id=id'
 Cc: ∀b,E.ro b->b<w.heap.size
 sr:SR E w.heap s.slots a
 pc:bM E.ρ s.pc
theorem Fit.x [Glob] {E:En} {s:St} {a:Act} {w:World} (f:Fit E s a w):II E s a w:=⟨f.rel.fresh,f.rel.res,f.rel.live,f.rel.inj,f.rel.Cc,f.sr,f.pc⟩
theorem II.fit [Glob] {E:En} {s:St} {a:Act} {w:World} (f:II E s a w) (hg:Glob.ok E.ρ E.ro w.heap):Fit E s a w:=⟨⟨f.fresh,f.res,f.live,f.inj,f.Cc,hg⟩,f.sr,f.pc⟩
theorem II.low {K:Nat} {E:En} {c:CS} {a:Act} {w:World} {ρ':Nat->Int} (hc:Di K c=true) (hρ: ∀i,i<K->ρ' i=E.ρ i) (f:II E c.st a w):II { E with ρ:=ρ' } c.st a w:=by
 unfold Di at hc;simp only [aIU] at hc;obtain⟨⟨h1,h2⟩,h3⟩:=hc;refine⟨f.fresh,f.res,fun id o ho=>?_,f.inj,f.Cc,fun t v ht=>?_,XL hρ h3 f.pc⟩
 ·obtain⟨q1,q2,q3⟩:=f.live id o ho;refine⟨q1,OR.low (E:=E) (E':={ E with ρ:=ρ' }) hρ rfl rfl rfl rfl ?_ q2,q3⟩;have:(wG c.objs 0 .nil).get id=some o:=ho;rw [oC] at this;split at this
  ·exact CG h2 this
  ·simp [Tr.get] at this
 ·obtain⟨u,q1,q2⟩:=f.sr t v ht;refine⟨u,q1,VR.low (E:=E) (E':={ E with ρ:=ρ' }) hρ rfl rfl rfl rfl v u ?_ q2⟩;have:(sN c.slots .nil).get t=some v:=ht;rcases BR this with h|h
  ·exact Gu h1 h
  ·simp [Tr.get] at h
end Go.As
end
section
namespace Go.As
open Go.RowKit
def Dy (ro:Nat->Prop) (h:Array Obj) (c:CK) (n:Int) (u:Value):Prop:=match c with
 | .int k=>u= .int k n
 | .bool=>u= .bool (!(n == 0))
 |c=>Rd ro h c (dec n) u
def jU (ro:Nat->Prop) (h:Array Obj):List CK->List Int->List Value->Prop
 |[],ns,us=>ns= []/\us= []
 |c::cs,ns,us=> ∃n ns' u us',ns=n::ns'/\us=u::us'/\Dy ro h c n u/\jU ro h cs ns' us'
theorem Y0 {E:En} {h:Array Obj} {c:CK} {t:SE} {u:Value}:VR E h (ahQ c t) u↔Dy E.ro h c (t.den E.ρ) u:=by cases c<;>simp only [ahQ,Dy,VR,SB.den,SE.den]
theorem apN {E:En} {h:Array Obj} {c:CK} {v:AV} {u:Value} {e:SE} (hv:VR E h v u) (hn:apO c v=some e):Dy E.ro h c (e.den E.ρ) u:=by
 unfold apO at hn;split at hn
 ·split at hn
  ·split at hn
   ·rename_i hk;subst hk;simp only [aIS] at hn;subst hn;simpa only [Dy,VR] using hv
   ·simp at hn
  ·simp at hn
 ·simp at hn
 ·obtain⟨s,rfl,hs⟩:=Gp hv hn;simp only [Dy,hs];exact .str s
 ·exact qV hv hn
theorem jU.length {ro:Nat->Prop} {h:Array Obj}: ∀{cs:List CK} {ns:List Int} {us:List Value},jU ro h cs ns us->ns.length=cs.length/\us.length=cs.length
 |[],ns,us,hh=>by simp only [jU] at hh; simp [hh.1,hh.2]
 |c::cs,ns,us,hh=>by obtain⟨n,ns',u,us',rfl,rfl,_,h2⟩:=hh;have:=h2.length;simp [this.1,this.2]
theorem Dy.keep {ro ro':Nat->Prop} {h h':Array Obj} (k1: ∀b,ro b->ro' b) (k2: ∀b,ro b->h'[b]?=h[b]?) {c:CK} {n:Int} {u:Value} (r:Dy ro h c n u):Dy ro' h' c n u:=by
 cases c with
 |int k=>exact r
 |bool=>exact r
 |str=>exact Rd.keep k1 k2 r
 |sl t=>exact Rd.keep k1 k2 r
theorem PW {E:En} {h:Array Obj} {f:Nat->SE}: ∀{cs:List CK} {i:Nat} {ns:List Int} {us:List Value},jU E.ro h cs ns us->(∀k n,ns[k]?=some n->(f (i+k)).den E.ρ=n)->bQ E h (PX cs f i) us
 |[],_,_,us,hh,_=>by simp only [jU] at hh; rw [hh.2]; simp [PX,bQ]
 |c::cs,i,ns,us,hh,hf=>by
  obtain⟨n,ns',u,us',rfl,rfl,h1,h2⟩:=hh;simp only [PX,bG];refine⟨u,us',rfl,?_,PW h2 fun k m hk=>?_⟩
  ·rw [Y0];have:=hf 0 n rfl;rw [aJj] at this;rw [this];exact h1
  ·have:=hf (k+1) m (by simpa using hk);rw [show i+1+k=i+(k+1) by omega];exact this
inductive Shape:List RK->List Value->List Value->Prop where
 |nil:Shape [] [] []
 |one (c:CK) {rs:List RK} {us fl:List Value} (u:Value):Shape rs us fl->Shape (.one c::rs) (u::us) (u::fl)
 |agg (cs:List CK) {rs:List RK} {us fl:List Value} (xs:List Value) (h:xs.length=cs.length):Shape rs us fl->Shape (.agg cs::rs) (.agg xs.toArray::us) (xs++fl)
theorem sW {E:En} {h:Array Obj}: ∀{pW:List RK} {vs cells:List AV} {us:List Value},bQ E h vs us->cellsOf pW vs=some cells->∃fl,Shape pW us fl/\bQ E h cells fl
 |[],[],cells,us,hv,hc=>by simp only [cellsOf,aIS] at hc;subst hc;simp only [bQ] at hv;subst hv;exact⟨[],.nil,by simp [bQ]⟩
 |[],_::_,cells,us,hv,hc=>by simp [cellsOf] at hc
 | .one _::_,[],cells,us,hv,hc=>by simp [cellsOf] at hc
 | .agg _::_,[],cells,us,hv,hc=>by simp [cellsOf] at hc
 | .one c::rs,v::vs,cells,us,hv,hc=>by
   rw [bG] at hv;obtain⟨u,us',rfl,h1,h2⟩:=hv;simp only [cellsOf] at hc;split at hc
   ·split at hc
    ·rename_i l hl;simp only [aIS] at hc;subst hc;obtain⟨fl,s,v2⟩:=sW h2 hl;exact⟨u::fl,.one c u s,by rw [bG]; exact⟨u,fl,rfl,h1,v2⟩⟩
    ·simp at hc
   ·simp at hc
 | .agg cs::rs,v::vs,cells,us,hv,hc=>by
   rw [bG] at hv;obtain⟨u,us',rfl,h1,h2⟩:=hv;simp only [cellsOf] at hc;split at hc
   ·rename_i xs;split at hc
    ·rename_i hlen;have hlen:=aIW hlen;split at hc
     ·rename_i l hl;simp only [aIS] at hc;subst hc;obtain⟨fl,s,v2⟩:=sW h2 hl;simp only [VR] at h1;obtain⟨ws,rfl,h3⟩:=h1;exact⟨ws++fl,.agg cs ws (by rw [h3.length,hlen]) s,h3.append v2⟩
     ·simp at hc
    ·simp at hc
   ·simp at hc
theorem EY {ro:Nat->Prop} {h:Array Obj}: ∀{cs ds:List CK} {ns:List Int} {us vs:List Value},us.length=cs.length->jU ro h (cs++ds) ns (us++vs)->∃a b,ns=a++b/\jU ro h cs a us/\jU ro h ds b vs
 |[],ds,ns,us,vs,hl,hh=>by have:us= []:=aJx hl;subst this;exact⟨[],ns,rfl,by simp [jU],hh⟩
 |c::cs,ds,ns,us,vs,hl,hh=>by
  simp only [aI8,jU] at hh;obtain⟨n,ns',u,us',rfl,he,h1,h2⟩:=hh
  cases us with
  |nil=>simp at hl
  |cons x us=> simp only [aI8,List.cons.injEq] at he;obtain⟨rfl,rfl⟩:=he;obtain⟨a,b,rfl,h3,h4⟩:=EY (by simpa using hl) h2;exact⟨n::a,b,rfl,⟨n,a,x,us,rfl,rfl,h1,h3⟩,h4⟩
theorem yT {E:En} {h:Array Obj} {f:Nat->SE}: ∀{pW:List RK} {us fl:List Value} {ns:List Int} {i:Nat},Shape pW us fl->jU E.ro h (vF pW) ns fl->(∀k n,ns[k]?=some n->(f (i+k)).den E.ρ=n)->bQ E h (wH pW f i) us
 |[],us,fl,ns,i,s,_,_=>by cases s; simp [wH,bQ]
 | .one c::rs,us,fl,ns,i,s,hc,hf=>by
   cases s with
   |one _ u s=>
    simp only [vF,RK.flat,aI8,aI1,jU] at hc;obtain⟨n,ns',u',us',rfl,he,h1,h2⟩:=hc;simp only [List.cons.injEq] at he;obtain⟨rfl,rfl⟩:=he;simp only [wH,bG];refine⟨_,_,rfl,?_,yT s h2 fun k m hk=>?_⟩
    ·rw [Y0];have:=hf 0 n rfl;rw [aJj] at this;rw [this]; exact h1
    ·have:=hf (k+1) m (by simpa using hk);rw [show i+1+k=i+(k+1) by omega];exact this
 | .agg cs::rs,us,fl,ns,i,s,hc,hf=>by
   cases s with
   |agg _ xs hl s=>
    simp only [vF,RK.flat] at hc;obtain⟨a,b,rfl,h1,h2⟩:=EY hl hc;have hal:=h1.length.1;simp only [wH,bG,VR];refine⟨_,_,rfl,⟨xs,rfl,PW h1 fun k m hk=>hf k m ?_⟩,yT s h2 fun k m hk=>?_⟩
    ·rw [aLe (aJf.1 hk).1]; exact hk
    ·have:=hf (cs.length+k) m (by rw [aKP (by omega),show cs.length+k-a.length=k by omega]; exact hk);rw [show i+cs.length+k=i+(cs.length+k) by omega];exact this
section
variable {P:Program} {E:En} {w:World}
theorem LD {α:Type} {r:α} {h:Array Obj}: ∀{cs:List CK} {vs:List AV} {s:St} {k:List SE->St->T α} {us:List Value},bM E.ρ s.pc->bQ E h vs us->(outs cs vs s k).leaf E.ρ=some r->
 ∃es pc',bM E.ρ pc'/\jU E.ro h cs (es.map (SE.den E.ρ)) us/\(k es { s with pc:=pc' }).leaf E.ρ=some r
 |[],[],s,k,us,hp,hv,hl=>by simp only [outs] at hl;simp only [bQ] at hv;exact⟨[],s.pc,hp,by simp [jU,hv],hl⟩
 |[],_::_,s,k,us,hp,hv,hl=>by simp [outs,T.leaf] at hl
 |_::_,[],s,k,us,hp,hv,hl=>by simp [outs,T.leaf] at hl
 |c::cs,v::vs,s,k,us,hp,hv,hl=>by
  rw [bG] at hv;obtain⟨u,us',rfl,h1,h2⟩:=hv;simp only [outs] at hl;split at hl
  ·split at hl
   ·rename_i b;obtain⟨pc1,hp1,hl1⟩:=dB hp hl;obtain⟨es,pc2,hp2,q1,q2⟩:=LD (s:={ s with pc:=pc1 }) hp1 h2 hl1;refine⟨_::es,pc2,hp2,?_,q2⟩;simp only [aJd,jU];refine⟨_,_,u,us',rfl,rfl,?_,q1⟩;simp only [VR] at h1;subst h1;simp only [Dy,SE.den];cases b.den E.ρ<;>rfl
   ·simp [T.leaf] at hl
  ·split at hl
   ·rename_i e he;obtain⟨es,pc2,hp2,q1,q2⟩:=LD hp h2 hl;refine⟨_::es,pc2,hp2,?_,q2⟩;simp only [aJd,jU];exact⟨_,_,u,us',rfl,rfl,apN h1 he,q1⟩
   ·simp [T.leaf] at hl
theorem Fj (ρ:Nat->Int): ∀es:List SE,dec ((iU es).den ρ)=dL ((es.map (SE.den ρ)).map .i)
 |[]=>by simp only [iU,SE.den,aF]; rfl
 |e::es=>by simp only [iU,iH,SE.den,iZ.den,aF,pY,Fj ρ es,aJd,dL]
theorem lX (ρ:Nat->Int): ∀es:List SE,(iU es).den ρ=qY (es.map (SE.den ρ))
 |[]=>rfl
 |e::es=>by have:=Fj ρ (e::es);simp only [iU,iH,SE.den,iZ.den,aF,pY,Fj ρ es,aJd,qY,dL]
theorem DK {ρ:Nat->Int} {r:SE} {ys:List Int} (h:r.den ρ=qY ys) {i:Nat} {y:Int} (hi:ys[i]?=some y):(uZ r i).den ρ=y:=by simp only [uZ,SE.den,iZ.den,h,qY,aF,D.hd,aW,aJi,hi,aJw,aIY,D.n]
def aBa (pW:List RK) (ys:List Int) (ro:Nat->Prop) (h:Array Obj) (u:Value):Prop:= ∃us fl,Shape pW us fl/\jU ro h (vF pW) ys fl/\u=if hh:us.toArray.size=1 then us.toArray[0] else .tuple us.toArray
def awJ (P:Program) (GB:(Nat->Prop)->Array Obj->Prop) (g:FuncId) (P8 pW:List RK) (f:List Int->Option (List Int)):Prop:=
 ∀xs ys,f xs=some ys->∀(ro:Nat->Prop) (w:World) (vals fl:List Value),(∀b,ro b->b<w.heap.size)->GB ro w.heap->Shape P8 vals fl->jU ro w.heap (vF P8) xs fl->
  Calls P g vals.toArray w fun e w'=> ∃u,e= .returned u/\Below w.heap.size w w'/\∃ro':Nat->Prop,(∀b,ro b->ro' b)/\(∀b,ro' b->ro b\/w.heap.size<=b)/\(∀b,ro' b->b<w'.heap.size)/\aBa pW ys ro' w'.heap u
theorem jU.aDh {ro ro':Nat->Prop} {h h':Array Obj}: ∀{cs:List CK} {ns:List Int} {us:List Value},jU ro h cs ns us->RP cs=true->jU ro' h' cs ns us
 |[],ns,us,hh,_=>hh
 |c::cs,ns,us,hh,hs=>by
  obtain⟨n,ns',u,us',rfl,rfl,h1,h2⟩:=hh;simp only [RP] at hs;split at hs
  ·exact⟨n,ns',u,us',rfl,rfl,h1,h2.aDh hs⟩
  ·exact⟨n,ns',u,us',rfl,rfl,h1,h2.aDh hs⟩
  ·simp at hs
theorem aqS [Glob] {GB:(Nat->Prop)->Array Obj->Prop} (hgb: ∀ρ ro h,Glob.ok ρ ro h->GB ro h) {F:uU} (hgood: ∀ρ ro h,Glob.ok ρ ro h->Good F ρ) {g:FuncId} {j:Nat} {P8 pW:List RK} (hs:awJ P GB g P8 pW (F j))
 (hrun: ∀(args:Array Value) (w:World),(callFunc g args).run P w= .ok (.enter g args) w):nT P g (aqT j P8 pW):=by
 intro aIP s E w vals v s' r hv hp hl;unfold aqT at hl;split at hl
 ·simp [T.leaf] at hl
 ·rename_i cells hc;obtain⟨fl,sh,hv2⟩:=sW hv hc;obtain⟨cells',h1,pcF,E1,hpF,f,hfr,hl⟩:=zB rfl r hp hl;have hv3:=hfr _ hv2;have s1:=f.dY;have r1:=f.rel;have hρ:=f.ρ;rw [<- hρ] at hl hpF;obtain⟨es,pc1,hp1,q1,q2⟩:=LD (s:={ s with h:=h1,pc:=pcF }) hpF hv3 hl;obtain⟨pc2,hp2,q3⟩:=dB (s:={ s with h:=h1,pc:=pc1 }) hp1 q2;split at q3
  ·rename_i ht;have hg:=hgood _ _ _ r1.glob;have hg1:=(hg j (es.map (SE.den E1.ρ))).1;have hg2:=(hg j (es.map (SE.den E1.ρ))).2;simp only [SB.den,SE.den,lX,hg1,beq_iff_eq] at ht
   have hsome:(F j (es.map (SE.den E1.ρ))).isSome=true:=by
    cases hh:(F j (es.map (SE.den E1.ρ))).isSome with
    |true=>rfl
    |false=>rw [hh] at ht; simp at ht
   obtain⟨ys,hys⟩:=aJ3.1 hsome;have hres:=aG q3;simp only [aIT] at hres;obtain⟨rfl,hs'⟩:=hres;have hrun':=hs _ ys hys E1.ro w vals fl r1.Cc (hgb _ _ _ r1.glob) sh q1
   have hval: ∀(E2:En) (h2:Array Obj) (us fl':List Value),E2.ρ=E1.ρ->Shape pW us fl'->jU E2.ro h2 (vF pW) ys fl'->
    VR E2 h2 (match wH pW (uZ (.ap (2*j+1) (iU es))) 0 with |[v]=>v|vs=> .tuple vs) (if hh:us.toArray.size=1 then us.toArray[0] else .tuple us.toArray):=by
    intro E2 h2 us fl' hE2 sh' c1
    have hvr:bQ E2 h2 (wH pW (uZ (.ap (2*j+1) (iU es))) 0) us:=by refine yT sh' c1 fun k n hk=>?_;rw [aI2];refine DK (ys:=ys) ?_ hk;show E2.ρ _=_;rw [hE2,lX,hg2,hys];rfl
    have:=Lr hvr;unfold resV at this;exact this
   cases hsc:RP (vF pW) with
   |true=>
    rw [hsc] at hs';simp only at hs';subst hs';refine⟨rfl,by rw [<- hρ]; exact hp2,?_⟩;unfold vH vG;rw [hrun];refine Calls.mono hrun' fun e w' ⟨u,he,hb,ro',k1,k2,k3,k4⟩=> ⟨u,he,?_⟩;have hkeep:Keeps E w.heap E w'.heap:=⟨rfl,fun _ h=>h,fun _ _=>rfl,fun _ _=>rfl,fun _ h=>h,fun b hbr=>hb.block b (r.Cc b hbr)⟩
    have st2:Stp E s.h w E s.h w':=
     ⟨rfl,fun _ h=>h,fun _ _=>rfl,fun _ _=>rfl,fun _ h=>h,fun b hbr=> .inl hbr,aIV _,.inr rfl,fun _ h=> .inl h,hb.os,hb.tape,hb.output,hb.size,fun b hbl _=>hb.block b hbl,fun id o h _=> ⟨id,o,h,rfl⟩⟩
    have r2:bJ E s.h w':=by refine⟨r.fresh,r.res,fun id o h=>?_,r.inj,fun b hbr=>aJP (r.Cc b hbr) hb.size,Glob.keep r.glob (fun _ h=>h) hkeep.NI⟩;obtain⟨g1,g2,g3⟩:=r.live id o h;exact⟨g1,g2.keep hkeep g1 (hb.block _ (jS r h)),g3⟩
    obtain⟨us,fl',sh',c1,rfl⟩:=k4;exact⟨E,st2,r2,hval E w'.heap us fl' hρ.symm sh' (c1.aDh hsc)⟩
   |false=>
    rw [hsc] at hs';simp only at hs';subst hs';refine⟨rfl,by rw [<- hρ]; exact hp2,?_⟩;unfold vH vG;rw [hrun];refine Calls.mono hrun' fun e w' ⟨u,he,hb,ro',k1,k2,k3,k4⟩=> ⟨u,he,?_⟩;have hkeep:Keeps E1 w.heap { E1 with ro:=ro' } w'.heap:=⟨rfl,fun _ h=>h,fun _ _=>rfl,fun _ _=>rfl,k1,fun b hbr=>hb.block b (r1.Cc b hbr)⟩
    have st2:Stp E1 h1 w { E1 with ro:=ro' } h1 w':=
     ⟨rfl,fun _ h=>h,fun _ _=>rfl,fun _ _=>rfl,k1,fun b hbr=>(k2 b hbr).imp id .inr,aIV _,.inr rfl,fun _ h=> .inl h,hb.os,hb.tape,hb.output,hb.size,fun b hbl _=>hb.block b hbl,fun id o h _=> ⟨id,o,h,rfl⟩⟩
    have r2:bJ { E1 with ro:=ro' } h1 w':=by
     refine⟨r1.fresh,r1.res,fun id o h=>?_,r1.inj,k3,Glob.keep r1.glob k1 hkeep.NI⟩;obtain⟨g1,g2,g3⟩:=r1.live id o h;refine⟨g1,g2.keep hkeep g1 (hb.block _ (jS r1 h)),fun hr=>?_⟩;rcases k2 _ hr with hr|hr
     ·exact g3 hr
     ·have hlt:(E1.θ id).1<w.heap.size:=jS r1 h;have hge:w.heap.size<=(E1.θ id).1:=hr;omega
    obtain⟨us,fl',sh',c1,rfl⟩:=k4;exact⟨{ E1 with ro:=ro' },s1.trans st2,r2,hval { E1 with ro:=ro' } w'.heap us fl' rfl sh' c1⟩
  ·simp [T.leaf] at q3
end
structure rU where
 w0:World
 ro:Nat->Prop
 m:Nat
 θ:Nat->Nat×Nat
 κ:Nat->Nat
def rU.fp (B:rU) (b:Nat):Prop:= ∃i,i<B.m/\(B.θ i).1=b
structure Bel (B:rU) (w:World):Prop where
 os:w.os=B.w0.os
 tape:w.tape=B.w0.tape
 output:w.output=B.w0.output
 size:B.w0.heap.size<=w.heap.size
 blk: ∀k,k<B.w0.heap.size->¬B.fp k->w.heap[k]?=B.w0.heap[k]?
structure rQ (B:rU) (E:En) (s:St) (a:Act) (w:World):Prop where
 fit:II E s a w
 ro: ∀b,B.ro b->E.ro b
 JV: ∀b,E.ro b->B.ro b\/B.w0.heap.size<=b\/B.fp b
 bel:Bel B w
 own: ∀id o,s.h.get id=some o->B.w0.heap.size<=(E.θ id).1\/B.fp (E.θ id).1
 inx: ∀i,i<B.m->E.dm i/\E.θ i=B.θ i/\E.κ i=B.κ i
section
variable {P:Program} {B:rU}
theorem rQ.step [Glob] {E E':En} {s s':St} {a a':Act} {w w':World} (t:rQ B E s a w) (st:Stp E s.h w E' s'.h w') (f':Fit E' s' a' w'):rQ B E' s' a' w':=by
 have hown: ∀id o,s'.h.get id=some o->B.w0.heap.size<=(E'.θ id).1\/B.fp (E'.θ id).1:=by
  intro id o ho;rcases aJb (E'.θ id).1 w.heap.size with h|h
  ·obtain⟨EF,o0,h0,he⟩:=st.own id o ho h;rw [<- he];exact t.own EF o0 h0
  ·exact .inl (aJr t.bel.size h)
 refine⟨f'.x,fun b hb=>st.ro b (t.ro b hb),fun b hb=>?_,⟨st.os.trans t.bel.os,st.tape.trans t.bel.tape,st.output.trans t.bel.output,aJr t.bel.size st.size,fun k hk hn=>?_⟩,hown,fun i hi=>?_⟩
 ·rcases st.JV b hb with h|⟨id,o,h1,h2⟩|h
  ·exact t.JV b h
  ·rw [<- h2]; exact .inr (t.own id o h1)
  ·exact .inr (.inl (aJr t.bel.size h))
 ·rw [<- t.bel.blk k hk hn];refine st.keep k (aJP hk t.bel.size) fun id o ho he=>?_;rcases t.own id o ho with h|h
  ·omega
  ·rw [he] at h; exact hn h
 ·obtain⟨h1,h2,h3⟩:=t.inx i hi;exact⟨st.dm i h1,by rw [st.θ i h1]; exact h2,by rw [st.κ i h1]; exact h3⟩
theorem rQ.then [Glob] {E:En} {s s':St} {a a':Act} {w w':World} (t:rQ B E s a w) (h:Then E s a w s' a' w'): ∃E',rQ B E' s' a' w'/\E'.ρ=E.ρ/\Glob.ok E'.ρ E'.ro w'.heap:=by obtain⟨_,_,E',st,f'⟩:=h;exact⟨E',t.step st f',st.ρ,f'.rel.glob⟩
theorem rQ.pc {E:En} {s:St} {a:Act} {w:World} {pc:List (SB×Bool)} (t:rQ B E s a w) (hp:bM E.ρ pc):rQ B E { s with pc:=pc } a w:=
 ⟨⟨t.fit.fresh,t.fit.res,t.fit.live,t.fit.inj,t.fit.Cc,t.fit.sr,hp⟩,t.ro,t.JV,t.bel,t.own,t.inx⟩
theorem OC {r:Ren}: ∀{m:Nat},OD m r=true->∀i,i<m->i<r.bl.length/\r.id i=i/\r.BG i=0
 |0,_,i,hi=>by omega
 |n+1,h,i,hi=>by
  simp only [OD,aIU] at h;obtain⟨⟨h1,h2⟩,h3⟩:=h;by_cases he:i=n
  ·subst he;split at h1
   ·rename_i j hj;have h1:=aIW h1;subst h1;refine⟨?_,?_,aIW h2⟩
    ·rw [dD] at hj;exact (aJf.1 hj).1
    ·unfold Ren.id; rw [hj]
   ·simp at h1
  ·exact OC h3 i (by omega)
theorem rQ.fits [Glob] {E:En} {c:CS} {s:St} {r:Ren} {a:Act} {w:World} (t:rQ B E s a w) (hg:Glob.ok E.ρ E.ro w.heap) (h:c.fits prv s r=true) (hid:OD B.m r=true):r.ns.length<=900/\rQ B (E.ren r) c.st a w:=by
 obtain⟨hl,f,ho⟩:=Hy aaI (t.fit.fit hg) h;refine⟨hl,f.x,t.ro,t.JV,t.bel,fun id o hid=>?_,fun i hi=>?_⟩
 ·obtain⟨o',h'⟩:=ho id o hid;exact t.own _ _ h'
 ·obtain⟨q1,q2,q3⟩:=OC hid i hi;obtain⟨h1,h2,h3⟩:=t.inx i hi;refine⟨⟨q1,by rw [q2]; exact h1⟩,?_,?_⟩
  ·show ((E.θ (r.id i)).1,(E.θ (r.id i)).2+r.BG i)=_;rw [q2,q3,aJj];exact h2
  ·show E.κ (r.id i)-r.BG i=_;rw [q2,q3,aJQ];exact h3
theorem rQ.low {K:Nat} {E:En} {c:CS} {a:Act} {w:World} {ρ':Nat->Int} (hc:Di K c=true) (hρ: ∀i,i<K->ρ' i=E.ρ i) (t:rQ B E c.st a w):rQ B { E with ρ:=ρ' } c.st a w:=
 ⟨t.fit.low hc hρ,t.ro,t.JV,t.bel,t.own,t.inx⟩
def rU.out (B:rU) (ys:List Int) (ro:Nat->Prop):En:={ ρ:=low ys,θ:=B.θ,κ:=B.κ,dm:=fun i=>i<B.m,ro:=ro }
def QE (B:rU) (pW:List RK) (eG:List dW) (ko:Nat) (ys:List Int) (e:Ending) (w':World):Prop:=
 ∃u,e= .returned u/\Bel B w'/\∃ro':Nat->Prop,(∀b,B.ro b->ro' b)/\(∀b,ro' b->B.ro b\/B.w0.heap.size<=b)/\(∀b,ro' b->b<w'.heap.size)/\(∀i,i<B.m->¬ro' (B.θ i).1)/\
  (∀i o,eG[i]?=some o->OR (B.out ys ro') w'.heap i o)/\aBa pW (ys.drop ko) ro' w'.heap u
def aiU (us:List Value):Value:=if h:us.toArray.size=1 then us.toArray[0] else .tuple us.toArray
def QR (B:rU) (wW:List CS) (ys:List Int) (e:Ending) (w':World):Prop:=
 ∃(us:List Value) (i:Nat) (c:CS) (E':En),e= .returned (aiU us)/\Bel B w'/\wW[i]?=some c/\ys[0]?=some (i:Int)/\ys.length=c.k+1/\(∀a x,ys[a+1]?=some x->E'.ρ a=x)/\us.length=c.slots.length/\
  II E' c.st { tmps:=us.toArray,defers:=[] } w'/\(∀b,B.ro b->E'.ro b)/\(∀b,E'.ro b->B.ro b\/B.w0.heap.size<=b)/\(∀i,i<B.m->i<c.objs.length/\E'.dm i/\E'.θ i=B.θ i/\E'.κ i=B.κ i)/\(∀id o,c.st.h.get id=some o->B.m<=id->B.w0.heap.size<=(E'.θ id).1)
def QX (B:rU) (pW:List RK) (eG:List dW) (ko:Nat) (wW:List CS) (ys:List Int):Ending->World->Prop:=match wW with
 |[]=>QE B pW eG ko ys
 |c::l=>QR B (c::l) ys
structure acW [Glob] (P:Program) (g:JF) (chk:Nat->List Oper->Bool):Prop where
 tt:eX P g.tt
 call:kQ P g.call
 draw:Dx P chk g.draw
theorem zD {chk:Nat->List Oper->Bool} {N:Nat} {body:Code} (h:nN chk N body=true): ∀(p:List Nat) {c:Code} {fr:List FrE},vI body p=some (c,fr)->nN chk N c=true
 |[],c,fr,hl=>by simp only [vI,aIS,aIT] at hl;rw [<- hl.1]; exact h
 |d::p,c,fr,hl=>by
  simp only [vI] at hl;split at hl
  ·rename_i a b fr' hp;have:=zD h p hp;simp only [nN,aIU] at this;split at hl
   ·simp only [aIS,aIT] at hl; rw [<- hl.1]; exact this.1
   ·simp only [aIS,aIT] at hl; rw [<- hl.1]; exact this.2
  ·rename_i id b fr' hp;have:=zD h p hp;simp only [nN] at this;simp only [aIS,aIT] at hl; rw [<- hl.1]; exact this
  ·rename_i v a b fr' hp;have:=zD h p hp;simp only [nN,aIU] at this;split at hl
   ·simp only [aIS,aIT] at hl; rw [<- hl.1]; exact this.1
   ·simp only [aIS,aIT] at hl; rw [<- hl.1]; exact this.2
  ·rename_i b fr' hp;have:=zD h p hp;simp only [nN] at this;simp only [aIS,aIT] at hl; rw [<- hl.1]; exact this
  ·rename_i b fr' hp;have:=zD h p hp;simp only [nN] at this;simp only [aIS,aIT] at hl; rw [<- hl.1]; exact this
  ·simp at hl
theorem DX {body:Code}: ∀(p:List Nat) {c:Code} {fr:List FrE},vI body p=some (c,fr)->QH body fr
 |[],c,fr,h=>by simp only [vI,aIS,aIT] at h;rw [<- h.2]; trivial
 |d::p,c,fr,h=>by
  have h0:=h;simp only [vI] at h;split at h
  ·rename_i a b fr' hp;have ih:=DX p hp;split at h
   ·simp only [aIS,aIT] at h;obtain⟨rfl,rfl⟩:=h;refine⟨?_,ih⟩;simp only [vI,hp]
   ·simp only [aIS,aIT] at h;rw [<- h.2]; exact ih
  ·rename_i id b fr' hp;have ih:=DX p hp;simp only [aIS,aIT] at h;rw [<- h.2]; exact ih
  ·rename_i v a b fr' hp;have ih:=DX p hp;split at h
   ·simp only [aIS,aIT] at h; rw [<- h.2]; exact ih
   ·simp only [aIS,aIT] at h; rw [<- h.2]; exact ih
  ·rename_i b fr' hp;have ih:=DX p hp;simp only [aIS,aIT] at h;rw [<- h.2];exact⟨hp,ih⟩
  ·rename_i b fr' hp;have ih:=DX p hp;simp only [aIS,aIT] at h;rw [<- h.2]; exact ih
  ·simp at h
def Ze (F:uU) (ρ:Nat->Int) (ys:List Int):Lf->Prop
 | .out es=>es.map (SE.den ρ)=ys
 | .jump j es=>F j (es.map (SE.den ρ))=some ys
def awO [Glob] (P:Program) (body:Code) (N:Nat) (B:rU) (Q:Exit->Act->World->Prop) (F:uU) (ys:List Int) (tabs:Ld):Prop:=
 ∀p l,tabs p=some l->∃b fr,vI body p=some (.loop b,fr)/\∀j c,(j,c)∈l->∀E a w,rQ B E c.st a w->Glob.ok E.ρ E.ro w.heap->(∃xs:List Int,(∀i x,xs[i]?=some x->E.ρ i=x)/\xs.length=c.k/\c.k<=900/\F j xs=some ys)->N<=a.tmps.size->a.defers= []->QF P b (KE P Q fr) a w
theorem sS (g:Tr SE): ∀(n i:Nat),(FM g n i).length=n
 |0,_=>rfl
 |n+1,i=>by simp only [FM];split<;>simp [sS g n (i+1)]
theorem Az (m:Nat) (c:CS) (s:St):(c.mJ m s).ns.length=c.k:=by unfold CS.mJ;split;exact sS _ _ _
theorem Hw: ∀(n i:Nat) (ns:List SE),(J9 n i ns).length=ns.length
 |0,_,_=>rfl
 |_+1,_,[]=>rfl
 |n+1,i,_::ns=>by simp only [J9,aI5,Hw n (i+1) ns]
theorem CX (kR:Nat) (r:Ren):(xY kR r).ns.length=r.ns.length:=by
 unfold xY;split
 ·rfl
 ·exact Hw _ _ _
theorem UO {α:Type} {k:St->T α} {E:En} {a:Act} {w:World} {x:α}: ∀{ts:List (Nat×Nat)} {s:St},(Zy k ts s).leaf E.ρ=some x->rQ B E s a w->∃s',rQ B E s' a w/\(k s').leaf E.ρ=some x
 |[],s,h,t=> ⟨s,t,h⟩
 |(i,g)::ts,s,h,t=>by
  simp only [Zy] at h;split at h
  ·obtain⟨pc',hp',h1⟩:=dB t.fit.pc h;exact UO h1 (t.pc hp')
  ·exact UO h t
theorem DZ [Glob] {kR:Nat} {F:uU} {ys:List Int} {body:Code} {N:Nat} {Q:Exit->Act->World->Prop} {tabs:Ld} (hj:awO P body N B Q F ys tabs) {p:List Nat} {l0:List (Nat×CS)} (hp:tabs p=some l0) {b:Code} {fr:List FrE} (hl:vI body p=some (.loop b,fr)) :
 ∀{l:List (Nat×CS)} {s:St} {lf:Lf} {E:En} {a:Act} {w:World},(∀x∈l,x∈l0)->(xW B.m kR s l).leaf E.ρ=some lf->Ze F E.ρ ys lf->rQ B E s a w->Glob.ok E.ρ E.ro w.heap->N<=a.tmps.size->a.defers= []->QF P b (KE P Q fr) a w
 |[],s,lf,E,a,w,_,h,_,_,_,_,_=>by simp [xW,T.leaf] at h
 |(j,c)::l,s,lf,E,a,w,hsub,h,hlf,t,hg,hN,hd=>by
  simp only [xW] at h;split at h
  ·exact DZ hj hp hl (fun x hx=>hsub x (by simp [hx])) h hlf t hg hN hd
  ·split at h
   ·rename_i hf;have:=aG h;subst this;simp only [aIU] at hf;obtain⟨hle,t'⟩:=t.fits hg hf.1 hf.2;obtain⟨b',fr',hl',hh⟩:=hj p l0 hp;rw [hl] at hl';simp only [aIS,aIT,Code.loop.injEq] at hl';obtain⟨rfl,rfl⟩:=hl';have hgl:(xY kR (c.mJ B.m s)).ns.length=c.k:=by rw [CX,Az]
    refine hh j c (hsub _ (by simp)) (E.ren (xY kR (c.mJ B.m s))) a w t' (Glob.ren hg fun i hi=>Ren.qB hle hi) ⟨(xY kR (c.mJ B.m s)).ns.map (SE.den E.ρ),fun i x hi=>?_,by simp [hgl],by rw [<- hgl]; exact hle,hlf⟩ hN hd;rw [aJi,aJe] at hi;obtain⟨e,he,rfl⟩:=hi;show (xY kR (c.mJ B.m s)).env E.ρ i=_;unfold Ren.env;rw [dD,he]
   ·exact DZ hj hp hl (fun x hx=>hsub x (by simp [hx])) h hlf t hg hN hd
theorem Ep {α:Type} {k:St->T α} {E:En} {a:Act} {w:World} {x:α}: ∀{ts:List Nat} {s:St},(Dn k ts s).leaf E.ρ=some x->rQ B E s a w->∃s',rQ B E s' a w/\(k s').leaf E.ρ=some x
 |[],s,h,t=> ⟨s,t,h⟩
 |i::ts,s,h,t=>by
  simp only [Dn] at h;split at h
  ·rename_i c hc;obtain⟨pc',hp',h1⟩:=dB t.fit.pc h;refine Ep h1 ⟨⟨t.fit.fresh,t.fit.res,t.fit.live,t.fit.inj,t.fit.Cc,fun j v hj=>?_,hp'⟩,t.ro,t.JV,t.bel,t.own,t.inx⟩;simp only at hj;rw [Tr.get_put] at hj;split at hj
   ·rename_i he;subst he;simp only [aIS] at hj;subst hj;obtain⟨u,h2,h3⟩:=t.fit.sr _ _ hc;refine⟨u,h2,?_⟩;simp only [VR] at h3 ⊢;rw [h3];rfl
   ·exact t.fit.sr j v hj
  ·exact Ep h t
theorem ajF (g:JF) (h:Hp):(jQ g h).ns.length=g.ko/\(jQ g h).bl=List.range g.eG.length/\(jQ g h).sh= []:=by unfold jQ;split;exact⟨sS _ _ _,rfl,rfl⟩
def rM (K:Nat):List dW->Bool
 |[]=>true
 |o::l=>GX K o&&rM K l
theorem Ad {K:Nat}: ∀{l:List dW},rM K l=true->∀{i:Nat} {o:dW},l[i]?=some o->GX K o=true
 |[],_,_,_,h=>by simp at h
 |o0::l,hs,i,o,h=>by
  simp only [rM,aIU] at hs
  cases i with
  |zero=>simp at h; rw [<- h]; exact hs.1
  |succ i=>exact Ad hs.2 (by simpa using h)
theorem L9 {n m kR:Nat} {s:St} {ρ:Nat->Int} {lf:Lf}: ∀{l:List CS} {k:Nat},(YF n m kR s l k).leaf ρ=some lf->∃i c,l[i-k]?=some c/\(c.fits prv s (xY kR (c.mJ m s))=true/\OD m (xY kR (c.mJ m s))=true)/\n=c.slots.length/\lf= .out (.lit (i:Int)::(xY kR (c.mJ m s)).ns)/\k<=i
 |[],k,h=>by simp [YF,T.leaf] at h
 |c::l,k,h=>by
  simp only [YF] at h;split at h
  ·obtain⟨i,c',q1,q2,q3,q4,q5⟩:=L9 h;refine⟨i,c',?_,q2,q3,q4,by omega⟩;rw [show i-k=(i-(k+1))+1 by omega,aIX];exact q1
  ·rename_i hq;simp only [aIU] at hq;split at h
   ·rename_i hf;have:=aG h;simp only [aIU] at hf;exact⟨k,c,by simp,hf,aIW hq.2,this.symm,aIV _⟩
   ·obtain⟨i,c',q1,q2,q3,q4,q5⟩:=L9 h;refine⟨i,c',?_,q2,q3,q4,by omega⟩;rw [show i-k=(i-(k+1))+1 by omega,aIX];exact q1
theorem WX {E E':En} {h h':Array Obj} (kp:Keeps E h E' h'): ∀{xs:List AV} {us:List Value} {i:Nat} {x:AV},bQ E h xs us->xs[i]?=some x->∃u,VR E h x u/\∀x',VR E' h' x' u->bQ E' h' (xs.set i x') us
 |[],us,i,x,_,hx=>by simp at hx
 |y::ys,us,0,x,hv,hx=>by rw [bG] at hv;obtain⟨u,vs,rfl,a,b⟩:=hv;simp only [aI0,aIS] at hx;subst hx;refine⟨u,a,fun x' hx'=>?_⟩;rw [aKM,bG];exact⟨u,vs,rfl,hx',bQ.keep kp _ _ b⟩
 |y::ys,us,i+1,x,hv,hx=>by rw [bG] at hv;obtain⟨u,vs,rfl,a,b⟩:=hv;rw [aIX] at hx;obtain⟨u',h1,h2⟩:=WX kp b hx;refine⟨u',h1,fun x' hx'=>?_⟩;rw [aKN,bG];exact⟨u,vs,rfl,VR.keep kp _ _ a,h2 x' hx'⟩
theorem agK [Glob] {α:Type} {ρ:Nat->Int} {w:World} {us:List Value} {k:List AV->St->T α} {x:α}: ∀{fz:List (Nat×Nat×Nat)} {vs:List AV} {s:St} {E:En},E.ρ=ρ->bJ E s.h w->bM ρ s.pc->bQ E w.heap vs us->(abG fz vs s k).leaf ρ=some x->
 ∃vs' h' pc' E',bM ρ pc'/\Zi E w s.h E' h'/\bQ E' w.heap vs' us/\(k vs' { s with h:=h',pc:=pc' }).leaf ρ=some x
 |[],vs,s,E,hρ,r,hp,hv,h=> ⟨vs,s.h,s.pc,E,hp,Zi.refl r,hv,h⟩
 |(i,f,t)::l,vs,s,E,hρ,r,hp,hv,h=>by
  simp only [abG] at h;split at h
  ·rename_i xs hi;split at h
   ·rename_i y hy;rw [dD] at hi hy;obtain⟨y',h1,pc1,E1,hp1,f1,q1,g1⟩:=agJ hρ r hp h;have kp:=f1.dY.keeps r;obtain⟨u,a,b⟩:=WX kp hv hi;simp only [VR] at a;obtain⟨ws,rfl,a⟩:=a;obtain⟨u2,a2,b2⟩:=WX kp a hy;split at g1
    ·rename_i e he;have hc:=qV (q1 _ a2) he
     have hv1:bQ E1 w.heap (vs.set i (.agg (xs.set f (.dat e t)))) us:=by refine b _ ?_;simp only [VR];exact⟨ws,rfl,b2 _ (by simp only [VR]; exact hc)⟩
     obtain⟨vs2,h2,pc2,E2,hp2,f2,q2,g2⟩:=agK (s:={ s with h:=h1,pc:=pc1 }) (f1.ρ.trans hρ) f1.rel hp1 hv1 g1;exact⟨vs2,h2,pc2,E2,hp2,f1.trans f2,q2,g2⟩
    ·simp [T.leaf] at g1
   ·simp [T.leaf] at h
  ·simp [T.leaf] at h
theorem aAD [Glob] {g:JF} {chk:Nat->List Oper->Bool} (hg:acW P g chk) {fn:Func} (hres:g.res=fn.results.toList) (hm:g.eG.length=B.m) (hlo:rM g.ko g.eG=true) (hko:g.ko<=900) {e:Ex} {s:St} {lf:Lf} {E:En} {a:Act} {w:World} {F:uU} {ys:List Int} (h:(arX g e s).leaf E.ρ=some lf) (hlf:Ze F E.ρ ys lf)
 (t:rQ B E s a w) (hgl:Glob.ok E.ρ E.ro w.heap) (hd:a.defers= []):bodyPost P fn (QX B g.pW g.eG g.ko g.wW ys) (Fg e) a w:=by
 have fit:=t.fit.fit hgl
 have key: ∀{x:T Lf},x=(match oP g.tt s g.res with
  |none=>T.fail
  |some vs=>match g.wW with
   |[]=>match cellsOf g.pW vs with
    |none=> .fail
    |some cells=>Ht cells s fun cells s=>match Jf (jQ g s.h) g.eG.length s.h g.eG 0 with
     |true=>outs (vF g.pW) cells s fun es _=> .ret (.out ((jQ g s.h).ns++es))
     |false=> .fail
   |c::l=>abG g.fz vs s fun vs s=>YF vs.length g.eG.length g.kR ⟨bI vs 0 .nil,s.h,s.pc⟩ (c::l) 0)->x.leaf E.ρ=some lf->∃v,(results fn a.tmps).run P w= .ok v w/\QX B g.pW g.eG g.ko g.wW ys (.returned v) w:=by
  intro x hx hl;subst hx;split at hl
  ·simp [T.leaf] at hl
  ·rename_i vs hr;rw [hres] at hr;obtain⟨us,g1,g2⟩:=AP hg.tt fit hr
   have hrun:(results fn a.tmps).run P w= .ok (aiU us) w:=by
    have hm:(fn.results.mapM (Ce a)).run P w= .ok us.toArray w:=by rw [aLy];rw [map_eq_pure_bind];simp only [Sem.run_bind,g1];rfl
    have hr2:results fn a.tmps=(do let vs <- fn.results.mapM (Ce a); pure (if h:vs.size=1 then vs[0] else .tuple vs)):=rfl;rw [hr2];simp only [Sem.run_bind,hm];rfl
   split at hl
   ·rename_i KU;split at hl
    ·simp [T.leaf] at hl
    ·rename_i cells hc;rw [KU];show ∃v,_/\QE B g.pW g.eG g.ko ys (.returned v) w;obtain⟨fl,sh,hv2⟩:=sW g2 hc;obtain⟨cells',h1,pcF,E1,hpF,f,hfr,hl⟩:=zB rfl fit.rel fit.pc hl;have hv3:=hfr _ hv2;have s1:=f.dY;have r1:=f.rel;split at hl
     ·rename_i hob;have hρ:=f.ρ;rw [<- hρ] at hl hlf hpF;obtain⟨es,pc1,hp1,q1,q2⟩:=LD (s:={ s with h:=h1,pc:=pcF }) hpF hv3 hl;have:=aG q2;subst this;simp only [Ze] at hlf;obtain⟨n1,n2,n3⟩:=ajF g h1
      have hdrop:ys.drop g.ko=es.map (SE.den E1.ρ):=by rw [<- hlf,aKb,List.drop_append_of_le_length (by simp [n1])];rw [aJJ (by simp [n1]),aI1]
      have aIa: ∀i,i<g.ko->low ys i=(jQ g h1).env E1.ρ i:=by
       intro i hi;have hlt:i<(jQ g h1).ns.length:=by omega
       unfold low Ren.env;rw [dD,aI6 hlt,<- hlf,aKd,aKb,aLe (by simpa using hlt),aJi,aI6 hlt];rfl
      have azO: ∀i,i<B.m->E1.dm i/\E1.θ i=B.θ i/\E1.κ i=B.κ i:=by intro i hi;obtain⟨h1,h2,h3⟩:=t.inx i hi;exact⟨s1.dm i h1,by rw [s1.θ i h1]; exact h2,by rw [s1.κ i h1]; exact h3⟩
      have azP: ∀i,i<g.eG.length->(jQ g h1).id i=i:=by intro i hi;unfold Ren.id;rw [n2,dD,aKc hi]
      have Yf: ∀i,(jQ g h1).BG i=0:=by intro i;unfold Ren.BG;rw [n3];rfl
      have hlive: ∀i,i<B.m->¬E1.ro (B.θ i).1:=by
       intro i hi;have hlt:i<g.eG.length:=by omega
       obtain⟨o',q3,_,_⟩:=mG hob (aI6 hlt);rw [aI2,azP i hlt] at q3;have:=(r1.live i o' q3).2.2;rw [(azO i hi).2.1] at this;exact this
      refine⟨aiU us,hrun,_,rfl,t.bel,E1.ro,fun b hb=>s1.ro b (t.ro b hb),fun b hb=>?_,r1.Cc,hlive,fun i o hi=>?_,us,fl,sh,by rw [hdrop]; exact q1,rfl⟩
      ·have key:B.ro b\/B.w0.heap.size<=b\/B.fp b:=by
        rcases s1.JV b hb with h|⟨id,o,h1,h2⟩|h
        ·exact t.JV b h
        ·rw [<- h2]; exact .inr (t.own id o h1)
        ·exact .inr (.inl (aJr t.bel.size h))
       rcases key with h|h|⟨i,hi,he⟩
       ·exact .inl h
       ·exact .inr h
       ·exact absurd hb (by rw [<- he]; exact hlive i hi)
      ·have hil:=(aJf.1 hi).1;obtain⟨o',q3,q4,q5⟩:=mG hob hi;rw [aI2] at q3 q5;have ho:=(r1.live _ o' q3).2.1;have ho2:=OR.ren (E:=E1) (r:=jQ g h1) (by omega) (id:=i) (by rw [n2,aLn]; exact q4) q5 ho
       have kp:Keeps (E1.ren (jQ g h1)) w.heap { ρ:=(jQ g h1).env E1.ρ,θ:=B.θ,κ:=B.κ,dm:=fun i=>i<B.m,ro:=E1.ro } w.heap:=by
        have hd: ∀id,(E1.ren (jQ g h1)).dm id->id<g.eG.length:=by intro id hh;have:=hh.1;rw [n2,aLn] at this;exact this
        refine⟨rfl,fun id hh=>by have:=hd id hh; show id<B.m; omega,fun id hh=>?_,fun id hh=>?_,fun _ h=>h,fun _ _=>rfl⟩
        ·have:=hd id hh;show B.θ id=((E1.θ ((jQ g h1).id id)).1,(E1.θ ((jQ g h1).id id)).2+(jQ g h1).BG id);rw [azP id this,Yf,aJj,(azO id (by omega)).2.1]
        ·have:=hd id hh;show B.κ id=E1.κ ((jQ g h1).id id)-(jQ g h1).BG id;rw [azP id this,Yf,aJQ,(azO id (by omega)).2.2]
       have aGm:(E1.ren (jQ g h1)).dm i:=by refine⟨by rw [n2,aLn]; exact hil,?_⟩;rw [azP i hil];exact (azO i (by omega)).1
       have hθi:(E1.ren (jQ g h1)).θ i=B.θ i:=(kp.θ i aGm).symm;have ho3:=OR.keep kp aGm rfl ho2;exact OR.low (K:=g.ko) (E:={ ρ:=(jQ g h1).env E1.ρ,θ:=B.θ,κ:=B.κ,dm:=fun i=>i<B.m,ro:=E1.ro }) (E':=B.out ys E1.ro) aIa rfl rfl rfl rfl (Ad hlo hi) ho3
     ·simp [T.leaf] at hl
   ·rename_i c0 l0 KU
    have hq:QR B (c0::l0) ys (.returned (aiU us)) w:=by
     obtain⟨vs1,h1,pc1,E1,hp1,f1,g2,hl⟩:=agK rfl fit.rel fit.pc g2 hl;have hgl:=f1.rel.glob
     have t0:rQ B E1 ⟨bI vs1 0 .nil,h1,pc1⟩ { tmps:=us.toArray,defers:=[] } w:=by have sr1:=He g2 0;exact t.step (s':=⟨bI vs1 0 .nil,h1,pc1⟩) f1.dY ⟨f1.rel,by simpa using sr1,by rw [f1.ρ]; exact hp1⟩
     rw [<- f1.ρ] at hl hlf;obtain⟨i,c,q1,⟨q2,q2'⟩,q3,q4,_⟩:=L9 hl;rw [hm] at q2 q2' q4;obtain⟨hle,t1⟩:=t0.fits hgl q2 q2';rw [q4] at hlf;simp only [Ze,aJd] at hlf;subst hlf
     have hbl:(xY g.kR (c.mJ B.m ⟨bI vs1 0 .nil,h1,pc1⟩)).bl.length=c.objs.length:=by have:=q2;unfold CS.fits at this;simp only [aIU] at this;exact aIW this.1.1.1.1.2
     have hin: ∀i,i<B.m->i<c.objs.length:=fun i hi=>by rw [<- hbl]; exact (OC q2' i hi).1
     have hlive: ∀i,i<B.m->∃o,c.st.h.get i=some o:=by intro i hi;have hi2:=hin i hi;refine⟨c.objs[i],?_⟩;show (wG c.objs 0 .nil).get i=_;rw [oC,aIR (by omega)];simp
     have hfp: ∀b,B.fp b->¬(E1.ren (xY g.kR (c.mJ B.m ⟨bI vs1 0 .nil,h1,pc1⟩))).ro b:=by rintro b ⟨i,hi,rfl⟩ hb;obtain⟨o,ho⟩:=hlive i hi;have:=(t1.fit.live i o ho).2.2;rw [(t1.inx i hi).2.1] at this;exact this hb
     refine⟨us,i,c,E1.ren (xY g.kR (c.mJ B.m ⟨bI vs1 0 .nil,h1,pc1⟩)),rfl,t.bel,by simpa using q1,by simp [SE.den],by simp [CX,Az],fun a x ha=>?_,by rw [<- q3,g2.length],t1.fit,t1.ro,fun b hb=>?_,fun i hi=> ⟨hin i hi,t1.inx i hi⟩,fun id o ho hid=>?_⟩
     ·simp only [aIX,aJi,aJe] at ha;obtain⟨e,he,rfl⟩:=ha;show (xY g.kR (c.mJ B.m ⟨bI vs1 0 .nil,h1,pc1⟩)).env E1.ρ a=_;unfold Ren.env;rw [dD,he]
     ·rcases t1.JV b hb with h|h|h
      ·exact .inl h
      ·exact .inr h
      ·exact absurd hb (hfp b h)
     ·rcases t1.own id o ho with h|⟨i,hi,he⟩
      ·exact h
      ·obtain⟨o',ho'⟩:=hlive i hi;rw [<- (t1.inx i hi).2.1] at he;have:=t1.fit.inj i id o' o ho' ho he;omega
    exact⟨aiU us,hrun,by rw [KU]; exact hq⟩
 unfold arX at h
 cases e with
 |exit id=>simp [T.leaf] at h
 |normal=>exact⟨hd,key rfl h⟩
 |ret=>exact⟨hd,key rfl h⟩
theorem QT {P:Program} {Q:Exit->Act->World->Prop} {e:Ex} {a:Act} {w:World} (h:Q (Fg e) a w):Exit.noGoto Q (Fg e) a w:=by cases e<;>exact h
theorem VK [Glob] {g:JF} {chk:Nat->List Oper->Bool} (hg:acW P g chk) {body:Code} {N:Nat} (hd:nN chk N body=true) {fn:Func} (hres:g.res=fn.results.toList) (hm:g.eG.length=B.m) (hlo:rM g.ko g.eG=true) (hko:g.ko<=900) {F:uU} {ys:List Int} {tabs:Ld}
 (hj:awO P body N B (bodyPost P fn (QX B g.pW g.eG g.ko g.wW ys)) F ys tabs): ∀n:Nat,
 (∀p c fr s lf E a w,vI body p=some (c,fr)->(EG g tabs n p c fr s).leaf E.ρ=some lf->Ze F E.ρ ys lf->rQ B E s a w->Glob.ok E.ρ E.ro w.heap->N<=a.tmps.size->a.defers= []->c.wp P (KE P (bodyPost P fn (QX B g.pW g.eG g.ko g.wW ys)) fr) a w)/\
 (∀fr e s lf E a w,QH body fr->(AA g tabs n fr e s).leaf E.ρ=some lf->Ze F E.ρ ys lf->rQ B E s a w->Glob.ok E.ρ E.ro w.heap->N<=a.tmps.size->a.defers= []->KE P (bodyPost P fn (QX B g.pW g.eG g.ko g.wW ys)) fr (Fg e) a w)
 |0=> ⟨fun _ _ _ _ _ _ _ _ _ h=>by simp [EG,T.leaf] at h,fun _ _ _ _ _ _ _ _ h=>by simp [AA,T.leaf] at h⟩
 |n+1=>by
  obtain⟨ih1,ih2⟩:=VK hg hd hres hm hlo hko hj n
  have leaf: ∀p c fr s lf E a w,vI body p=some (c,fr)->((g.ev c s).bind fun (e,s')=>AA g tabs n fr e s').leaf E.ρ=some lf->Ze F E.ρ ys lf->rQ B E s a w->Glob.ok E.ρ E.ro w.heap->N<=a.tmps.size->a.defers= []->c.wp P (KE P (bodyPost P fn (QX B g.pW g.eG g.ko g.wW ys)) fr) a w:=by intro p c fr s lf E a w hl h hlf t hgl hN hdf;obtain⟨⟨e,s'⟩,h1,h2⟩:=T.gK h;refine wp_mono (oQ hg.tt hg.call hg.draw c (zD hd p hl) E s s' e a w hN (t.fit.fit hgl) h1) fun x a' w' ⟨hx,ht⟩=>?_;subst hx;obtain⟨E',t',hρ,hg'⟩:=t.then ht;exact ih2 fr e s' lf E' a' w' (DX p hl) (by rw [hρ]; exact h2) (by rw [hρ]; exact hlf) t' hg' (by rw [ht.size]; exact hN) (by rw [ht.defers,hdf])
  constructor
  ·intro p c fr s lf E a w hl h hlf t hgl hN hdf;simp only [EG] at h;split at h
   ·rename_i l hcs;obtain⟨b,fr',hl',_⟩:=hj p l hcs;rw [hl] at hl';simp only [aIS,aIT] at hl';obtain⟨rfl,rfl⟩:=hl';obtain⟨s',t',h'⟩:=Ep h t;exact aaQ (DZ hj hcs hl (fun _ hx=>hx) (by rw [<- hm]; exact h') hlf t' hgl hN hdf)
   ·cases c with
    |seq x y=> simp only at h;refine wp_seq ?_;exact ih1 (0::p) x (.seq (1::p) y::fr) s lf E a w (by simp only [vI,hl]) h hlf t hgl hN hdf
    |block id b=> simp only at h;refine wp_block ?_;exact ih1 (0::p) b (.block id::fr) s lf E a w (by simp only [vI,hl]) h hlf t hgl hN hdf
    |scope b=> simp only at h;refine wp_scope_straight ?_;exact ih1 (0::p) b (.scope::fr) s lf E a w (by simp only [vI,hl]) h hlf t hgl hN hdf
    |cond v x y=>
     simp only at h;split at h
     ·rename_i c hv;obtain⟨pc',hp',h1⟩:=dB t.fit.pc h;have hvr:=jW t.fit.sr hv;simp only [VR] at hvr;refine wp_cond hvr ?_
      cases hcd:c.den E.ρ with
      |true=> rw [hcd] at h1;simp only at h1;exact ih1 (0::p) x fr _ lf E a w (by simp only [vI,hl]) h1 hlf (t.pc hp') hgl hN hdf
      |false=> rw [hcd] at h1;simp only at h1;exact ih1 (1::p) y fr _ lf E a w (by simp only [vI,hl]) h1 hlf (t.pc hp') hgl hN hdf
     ·simp [T.leaf] at h
    |_=>simp only at h; exact leaf p _ fr s lf E a w hl h hlf t hgl hN hdf
  ·intro fr e s lf E a w hf h hlf t hgl hN hdf
   cases fr with
   |nil=> simp only [AA] at h;exact aAD hg hres hm hlo hko h hlf t hgl hdf
   |cons f fr=>
    cases f with
    |seq p c=>
     simp only [AA] at h;obtain⟨hl,hf'⟩:=hf
     cases e with
     |normal=>exact ih1 p c fr s lf E a w hl h hlf t hgl hN hdf
     |exit id=>exact ih2 fr (.exit id) s lf E a w hf' h hlf t hgl hN hdf
     |ret=>exact ih2 fr .ret s lf E a w hf' h hlf t hgl hN hdf
    |block id=>
     simp only [AA] at h;have hf':QH body fr:=hf
     cases e with
     |normal=>exact ih2 fr .normal s lf E a w hf' h hlf t hgl hN hdf
     |ret=>exact ih2 fr .ret s lf E a w hf' h hlf t hgl hN hdf
     |exit j=>
      simp only at h;show (if j=id then _ else _);split at h
      ·rename_i hj';rw [aIR (aIW hj')];exact ih2 fr .normal s lf E a w hf' h hlf t hgl hN hdf
      ·rename_i hj';rw [aIQ (aKr hj')];exact ih2 fr (.exit j) s lf E a w hf' h hlf t hgl hN hdf
    |loop p b=>
     simp only [AA] at h;obtain⟨hl,hf'⟩:=hf
     cases e with
     |normal=>
      simp only at h;split at h
      ·rename_i l hcs;obtain⟨s',t',h'⟩:=Ep h t;exact DZ hj hcs hl (fun _ hx=>hx) (by rw [<- hm]; exact h') hlf t' hgl hN hdf
      ·simp [T.leaf] at h
     |exit id=>exact ih2 fr (.exit id) s lf E a w hf' h hlf t hgl hN hdf
     |ret=>exact ih2 fr .ret s lf E a w hf' h hlf t hgl hN hdf
    |scope=> simp only [AA] at h;exact QT (P:=P) (ih2 fr e s lf E a w hf h hlf t hgl hN hdf)
end
end Go.As
end
section
namespace Go.As
open Go.RowKit
def Ren.ents (r:Ren):List (AV×AV×Nat)->List (AV×AV×Nat)
 |[]=>[]
 |(k,v,n)::l=>(r.av k,r.av v,n)::r.ents l
def Ren.ovs (r:Ren):List (SE×List AV)->List (SE×List AV)
 |[]=>[]
 |(i,cs)::l=>(r.se i,r.La cs)::r.ovs l
def Ren.ob (r:Ren):dW->dW
 | .cells cs e=> .cells (r.La cs) e
 | .map es n=> .map (r.ents es) n
 | .oV s p=> .oV s p
 | .vec e t ty ov=> .vec (r.se e) t ty (r.ovs ov)
 | .jF e t=> .jF (r.se e) t
noncomputable def nY (r:Ren):List dW->Nat->Hp->Hp
 |[],_,h=>h
 |o::os,i,h=>nY r os (i+1) (h.put (r.id i) (r.ob o))
def SV (r:Ren):Bool:=r.sh.all fun i=>Nat.beq i 0
def aeW (r:SE) (n:Nat):List SE:=(List.range n).map (uZ r)
noncomputable def aqR (j:Nat) (c:CS) (pW:List RK) (eG:List dW) (ko:Nat):List AV->St->T (AV×St):=fun args s=>
 match Nat.beq args.length c.slots.length&&c.fits prv ⟨bI args 0 .nil,s.h,s.pc⟩ (c.guess ⟨bI args 0 .nil,s.h,s.pc⟩)&&SV (c.guess ⟨bI args 0 .nil,s.h,s.pc⟩) with
 |true=>qX s (.eq (.ap (2*j) (iU (c.guess ⟨bI args 0 .nil,s.h,s.pc⟩).ns)) (.lit 1)) fun s' b=>match b with
  |true=> .ret (match wH pW (uZ (.ap (2*j+1) (iU (c.guess ⟨bI args 0 .nil,s.h,s.pc⟩).ns))) ko with |[v]=>v|vs=> .tuple vs,
   { s' with h:=nY ⟨aeW (.ap (2*j+1) (iU (c.guess ⟨bI args 0 .nil,s.h,s.pc⟩).ns)) ko,(c.guess ⟨bI args 0 .nil,s.h,s.pc⟩).bl,[]⟩ eG 0 s'.h })
  |false=> .fail
 |false=> .fail
noncomputable def aGy (s:St) (t c:Nat):SE:=match s.slots.get t with
 |some v=>match v with
  | .int _ e=>e
  | .agg cs=>match iD cs c with
    |some v=>match v with
     | .int _ e=>e
     |_=> .lit 0
    |none=> .lit 0
  |_=> .lit 0
 |none=> .lit 0
noncomputable def arE (s:St):List (Nat×Nat)->List SE->List SE
 |[],ns=>ns
 |_::_,[]=>[]
 |(t,c)::l,_::ns=>aGy s t c::arE s l ns
noncomputable def ghR (s:St) (gh:List (Nat×Nat)) (r:Ren):Ren:={ r with ns:=arE s gh r.ns }
noncomputable def aGx (s:St) (gh:List (Nat×Nat)):Option SE:=match gh with
 |(t,c)::_=>some (aGy s t c)
 |[]=>none
noncomputable def yB (q:SE) (kR:Nat) (ns:List SE) (c:CS) (bl:List Nat) (s:St):Ren:=⟨(List.range c.k).map fun a=>match Nat.blt a kR with |true=>(match iD ns a with |some e=>e|none=> .lit 0)|false=>uZ q (a+1),(List.range c.objs.length).map fun i=>match iD bl i with |some j=>j|none=>s.h.next+(i-bl.length),[]⟩
noncomputable def arD (g n:SE) (s:St) (k:St->T (AV×St)):T (AV×St):=qX s (lK g (.lit 0)) fun s b=>match b with
 |true=>k s
 |false=>qX s (lK g n) fun s b=>match b with
  |true=> .fail
  |false=>k s
noncomputable def ghT (q:SE) (kR:Nat) (ns:List SE) (g:Option SE) (c:CS) (bl:List Nat) (s:St) (k:St->T (AV×St)):T (AV×St):=match g with
 |none=>k s
 |some g=>match c.m with
  | .aO _=>k s
  |_=>match c.slots with
   |[]=>k s
   |(_,v)::_=>match v with
    | .vY _ n _=>arD g ((yB q kR ns c bl s).se n) s k
    |_=>k s
noncomputable def awD (q:SE) (kR:Nat) (ns:List SE) (g:Option SE) (bl:List Nat):List CS->Nat->St->T (AV×St)
 |[],_,_=> .fail
 |c::l,i,s=>qX s (Ey (uZ q 0) (.lit (Int.ofNat i))) fun s b=>match b with
  |true=>ghT q kR ns g c bl s fun s=> .ret (resV ((yB q kR ns c bl s).La (c.slots.map fun p=>p.2)),
   { s with h:=⟨(nY (yB q kR ns c bl s) c.objs 0 s.h).m,s.h.next+(c.objs.length-bl.length),s.h.res⟩ })
  |false=>awD q kR ns g bl l (i+1) s
noncomputable def aqP (j kR:Nat) (c:CS) (gh:List (Nat×Nat)) (wW:List CS):List AV->St->T (AV×St):=fun args s=>
 match Nat.beq args.length c.slots.length&&c.fits prv ⟨bI args 0 .nil,s.h,s.pc⟩ (ghR s gh (c.guess ⟨bI args 0 .nil,s.h,s.pc⟩))&&SV (ghR s gh (c.guess ⟨bI args 0 .nil,s.h,s.pc⟩)) with
 |true=>qX s (.eq (.ap (2*j) (iU (ghR s gh (c.guess ⟨bI args 0 .nil,s.h,s.pc⟩)).ns)) (.lit 1)) fun s' b=>match b with
  |true=>awD (.ap (2*j+1) (iU (ghR s gh (c.guess ⟨bI args 0 .nil,s.h,s.pc⟩)).ns)) kR (ghR s gh (c.guess ⟨bI args 0 .nil,s.h,s.pc⟩)).ns (aGx s gh) (ghR s gh (c.guess ⟨bI args 0 .nil,s.h,s.pc⟩)).bl wW 0 s'
  |false=> .fail
 |false=> .fail
section
variable {Eo E2:En} {r:Ren} {h:Array Obj} (hl:r.ns.length<=900) (hsh:r.sh= []) (hρ:Eo.ρ=r.env E2.ρ) (hid: ∀i,Eo.dm i->E2.dm (r.id i)/\E2.θ (r.id i)=Eo.θ i/\E2.κ (r.id i)=Eo.κ i) (hro:Eo.ro=E2.ro)
include hl hsh hρ hid hro
theorem aoI (i:Nat):r.BG i=0:=by unfold Ren.BG; rw [hsh]; rfl
theorem gG.back {id off len:Nat} {a:Addr} {cap:Nat} {c:Zk} (hd:Eo.dm id) (hc:gG Eo id off len a cap c):gG E2 (r.id id) off len a cap c:=by
 obtain⟨_,h2,h3⟩:=hid id hd;cases c<;>simp only [gG] at*<;>rw [h2]
 ·exact hc
 ·rw [h3]; exact hc
mutual
theorem VR.back: ∀(x:AV) (u:Value),VR Eo h x u->VR E2 h (r.av x) u
 | .bool b,u,hv=>by simp only [VR,Ren.av] at *; rw [Ren.I7 hl,<- hρ]; exact hv
 | .int _ e,u,hv=>by simp only [VR,Ren.av] at *; rw [Ren.eU hl,<- hρ]; exact hv
 | .str s,u,hv=>by simp only [VR,Ren.av] at *; exact hv
 | .ptr id off,u,hv=>by simp only [VR,Ren.av,aoI hl hsh hρ hid hro,aI2] at *;obtain⟨h1,h2,_⟩:=hid id hv.2;rw [h2]; exact⟨hv.1,h1⟩
 | .kX,u,hv=>by simp only [VR,Ren.av] at *; exact hv
 | .sD cs,u,hv=>by simp only [VR,Ren.av] at *;obtain⟨b,o,us,h1,h2,h3,h4,h5⟩:=hv;exact⟨b,o,us,h1,by rw [<- hro]; exact h2,bQ.back cs us h3,h4,h5⟩
 | .slice id off len c,u,hv=>by simp only [VR,Ren.av,aoI hl hsh hρ hid hro,aI2] at *;obtain⟨h1,a,cap,h2,h3,h4⟩:=hv;exact⟨(hid id h1).1,a,cap,h2,h3,gG.back hl hsh hρ hid hro h1 h4⟩
 | .aA,u,hv=>by simp only [VR,Ren.av] at *; exact hv
 | .ro cs n full,u,hv=>by simp only [VR,Ren.av] at *;obtain⟨b,o,cap,us,h1,h2,h3,h4,h5,h6,h7⟩:=hv;exact⟨b,o,cap,us,h1,h2,h3,by rw [<- hro]; exact h4,bQ.back cs us h5,h6,h7⟩
 | .map id,u,hv=>by simp only [VR,Ren.av] at *;obtain⟨h1,h2,_⟩:=hid id hv.2;rw [h2]; exact⟨hv.1,h1⟩
 | .qH,u,hv=>by simp only [VR,Ren.av] at *; exact hv
 | .func fn fs cs,u,hv=>by simp only [VR,Ren.av] at *;obtain⟨us,ws,h1,h2,h3⟩:=hv;exact⟨us,ws,h1,bQ.back fs us h2,bQ.back cs ws h3⟩
 | .CJ,u,hv=>by simp only [VR,Ren.av] at *; exact hv
 | .iface t x,u,hv=>by simp only [VR,Ren.av] at *;obtain⟨y,h1,h2⟩:=hv;exact⟨y,h1,VR.back x y h2⟩
 | .FD,u,hv=>by simp only [VR,Ren.av] at *; exact hv
 | .agg cs,u,hv=>by simp only [VR,Ren.av] at *;obtain⟨us,h1,h2⟩:=hv;exact⟨us,h1,bQ.back cs us h2⟩
 | .tuple cs,u,hv=>by simp only [VR,Ren.av] at *;obtain⟨us,h1,h2⟩:=hv;exact⟨us,h1,bQ.back cs us h2⟩
 | .opq _,u,hv=>by simp only [VR] at hv
 | .inp k ks,u,hv=>by
   simp only [VR,Ren.av] at *;rw [hρ,Ren.qB hl (by omega),hro] at hv;rcases hv with hv|⟨b,o,n,cap,h1,h2,h3,h4,h5⟩
   ·exact .inl hv
   ·refine .inr ⟨b,o,n,cap,h1,h2,h3,h4,fun i j kd hi hj=>?_⟩;have:=h5 i j kd hi hj
    first
     |exact this
     |(rw [Ren.qB hl (by omega)] at this; exact this)
     |(rw [hρ,Ren.qB hl (by omega)] at this; exact this)
 | .emp,u,hv=>by simp only [VR,Ren.av] at *; exact hv
 | .dat e t,u,hv=>by simp only [VR,Ren.av] at *; rw [Ren.eU hl,<- hρ,<- hro]; exact hv
 | .nI e,u,hv=>by simp only [VR,Ren.av] at *; rw [Ren.eU hl,<- hρ,<- hro]; exact hv
 | .vY id n t,u,hv=>by simp only [Ren.av,aoI hl hsh hρ hid hro];simp only [VR] at *;obtain⟨h1,k,a,cap,h2,h3,h4,h5⟩:=hv;exact⟨(hid id h1).1,k,a,cap,by rw [Ren.eU hl,<- hρ]; exact h2,h3,h4,gG.back hl hsh hρ hid hro h1 h5⟩
 | .qZ id es i off,u,hv=>by simp only [Ren.av,aoI hl hsh hρ hid hro];simp only [VR] at *;obtain⟨h1,k,h2,h3⟩:=hv;obtain⟨g1,g2,_⟩:=hid id h1;exact⟨g1,k,by rw [Ren.eU hl,<- hρ]; exact h2,by rw [g2]; exact h3⟩
 | .any,u,_=>by simp only [VR,Ren.av]
 | .IQ z t,u,hv=>by simp only [VR,Ren.av] at *; rw [Ren.eU hl,<- hρ,<- hro]; exact hv
 | .BD id lo n t,u,hv=>by simp only [Ren.av,aoI hl hsh hρ hid hro];simp only [VR] at *;obtain⟨h1,l,k,a,cap,h2,h3,h4,h5,h6⟩:=hv;exact⟨(hid id h1).1,l,k,a,cap,by rw [Ren.eU hl,<- hρ]; exact h2,by rw [Ren.eU hl,<- hρ]; exact h3,h4,h5,gG.back hl hsh hρ hid hro h1 h6⟩
theorem bQ.back: ∀(xs:List AV) (us:List Value),bQ Eo h xs us->bQ E2 h (r.La xs) us
 |[],us,hv=>by simp only [bQ,Ren.La] at *; exact hv
 |x::xs,us,hv=>by simp only [bQ,Ren.La] at *;obtain⟨u,vs,h1,h2,h3⟩:=hv;exact⟨u,vs,h1,VR.back x u h2,bQ.back xs vs h3⟩
end
theorem fH.back: ∀{es:List (AV×AV×Nat)} {ents:List MapEntry},fH Eo h es ents->fH E2 h (r.ents es) ents
 |[],_,hv=>by simp only [fH,Ren.ents] at *; exact hv
 |(k,v,b)::es,ents,hv=>by simp only [fH,Ren.ents] at *;obtain⟨e,rr,h1,h2,h3,h4,h5⟩:=hv;exact⟨e,rr,h1,VR.back hl hsh hρ hid hro k _ h2,VR.back hl hsh hρ hid hro v _ h3,h4,fH.back h5⟩
theorem N9 {i:Nat}: ∀{ov:List (SE×List AV)},dR E2.ρ i (r.ovs ov)=(dR Eo.ρ i ov).map r.La
 |[]=>rfl
 |(j,cs)::l=>by simp only [dR,Ren.ovs];rw [Ren.eU hl,<- hρ,N9];split<;>rfl
theorem EW {row:Row} {ov:List (SE×List AV)}: ∀(ds:List D) (i:Nat) {us:List Value},bQ Eo h (aN Eo.ρ row ov ds i) us->bQ E2 h (aN E2.ρ row (r.ovs ov) ds i) us
 |[],_,us,hv=>by simp only [aN,bQ] at *; exact hv
 |d::ds,i,us,hv=>by
  simp only [aN] at *;obtain⟨a,b,rfl,h1,h2⟩:=hv.split;refine bQ.append ?_ (EW ds (i+1) h2);rw [N9 hl hsh hρ hid hro]
  cases ho:dR Eo.ρ i ov with
  |none=> rw [ho] at h1;simp only [Option.map_none];rw [iJ] at h1 ⊢;rw [<- hro];exact h1
  |some cs=> rw [ho] at h1;exact bQ.back hl hsh hρ hid hro cs a h1
theorem SL {row:Row}: ∀{ov:List (SE×List AV)},GL row ov->GL row (r.ovs ov)
 |[],h=>h
 |(i,cs)::l,h=>by
  intro p hp;simp only [Ren.ovs] at hp;rcases aI3.1 hp with rfl|hp
  ·simp only [wQ]; exact h (i,cs) (by simp)
  ·exact SL (fun q hq=>h q (by simp [hq])) p hp
theorem OR.back {id:Nat} {o:dW} (hd:Eo.dm id) (ho:OR Eo h id o):OR E2 h (r.id id) (r.ob o):=by
 obtain⟨_,h2,h3⟩:=hid id hd
 cases o with
 |cells cs e=> simp only [OR,Ren.ob] at *;obtain⟨arr,lo,hi,us,q1,q2,q3,q4,q5,q6,q7⟩:=ho;rw [h2,h3];exact⟨arr,lo,hi,us,q1,bQ.back hl hsh hρ hid hro cs us q2,q3,by rw [wQ]; exact q4,q5,q6,q7⟩
 |map es c=> simp only [OR,Ren.ob] at *;obtain⟨ents,c',q1,q2⟩:=ho;rw [h2];exact⟨ents,c',q1,fH.back hl hsh hρ hid hro q2⟩
 |oV s p=>simp only [OR,Ren.ob] at *; rw [h2]; exact ho
 |jF e t=>
  simp only [OR,Ren.ob] at *;obtain⟨ents,c',q1,q2⟩:=ho;have he:(r.se e).den E2.ρ=e.den Eo.ρ:=by rw [Ren.eU hl,<- hρ]
  rw [h2,he,<- hro];exact⟨ents,c',q1,q2⟩
 |vec e t ty ov=>
  simp only [OR,Ren.ob] at *;obtain⟨⟨q0,qw⟩,arr,lo,hi,us,q1,q2,q3,q4,q5,q6,q7⟩:=ho;have he:(r.se e).den E2.ρ=e.den Eo.ρ:=by rw [Ren.eU hl,<- hρ]
  have q0':=SL hl hsh hρ hid hro q0;rw [h2,h3,he];refine⟨⟨q0',qw⟩,arr,lo,hi,us,q1,EW hl hsh hρ hid hro _ _ q2,q3,?_,q5,q6,q7⟩;rw [bY q0'];rw [bY q0] at q4;exact q4
end
theorem Fz {r:Ren}: ∀{os:List dW} {i:Nat} {h:Hp},(∀a b,i<=a->a<i+os.length->i<=b->b<i+os.length->r.id a=r.id b->a=b)->
 (∀k o,os[k]?=some o->(nY r os i h).get (r.id (i+k))=some (r.ob o))/\(∀id,(∀k,k<os.length->r.id (i+k)≠id)->(nY r os i h).get id=h.get id)/\(nY r os i h).next=h.next/\(nY r os i h).res=h.res
 |[],i,h,_=> ⟨fun k o hk=>by simp at hk,fun _ _=>rfl,rfl,rfl⟩
 |o::os,i,h,hinj=>by
  obtain⟨h1,h2,h3,h4⟩:=Fz (r:=r) (os:=os) (i:=i+1) (h:=h.put (r.id i) (r.ob o)) fun a b h1 h2 h3 h4=>hinj a b (by omega) (by simp only [aI5]; omega) (by omega) (by simp only [aI5]; omega);refine⟨fun k x hk=>?_,fun id hn=>?_,h3,h4⟩
  ·cases k with
   |zero=> simp at hk;subst hk;simp only [nY];show (nY r os (i+1) (h.put (r.id i) (r.ob o))).get (r.id i)=some (r.ob o);rw [h2 (r.id i) fun k hk he=>?_,Hp.get_put,aIR rfl];have:=hinj (i+1+k) i (by omega) (by simp only [aI5]; omega) (by omega) (by simp) he;omega
   |succ k=> simp only [nY];have:=h1 k x (by simpa using hk);rw [show i+(k+1)=i+1+k by omega];exact this
  ·simp only [nY];rw [h2 id fun k hk=>?_,Hp.get_put,aIQ ?_]
   ·have:=hn 0 (by simp);rw [aJj] at this;exact fun q=>this q.symm
   ·have:=hn (k+1) (by simp only [aI5]; omega);rw [show i+(k+1)=i+1+k by omega] at this;exact this
theorem ES (c:CS) (s:St):(c.guess s).ns.length=c.k:=by unfold CS.guess;split;exact sS _ _ _
section
variable {P:Program}
def aCQ (P:Program) (GB:(Nat->Prop)->Array Obj->Prop) (g:FuncId) (c:CS) (pW:List RK) (eG:List dW) (ko:Nat) (f:List Int->Option (List Int)):Prop:=
 ∀xs ys,f xs=some ys->∀(E:En) (w:World) (vals:List Value),(∀i x,xs[i]?=some x->E.ρ i=x)->xs.length=c.k->II E c.st { tmps:=vals.toArray,defers:=[] } w->GB E.ro w.heap->
  Calls P g vals.toArray w (QE ⟨w,E.ro,c.objs.length,E.θ,E.κ⟩ pW eG ko ys)
theorem aqQ [Glob] {GB:(Nat->Prop)->Array Obj->Prop} (hgb: ∀ρ ro h,Glob.ok ρ ro h->GB ro h) {F:uU} (hgood: ∀ρ ro h,Glob.ok ρ ro h->Good F ρ) {g:FuncId} {j:Nat} {c:CS} {pW:List RK} {eG:List dW} {ko:Nat} (hlo:rM ko eG=true) (hko:ko<=900) (hom:eG.length=c.objs.length)
 (hs:aCQ P GB g c pW eG ko (F j)) (hrun: ∀(args:Array Value) (w:World),(callFunc g args).run P w= .ok (.enter g args) w):nT P g (aqR j c pW eG ko):=by
 intro aIP s E w vals v s' r hv hp hl;unfold aqR at hl;split at hl
 ·rename_i hcond;simp only [aIU] at hcond;obtain⟨⟨_,hfit⟩,hns⟩:=hcond;have hlen:=ES c ⟨bI aIP 0 .nil,s.h,s.pc⟩;generalize hr:c.guess ⟨bI aIP 0 .nil,s.h,s.pc⟩ = rn at hl hfit hns hlen
  have f0:Fit E ⟨bI aIP 0 .nil,s.h,s.pc⟩ { tmps:=vals.toArray,defers:=[] } w:=by refine⟨r,?_,hp⟩;have:=He hv 0;simpa using this
  obtain⟨hle,f1,ho⟩:=Hy aaI f0 hfit;obtain⟨pc1,hp1,q1⟩:=dB hp hl;split at q1
  ·rename_i ht;have hg:=hgood _ _ _ r.glob;have hg1:=(hg j (rn.ns.map (SE.den E.ρ))).1;have hg2:=(hg j (rn.ns.map (SE.den E.ρ))).2;simp only [SB.den,SE.den,lX,hg1,beq_iff_eq] at ht
   have hsome:(F j (rn.ns.map (SE.den E.ρ))).isSome=true:=by
    cases hh:(F j (rn.ns.map (SE.den E.ρ))).isSome with
    |true=>rfl
    |false=>rw [hh] at ht; simp at ht
   obtain⟨ys,hys⟩:=aJ3.1 hsome
   have hrd:(SE.ap (2*j+1) (iU rn.ns)).den E.ρ=qY ys:=by show E.ρ _=_;rw [lX,hg2,hys];rfl
   have:=aG q1;simp only [aIT] at this;obtain⟨rfl,rfl⟩:=this;refine⟨rfl,hp1,?_⟩;unfold vH vG;rw [hrun]
   have hxs: ∀i x,(rn.ns.map (SE.den E.ρ))[i]?=some x->(E.ren rn).ρ i=x:=by intro i x hi;rw [aJi,aJe] at hi;obtain⟨e,he,rfl⟩:=hi;show rn.env E.ρ i=_;unfold Ren.env;rw [dD,he]
   refine Calls.mono (hs _ ys hys (E.ren rn) w vals hxs (by simpa using hlen) f1.x (hgb _ _ _ f1.rel.glob)) fun e w' ⟨u,he,hb,ro',k1,k2,k3,k4,k5,k6⟩=> ⟨u,he,?_⟩;have Am:=hfit;unfold CS.fits at Am;simp only [aIU] at Am;obtain⟨⟨⟨⟨⟨_,hbl⟩,hdis⟩,_⟩,aDR⟩,_⟩:=Am;have hbl:=aIW hbl
   have Yf: ∀i,rn.BG i=0:=by
    intro i;unfold Ren.BG;split
    ·rename_i x hx;rw [dD] at hx;unfold SV at hns;rw [aJg] at hns;exact aIW (hns x (aJo hx))
    ·rfl
   have KW: ∀i,i<c.objs.length->∃o,s.h.get (rn.id i)=some o:=by intro i hi;obtain⟨o',g1,_⟩:=mG aDR (aI6 hi);rw [aI2] at g1;exact⟨o',g1⟩
   have hinj: ∀a b,a<c.objs.length->b<c.objs.length->rn.id a=rn.id b->a=b:=by
    intro a b ha hb he;have hla:a<rn.bl.length:=by omega
    have hlb:b<rn.bl.length:=by omega
    unfold Ren.id at he;rw [dD,dD,aI6 hla,aI6 hlb] at he;simp only at he;exact vM hdis (i:=a) (j:=b) (x:=rn.bl[a]) (by rw [dD,aI6 hla]) (by rw [dD,aI6 hlb,he])
   generalize hR:(⟨aeW (.ap (2*j+1) (iU rn.ns)) ko,rn.bl,[]⟩ : Ren)=R;have VI: ∀i,R.id i=rn.id i:=by intro i; rw [<- hR]; rfl
   have hRl:R.ns.length=ko:=by rw [<- hR]; simp [aeW]
   obtain⟨p1,p2,p3,p4⟩:=Fz (r:=R) (os:=eG) (i:=0) (h:=s.h) fun a b _ h2 _ h4 he=>by rw [VI,VI] at he;exact hinj a b (by omega) (by omega) he
   have hfp: ∀b,(rU.mk w (E.ren rn).ro c.objs.length (E.ren rn).θ (E.ren rn).κ).fp b->∃id o,s.h.get id=some o/\(E.θ id).1=b:=by rintro b ⟨i,hi,he⟩;obtain⟨o,h1⟩:=KW i hi;exact⟨_,o,h1,he⟩
   have azM: ∀b,E.ro b->w'.heap[b]?=w.heap[b]?:=by intro b hbr;refine hb.blk b (r.Cc b hbr) fun hf=>?_;obtain⟨id,o,h1,h2⟩:=hfp b hf;exact (r.live id o h1).2.2 (by rw [h2]; exact hbr)
   have hkeep:Keeps E w.heap { E with ro:=ro' } w'.heap:=⟨rfl,fun _ h=>h,fun _ _=>rfl,fun _ _=>rfl,k1,azM⟩
   have aaZ: ∀id o,(nY R eG 0 s.h).get id=some o->∃o',s.h.get id=some o':=by
    intro id o hg;by_cases hex: ∃k,k<eG.length/\R.id (0+k)=id
    ·obtain⟨k,hk,rfl⟩:=hex;rw [aI2,VI];exact KW k (by omega)
    ·rw [p2 id fun k hk he=>hex ⟨k,hk,he⟩] at hg;exact⟨o,hg⟩
   have st2:Stp E s.h w { E with ro:=ro' } (nY R eG 0 s.h) w':=by
    refine⟨rfl,fun _ h=>h,fun _ _=>rfl,fun _ _=>rfl,k1,fun b hbr=>(k2 b hbr).imp id .inr,by rw [p3]; exact aIV _,by rw [p4]; exact .inr rfl,fun _ h=> .inl h,hb.os,hb.tape,hb.output,hb.size,fun b hbl hn=>hb.blk b hbl fun hf=>?_,fun id o hg _=>?_⟩
    ·obtain⟨id,o,h1,h2⟩:=hfp b hf;exact hn id o h1 h2
    ·obtain⟨o',h1⟩:=aaZ id o hg;exact⟨id,o',h1,rfl⟩
   have agF: ∀i,i<ko->R.env E.ρ i=low ys i:=by
    intro i hi;unfold Ren.env low
    have hn:iD R.ns i=some (uZ (.ap (2*j+1) (iU rn.ns)) i):=by rw [<- hR,dD];simp [aeW,hi]
    rw [hn];simp only;rw [aKd];simp only [uZ,SE.den,iZ.den,aF];have aGj:(SE.ap (2*j+1) (iU rn.ns)).den E.ρ=qY ys:=hrd;simp only [SE.den] at aGj;rw [aGj];simp only [qY,aF,D.hd,aW,aJi];cases ys[i]?<;>rfl
   have r2:bJ { E with ro:=ro' } (nY R eG 0 s.h) w':=by
    refine⟨fun id hid=>r.fresh id (by rw [<- p3]; exact hid),fun q hq=>by rw [p3]; exact r.res q (by rw [<- p4]; exact hq),fun id o hg=>?_,fun i1 i2 o1 o2 h1 h2 he=>?_,k3,Glob.keep r.glob k1 azM⟩
    ·by_cases hex: ∃k,k<eG.length/\R.id (0+k)=id
     ·obtain⟨k,hk,rfl⟩:=hex;rw [aI2];have hx:=aI6 hk;have:=p1 k _ hx;rw [hg] at this;simp only [aIS] at this;subst this;obtain⟨o',h1⟩:=KW k (by omega);obtain⟨d1,d2,d3⟩:=r.live _ _ h1;refine⟨by rw [VI]; exact d1,?_,?_⟩
      ·have ho2:=k5 k _ hx
       have ho3:=OR.low (K:=ko) (E:=(rU.mk w (E.ren rn).ro c.objs.length (E.ren rn).θ (E.ren rn).κ).out ys ro') (E':={ ρ:=R.env E.ρ,θ:=(E.ren rn).θ,κ:=(E.ren rn).κ,dm:=fun i=>i<c.objs.length,ro:=ro' })
        (fun i hi=>agF i hi) rfl rfl rfl rfl (Ad hlo hx) ho2
       refine OR.back (Eo:={ ρ:=R.env E.ρ,θ:=(E.ren rn).θ,κ:=(E.ren rn).κ,dm:=fun i=>i<c.objs.length,ro:=ro' }) (E2:={ E with ro:=ro' }) (r:=R) (by rw [hRl]; exact hko) (by rw [<- hR]) rfl (fun i hi=>?_) rfl (show k<c.objs.length by omega) ho3;obtain⟨o2,h2⟩:=KW i hi;refine⟨by rw [VI]; exact (r.live _ _ h2).1,?_,?_⟩
       ·show E.θ (R.id i)=((E.θ (rn.id i)).1,(E.θ (rn.id i)).2+rn.BG i);rw [VI,Yf,aJj]
       ·show E.κ (R.id i)=E.κ (rn.id i)-rn.BG i;rw [VI,Yf,aJQ]
      ·rw [VI];exact k4 k (by show k<c.objs.length; omega)
     ·rw [p2 id fun k hk he=>hex ⟨k,hk,he⟩] at hg;obtain⟨d1,d2,d3⟩:=r.live id o hg
      have hblk:w'.heap[(E.θ id).1]?=w.heap[(E.θ id).1]?:=by refine hb.blk _ (jS r hg) ?_;rintro⟨i,hi,he⟩;obtain⟨o',h1⟩:=KW i hi;have:=r.inj _ id o' o h1 hg he;exact hex ⟨i,by show i<eG.length; rw [hom]; exact hi,by rw [aI2,VI]; exact this⟩
      refine⟨d1,d2.keep hkeep d1 hblk,fun hr=>?_⟩;rcases k2 _ hr with hr|hr
      ·exact d3 hr
      ·have hlt:(E.θ id).1<w.heap.size:=jS r hg;have hge:w.heap.size<=(E.θ id).1:=hr;omega
    ·obtain⟨a1,b1⟩:=aaZ _ _ h1;obtain⟨a2,b2⟩:=aaZ _ _ h2;exact r.inj _ _ _ _ b1 b2 he
   refine⟨{ E with ro:=ro' },st2,r2,?_⟩;obtain⟨us,fl',sh',c1,rfl⟩:=k6
   have hvr:bQ { E with ro:=ro' } w'.heap (wH pW (uZ (.ap (2*j+1) (iU rn.ns))) ko) us:=by refine yT sh' c1 fun k n hk=>?_;rw [aJ7] at hk;exact DK (ys:=ys) hrd hk
   have:=Lr hvr;unfold resV at this;exact this
  ·simp [T.leaf] at q1
 ·simp [T.leaf] at hl
theorem J8 (s:St): ∀(gh:List (Nat×Nat)) (ns:List SE),(arE s gh ns).length=ns.length
 |[],_=>rfl
 |_::_,[]=>rfl
 |(t,c)::l,_::ns=>by simp only [arE,aI5,J8 s l ns]
theorem arC {g n:SE} {ρ:Nat->Int} {s:St} {k:St->T (AV×St)} {r:AV×St} (hp:bM ρ s.pc) (h:(arD g n s k).leaf ρ=some r): ∃pc,bM ρ pc/\(k { s with pc:=pc }).leaf ρ=some r:=by
 unfold arD at h;obtain⟨pc1,hp1,h1⟩:=dB hp h;split at h1
 ·exact⟨pc1,hp1,h1⟩
 ·obtain⟨pc2,hp2,h2⟩:=dB (s:={ s with pc:=pc1 }) hp1 h1;split at h2
  ·simp [T.leaf] at h2
  ·exact⟨pc2,hp2,h2⟩
theorem aDY {q:SE} {kR:Nat} {ns:List SE} {g:Option SE} {c:CS} {bl:List Nat} {ρ:Nat->Int} {s:St} {k:St->T (AV×St)} {r:AV×St} (hp:bM ρ s.pc) (h:(ghT q kR ns g c bl s k).leaf ρ=some r): ∃pc,bM ρ pc/\(k { s with pc:=pc }).leaf ρ=some r:=by
 unfold ghT at h;split at h
 ·exact⟨s.pc,hp,h⟩
 ·split at h
  ·exact⟨s.pc,hp,h⟩
  ·split at h
   ·exact⟨s.pc,hp,h⟩
   ·split at h
    ·exact arC hp h
    ·exact⟨s.pc,hp,h⟩
theorem ahX {q:SE} {kR:Nat} {ns:List SE} {g:Option SE} {bl:List Nat} {ρ:Nat->Int} {v:AV} {s':St}: ∀{l:List CS} {k:Nat} {s:St},bM ρ s.pc->(awD q kR ns g bl l k s).leaf ρ=some (v,s')->
 ∃i c pc',l[i-k]?=some c/\k<=i/\(uZ q 0).den ρ=(i:Int)/\bM ρ pc'/\v=resV ((yB q kR ns c bl s).La (c.slots.map fun p=>p.2))/\s'= { s with h:=⟨(nY (yB q kR ns c bl s) c.objs 0 s.h).m,s.h.next+(c.objs.length-bl.length),s.h.res⟩,pc:=pc' }
 |[],k,s,_,h=>by simp [awD,T.leaf] at h
 |c::l,k,s,hp,h=>by
  simp only [awD] at h;obtain⟨pc',hp',h1⟩:=dB hp h;split at h1
  ·rename_i hb;rw [mX,beq_iff_eq] at hb;obtain⟨pc2,hp2,h2⟩:=aDY (s:={ s with pc:=pc' }) hp' h1;have:=aG h2;simp only [aIT] at this;exact⟨k,c,pc2,by simp,aIV _,hb,hp2,this.1.symm,this.2.symm⟩
  ·obtain⟨i,c',pc2,q1,q2,q3,q4,q5,q6⟩:=ahX (s:={ s with pc:=pc' }) hp' h1;refine⟨i,c',pc2,?_,by omega,q3,q4,q5,q6⟩;rw [show i-k=(i-(k+1))+1 by omega,aIX];exact q1
def FN:List (Nat×AV)->Nat->Bool
 |[],_=>true
 |(t,_)::l,i=>Nat.beq t i&&FN l (i+1)
theorem JO: ∀{l:List (Nat×AV)} {i t:Nat} {tr:Tr AV},FN l i=true->t<i->(sN l tr).get t=tr.get t
 |[],_,_,_,_,_=>rfl
 |(j,v)::l,i,t,tr,h,ht=>by simp only [FN,aIU] at h;have hj:=aIW h.1;simp only [sN];rw [JO h.2 (by omega),Tr.get_put,aIQ (by omega)]
theorem Gt: ∀{l:List (Nat×AV)} {i:Nat} {tr:Tr AV},FN l i=true->∀k v,(l.map fun p=>p.2)[k]?=some v->(sN l tr).get (i+k)=some v
 |[],_,_,_,k,v,hk=>by simp at hk
 |(j,x)::l,i,tr,h,k,v,hk=>by
  simp only [FN,aIU] at h;have hj:=aIW h.1;subst hj;simp only [sN]
  cases k with
  |zero=> simp only [aJd,aI0,aIS] at hk;subst hk;rw [aJj,JO h.2 (by omega),Tr.get_put,aIR rfl]
  |succ k=> have:=Gt (tr:=tr.put j (some x)) h.2 k v (by simpa using hk);rw [show j+(k+1)=j+1+k by omega];exact this
theorem bQ.of {E:En} {h:Array Obj}: ∀{vs:List AV} {us:List Value},us.length=vs.length->(∀(k:Nat) (v:AV),vs[k]?=some v->∃u,us[k]?=some u/\VR E h v u)->bQ E h vs us
 |[],us,hl,_=>by rw [lF]; exact aJx hl
 |v::vs,[],hl,_=>by simp at hl
 |v::vs,u::us,hl,hh=>by
  rw [bG];refine⟨u,us,rfl,?_,bQ.of (by simpa using hl) fun k x hk=>?_⟩
  ·obtain⟨y,h1,h2⟩:=hh 0 v rfl;simp at h1;subst h1;exact h2
  ·exact hh (k+1) x (by simpa using hk)
def aCP (P:Program) (GB:(Nat->Prop)->Array Obj->Prop) (g:FuncId) (c:CS) (wW:List CS) (f:List Int->Option (List Int)):Prop:=
 ∀xs ys,f xs=some ys->∀(E:En) (w:World) (vals:List Value),(∀i x,xs[i]?=some x->E.ρ i=x)->xs.length=c.k->II E c.st { tmps:=vals.toArray,defers:=[] } w->GB E.ro w.heap->
  Calls P g vals.toArray w (QR ⟨w,E.ro,c.objs.length,E.θ,E.κ⟩ wW ys)
def RZ:List CS->Bool
 |[]=>true
 |c::l=>Di c.k c&&FN c.slots 0&&Nat.ble c.k 900&&RZ l
theorem RY: ∀{l:List CS},RZ l=true->∀{i:Nat} {c:CS},l[i]?=some c->Di c.k c=true/\FN c.slots 0=true/\c.k<=900
 |[],_,i,c,h=>by simp at h
 |c0::l,hs,i,c,h=>by
  simp only [RZ,aIU] at hs
  cases i with
  |zero=>simp at h; subst h; exact⟨hs.1.1.1,hs.1.1.2,aJM hs.1.2⟩
  |succ i=>exact RY hs.2 (by simpa using h)
theorem aqO [Glob] {GB:(Nat->Prop)->Array Obj->Prop} (hgb: ∀ρ ro h,Glob.ok ρ ro h->GB ro h) {F:uU} (hgood: ∀ρ ro h,Glob.ok ρ ro h->Good F ρ) {g:FuncId} {j:Nat} {c:CS} {gh:List (Nat×Nat)} {kR:Nat} {wW:List CS} (hrp:RZ wW=true) (hgat: ∀xs ys,F j xs=some ys->∀a y,a<kR->ys[a+1]?=some y->y=low xs a)
 (hs:aCP P GB g c wW (F j)) (hrun: ∀(args:Array Value) (w:World),(callFunc g args).run P w= .ok (.enter g args) w):nT P g (aqP j kR c gh wW):=by
 intro aIP s E w vals v s' r hv hp hl;unfold aqP at hl;split at hl
 ·rename_i hcond;simp only [aIU] at hcond;obtain⟨⟨_,hfit⟩,hns⟩:=hcond;have hlen:=ES c ⟨bI aIP 0 .nil,s.h,s.pc⟩
  have hlen2:(ghR s gh (c.guess ⟨bI aIP 0 .nil,s.h,s.pc⟩)).ns.length=c.k:=by show (arE s gh _).length=c.k;rw [J8,hlen]
  generalize hr:ghR s gh (c.guess ⟨bI aIP 0 .nil,s.h,s.pc⟩)=rn at hl hfit hlen2 hns
  have f0:Fit E ⟨bI aIP 0 .nil,s.h,s.pc⟩ { tmps:=vals.toArray,defers:=[] } w:=by refine⟨r,?_,hp⟩;have:=He hv 0;simpa using this
  obtain⟨hle,f1,ho⟩:=Hy aaI f0 hfit;obtain⟨pc1,hp1,q1⟩:=dB hp hl;split at q1
  ·rename_i ht;have hg:=hgood _ _ _ r.glob;have hg1:=(hg j (rn.ns.map (SE.den E.ρ))).1;have hg2:=(hg j (rn.ns.map (SE.den E.ρ))).2;simp only [SB.den,SE.den,lX,hg1,beq_iff_eq] at ht
   have hsome:(F j (rn.ns.map (SE.den E.ρ))).isSome=true:=by
    cases hh:(F j (rn.ns.map (SE.den E.ρ))).isSome with
    |true=>rfl
    |false=>rw [hh] at ht; simp at ht
   obtain⟨ys,hys⟩:=aJ3.1 hsome
   have hrd:(SE.ap (2*j+1) (iU rn.ns)).den E.ρ=qY ys:=by show E.ρ _=_;rw [lX,hg2,hys];rfl
   obtain⟨i,c',pc2,a1,_,a3,a4,rfl,rfl⟩:=ahX (s:={ s with pc:=pc1 }) hp1 q1;rw [aJQ] at a1;refine⟨rfl,a4,?_⟩;unfold vH vG;rw [hrun]
   have hxs: ∀i x,(rn.ns.map (SE.den E.ρ))[i]?=some x->(E.ren rn).ρ i=x:=by intro i x hi;rw [aJi,aJe] at hi;obtain⟨e,he,rfl⟩:=hi;show rn.env E.ρ i=_;unfold Ren.env;rw [dD,he]
   refine Calls.mono (hs _ ys hys (E.ren rn) w vals hxs (by simpa using hlen2) f1.x (hgb _ _ _ f1.rel.glob)) fun e w' ⟨us,i2,c2,E',he,hb,b1,b2,b3,b4,b5,b6,b7,b8,aA0,b9⟩=> ⟨aiU us,he,?_⟩
   have hi:i2=i:=by have:=DK hrd b2;rw [a3] at this;omega
   subst hi;rw [b1] at a1;simp only [aIS] at a1;subst a1;obtain⟨k1,k2,k3⟩:=RY hrp b1;have Am:=hfit;unfold CS.fits at Am;simp only [aIU] at Am;obtain⟨⟨⟨⟨⟨_,hbl⟩,hdis⟩,_⟩,aDR⟩,_⟩:=Am;have hbl:=aIW hbl
   have Yf: ∀i,rn.BG i=0:=by
    intro i;unfold Ren.BG;split
    ·rename_i x hx;rw [dD] at hx;unfold SV at hns;rw [aJg] at hns;exact aIW (hns x (aJo hx))
    ·rfl
   have KW: ∀i,i<c.objs.length->∃o,s.h.get (rn.id i)=some o:=by intro i hi;obtain⟨o',g1,_⟩:=mG aDR (aI6 hi);rw [aI2] at g1;exact⟨o',g1⟩
   have hinj: ∀a b,a<c.objs.length->b<c.objs.length->rn.id a=rn.id b->a=b:=by
    intro a b ha hb he;have hla:a<rn.bl.length:=by omega
    have hlb:b<rn.bl.length:=by omega
    unfold Ren.id at he;rw [dD,dD,aI6 hla,aI6 hlb] at he;simp only at he;exact vM hdis (i:=a) (j:=b) (x:=rn.bl[a]) (by rw [dD,aI6 hla]) (by rw [dD,aI6 hlb,he])
   have OI: ∀id,E.dm id->id<s.h.next:=by
    intro id hd;rcases aJb id s.h.next with h|h
    ·exact h
    ·exact absurd hd (r.fresh id h)
   have Yi: ∀i,i<c.objs.length->rn.id i<s.h.next:=by intro i hi;obtain⟨o,h1⟩:=KW i hi;exact OI _ (r.live _ _ h1).1
   have hθr: ∀i,(E.ren rn).θ i=E.θ (rn.id i):=by intro i;show ((E.θ (rn.id i)).1,(E.θ (rn.id i)).2+rn.BG i)=_;rw [Yf,aJj]
   have hκr: ∀i,(E.ren rn).κ i=E.κ (rn.id i):=by intro i;show E.κ (rn.id i)-rn.BG i=_;rw [Yf,aJQ]
   have hm2:c.objs.length<=c2.objs.length:=by
    rcases aKa c.objs.length with h|h
    ·omega
    ·have:=(aA0 (c.objs.length-1) (by show c.objs.length-1<c.objs.length; omega)).1;omega
   have hfp: ∀b,(rU.mk w (E.ren rn).ro c.objs.length (E.ren rn).θ (E.ren rn).κ).fp b->∃id o,s.h.get id=some o/\(E.θ id).1=b:=by rintro b ⟨i,hi,he⟩;obtain⟨o,h1⟩:=KW i hi;refine⟨_,o,h1,?_⟩;have he':((E.ren rn).θ i).1=b:=he;rw [hθr] at he';exact he'
   have azM: ∀b,E.ro b->w'.heap[b]?=w.heap[b]?:=by intro b hbr;refine hb.blk b (r.Cc b hbr) fun hf=>?_;obtain⟨id,o,h1,h2⟩:=hfp b hf;exact (r.live id o h1).2.2 (by rw [h2]; exact hbr)
   generalize hR:yB (.ap (2*j+1) (iU rn.ns)) kR rn.ns c2 rn.bl { s with pc:=pc1 }=R
   have QU: ∀i,i<c.objs.length->R.id i=rn.id i:=by
    intro i hi;have hla:i<rn.bl.length:=by omega
    rw [<- hR];unfold yB Ren.id;simp only [dD,aJi,aKc (show i<c2.objs.length by omega),aJw,aI6 hla]
   have abB: ∀i,i<c2.objs.length->c.objs.length<=i->R.id i=s.h.next+(i-c.objs.length):=by
    intro i hi hge;have hla:rn.bl.length<=i:=by omega
    rw [<- hR];unfold yB Ren.id;simp only [dD,aJi,aKc hi,aJw,aJH hla];rw [hbl]
   have aGs: ∀a b,a<c2.objs.length->b<c2.objs.length->R.id a=R.id b->a=b:=by
    intro a b ha hb he;rcases aJb a c.objs.length with h1|h1<;>rcases aJb b c.objs.length with h2|h2
    ·rw [QU a h1,QU b h2] at he;exact hinj a b h1 h2 he
    ·rw [QU a h1,abB b hb h2] at he;have:=Yi a h1;omega
    ·rw [abB a ha h1,QU b h2] at he;have:=Yi b h2;omega
    ·rw [abB a ha h1,abB b hb h2] at he;omega
   have hRl:R.ns.length=c2.k:=by rw [<- hR]; simp [yB]
   have aGr:R.sh= []:=by rw [<- hR]; rfl
   have agF: ∀a,a<c2.k->R.env E.ρ a=E'.ρ a:=by
    intro a ha;unfold Ren.env
    have hn:iD R.ns a=some (match Nat.blt a kR with |true=>(match iD rn.ns a with |some e=>e|none=> .lit 0)|false=>uZ (.ap (2*j+1) (iU rn.ns)) (a+1)):=by rw [<- hR,dD];simp [yB,ha]
    rw [hn];simp only;have hy:ys[a+1]?=some ys[a+1]:=aI6 (by omega);rw [b4 a _ hy];split
    ·rename_i hb;have hlt:a<kR:=aLo (by simpa [Nat.blt] using hb);rw [hgat _ _ hys a _ hlt hy];unfold low;rw [aKd,aJi,dD];cases rn.ns[a]?<;>rfl
    ·exact DK hrd hy
   have aH9: ∀id o,c2.st.h.get id=some o->id<c2.objs.length/\c2.objs[id]?=some o:=by
    intro id o ho;have:(wG c2.objs 0 .nil).get id=some o:=ho;rw [oC] at this;split at this
    ·exact⟨by omega,this⟩
    ·simp [Tr.get] at this
   have OH: ∀id o,c2.objs[id]?=some o->c2.st.h.get id=some o:=by intro id o ho;show (wG c2.objs 0 .nil).get id=_;have hlt:=(aJf.1 ho).1;rw [oC,aIR (by omega)];exact ho
   have aGl: ∀i,E'.dm i->i<c2.objs.length:=by
    intro i hd;rcases aJb i c2.objs.length with h|h
    ·exact h
    ·exact absurd hd (b6.fresh i h)
   obtain⟨p1,p2,p3,p4⟩:=Fz (r:=R) (os:=c2.objs) (i:=0) (h:=s.h) fun a b _ h2 _ h4 he=>aGs a b (by omega) (by omega) he;generalize hH2:(⟨(nY R c2.objs 0 s.h).m,s.h.next+(c2.objs.length-rn.bl.length),s.h.res⟩ : Hp)=H2;have aGu: ∀id,H2.get id=(nY R c2.objs 0 s.h).get id:=by intro id; rw [<- hH2]; rfl
   have azR:H2.next=s.h.next+(c2.objs.length-c.objs.length):=by rw [<- hH2,hbl]
   have aGt:H2.res=s.h.res:=by rw [<- hH2]
   have hnew: ∀k o,c2.objs[k]?=some o->H2.get (R.id k)=some (R.ob o):=by intro k o hk;have:=p1 k o hk;rw [aI2] at this;rw [aGu]; exact this
   have hold: ∀id,(∀k,k<c2.objs.length->R.id k≠id)->H2.get id=s.h.get id:=by intro id hid;rw [aGu];exact p2 id fun k hk he=>by rw [aI2] at he; exact hid k hk he
   have hcase: ∀id o,H2.get id=some o->(∃k o',id=R.id k/\c2.objs[k]?=some o'/\o=R.ob o')\/(s.h.get id=some o/\∀k,k<c2.objs.length->R.id k≠id):=by
    intro id o hg;by_cases hex: ∃k,k<c2.objs.length/\R.id k=id
    ·obtain⟨k,hk,rfl⟩:=hex;have hx:=aI6 hk;have:=hnew k _ hx;rw [hg] at this;simp only [aIS] at this;exact .inl ⟨k,_,rfl,hx,this⟩
    ·have hne: ∀k,k<c2.objs.length->R.id k≠id:=fun k hk he=>hex ⟨k,hk,he⟩;rw [hold id hne] at hg;exact .inr ⟨hg,hne⟩
   let E2:En:={ ρ:=E.ρ,θ:=fun id=>if id<s.h.next then E.θ id else E'.θ (id-s.h.next+c.objs.length),κ:=fun id=>if id<s.h.next then E.κ id else E'.κ (id-s.h.next+c.objs.length),dm:=fun id=>E.dm id\/(s.h.next<=id/\id<s.h.next+(c2.objs.length-c.objs.length)),ro:=E'.ro };have hθo: ∀id,id<s.h.next->E2.θ id=E.θ id:=fun id h=>by show (if id<s.h.next then _ else _)=_; rw [aIR h]
   have hκo: ∀id,id<s.h.next->E2.κ id=E.κ id:=fun id h=>by show (if id<s.h.next then _ else _)=_; rw [aIR h]
   have hθn: ∀k,k<c2.objs.length->E2.θ (R.id k)=E'.θ k:=by
    intro k hk;rcases aJb k c.objs.length with h|h
    ·rw [QU k h,hθo _ (Yi k h),<- hθr,(aA0 k h).2.2.1]
    ·rw [abB k hk h];show (if s.h.next+(k-c.objs.length)<s.h.next then _ else _)=_;rw [aIQ (by omega),aLB,Nat.sub_add_cancel h]
   have hκn: ∀k,k<c2.objs.length->E2.κ (R.id k)=E'.κ k:=by
    intro k hk;rcases aJb k c.objs.length with h|h
    ·rw [QU k h,hκo _ (Yi k h),<- hκr,(aA0 k h).2.2.2]
    ·rw [abB k hk h];show (if s.h.next+(k-c.objs.length)<s.h.next then _ else _)=_;rw [aIQ (by omega),aLB,Nat.sub_add_cancel h]
   have aGn: ∀k,k<c2.objs.length->E2.dm (R.id k):=by
    intro k hk;rcases aJb k c.objs.length with h|h
    ·obtain⟨o,h1⟩:=KW k h;rw [QU k h];exact .inl (r.live _ _ h1).1
    ·rw [abB k hk h];exact .inr ⟨by omega,by omega⟩
   have hkeep:Keeps E w.heap E2 w'.heap:=⟨rfl,fun _ h=> .inl h,fun id h=>hθo id (OI id h),fun id h=>hκo id (OI id h),b7,azM⟩
   have aqX: ∀i,E'.dm i->E2.dm (R.id i)/\E2.θ (R.id i)=E'.θ i/\E2.κ (R.id i)=E'.κ i:=by intro i hd;have hi:=aGl i hd;exact⟨aGn i hi,hθn i hi,hκn i hi⟩
   unfold Di at k1;simp only [aIU] at k1;obtain⟨⟨ks,ko⟩,_⟩:=k1
   have st2:Stp E s.h w E2 H2 w':=by
    refine⟨rfl,fun _ h=> .inl h,fun id h=>hθo id (OI id h),fun id h=>hκo id (OI id h),b7,fun b hbr=>(b8 b hbr).imp id .inr,by rw [azR]; omega,by rw [aGt]; exact .inr rfl,fun id h=>?_,hb.os,hb.tape,hb.output,hb.size,fun b aDU hn=>hb.blk b aDU fun hf=>?_,fun id o hg hlt=>?_⟩
    ·rcases h with h|h
     ·exact .inl h
     ·exact .inr (.inl ⟨h.1,by rw [azR]; exact h.2⟩)
    ·obtain⟨id,o,h1,h2⟩:=hfp b hf;exact hn id o h1 h2
    ·rcases hcase id o hg with ⟨k,o',rfl,hk,_⟩|⟨h1,_⟩
     ·have hkl:=(aJf.1 hk).1;rcases aJb k c.objs.length with h|h
      ·obtain⟨o2,h2⟩:=KW k h;exact⟨_,o2,h2,by rw [QU k h,hθo _ (Yi k h)]⟩
      ·rw [hθn k hkl] at hlt;have hh:w.heap.size<=(E'.θ k).1:=b9 k o' (OH k o' hk) h;omega
     ·exact⟨id,o,h1,(by rw [hθo id (OI id (r.live _ _ h1).1)])⟩
   have r2:bJ E2 H2 w':=by
    refine⟨fun id hid=>?_,fun q hq=>?_,fun id o hg=>?_,fun i1 i2 o1 o2 h1 h2 he=>?_,b6.Cc,Glob.keep r.glob b7 hkeep.NI⟩
    ·rw [azR] at hid;rintro (h|h)
     ·exact r.fresh id (by omega) h
     ·omega
    ·rw [aGt] at hq;obtain⟨g1,g2⟩:=r.res q hq;refine⟨by rw [azR]; omega,?_⟩;rintro (h|h)
     ·exact g2 h
     ·omega
    ·rcases hcase id o hg with ⟨k,o',rfl,hk,rfl⟩|⟨h2,hne⟩
     ·have hkl:=(aJf.1 hk).1;obtain⟨g1,g2,g3⟩:=b6.live k o' (OH k o' hk);refine⟨aGn k hkl,?_,by rw [hθn k hkl]; exact g3⟩;have ho3:=OR.low (K:=c2.k) (E:=E') (E':={ E' with ρ:=R.env E.ρ }) (fun a ha=>agF a ha) rfl rfl rfl rfl (CG ko hk) g2;exact OR.back (Eo:={ E' with ρ:=R.env E.ρ }) (E2:=E2) (r:=R) (by rw [hRl]; exact k3) aGr rfl (fun i hd=>aqX i hd) rfl (id:=k) g1 ho3
     ·obtain⟨g1,g2,g3⟩:=r.live id o h2;have h1:=OI id g1;refine⟨.inl g1,g2.keep hkeep g1 (hb.blk _ (jS r h2) ?_),?_⟩
      ·rintro⟨i,hi,he⟩;obtain⟨o',h3⟩:=KW i hi;have he':((E.ren rn).θ i).1=(E.θ id).1:=he;rw [hθr] at he';have:=r.inj _ id o' o h3 h2 he';have hi':i<c.objs.length:=hi;exact hne i (by omega) (by rw [QU i hi']; exact this)
      ·rw [hθo id h1];intro hr;rcases b8 _ hr with hr|hr
       ·exact g3 hr
       ·have hlt:(E.θ id).1<w.heap.size:=jS r h2;have hge:w.heap.size<=(E.θ id).1:=hr;omega
    ·have mix: ∀(k:Nat) (o':dW) (id:Nat) (o:dW),c2.objs[k]?=some o'->s.h.get id=some o->(∀k,k<c2.objs.length->R.id k≠id)->(E'.θ k).1=(E.θ id).1->False:=by
      intro k o' id o hk h2 hne he;have hkl:=(aJf.1 hk).1;rcases aJb k c.objs.length with h|h
      ·obtain⟨o3,h3⟩:=KW k h;have hb3:E'.θ k=(E.ren rn).θ k:=(aA0 k h).2.2.1;rw [hb3,hθr] at he;have:=r.inj _ id o3 o h3 h2 he;exact hne k hkl (by rw [QU k h]; exact this)
      ·have h3:=jS r h2;have h4:w.heap.size<=(E'.θ k).1:=b9 k o' (OH k o' hk) h;omega
     rcases hcase i1 o1 h1 with ⟨m1,y1,rfl,z1,_⟩|⟨x2,x3⟩
     ·have hm1:=(aJf.1 z1).1;rcases hcase i2 o2 h2 with ⟨m2,y2,rfl,z2,_⟩|⟨x4,x5⟩
      ·have hm2:=(aJf.1 z2).1;rw [hθn m1 hm1,hθn m2 hm2] at he;have:=b6.inj _ _ _ _ (OH m1 y1 z1) (OH m2 y2 z2) he;rw [this]
      ·rw [hθn m1 hm1,hθo _ (OI _ (r.live _ _ x4).1)] at he;exact (mix m1 y1 i2 o2 z1 x4 x5 he).elim
     ·rcases hcase i2 o2 h2 with ⟨m2,y2,rfl,z2,_⟩|⟨x4,x5⟩
      ·have hm2:=(aJf.1 z2).1;rw [hθn m2 hm2,hθo _ (OI _ (r.live _ _ x2).1)] at he;exact (mix m2 y2 i1 o1 z2 x2 x3 he.symm).elim
      ·rw [hθo _ (OI _ (r.live _ _ x2).1),hθo _ (OI _ (r.live _ _ x4).1)] at he;exact r.inj _ _ _ _ x2 x4 he
   refine⟨E2,st2,r2,?_⟩
   have hvs:bQ E' w'.heap (c2.slots.map fun p=>p.2) us:=by refine bQ.of (by rw [b5]; simp) fun k x hk=>?_;have:=Gt (tr:=.nil) k2 k x hk;rw [aI2] at this;obtain⟨u,h1,h2⟩:=b6.sr k x this;exact⟨u,by simpa using h1,h2⟩
   have aGk:qM c2.k (c2.slots.map fun p=>p.2)=true:=by
    have: ∀{l:List (Nat×AV)},yJ c2.k l=true->qM c2.k (l.map fun p=>p.2)=true:=by
     intro l
     induction l with
     |nil=>intro _; rfl
     |cons p l ih=> intro h;simp only [yJ,aIU] at h;simp only [aJd,qM,aIU];exact⟨h.1,ih h.2⟩
    exact this ks
   have aH1:=bQ.low (K:=c2.k) (E:=E') (E':={ E' with ρ:=R.env E.ρ }) (fun a ha=>agF a ha) rfl rfl rfl rfl _ _ aGk hvs;have aH0:=bQ.back (Eo:={ E' with ρ:=R.env E.ρ }) (E2:=E2) (r:=R) (by rw [hRl]; exact k3) aGr rfl (fun i hd=>aqX i hd) rfl _ _ aH1;exact Lr aH0
  ·simp [T.leaf] at q1
 ·simp [T.leaf] at hl
end
end Go.As
end
section
namespace Go.As
open Go.RowKit
structure Zh where
 ok:(Nat->Prop)->Array Obj->Prop
 keep: ∀{ro ro':Nat->Prop} {h h':Array Obj},ok ro h->(∀b,ro b->ro' b)->(∀b,ro b->h'[b]?=h[b]?)->ok ro' h'
@[reducible] def Zh.glob (G:Zh) (F:uU):Glob where
 ok ρ ro h:=G.ok ro h/\Good F ρ
 keep h1 h2 h3:=⟨G.keep h1.1 h2 h3,h1.2⟩
 ren h1 h2:=⟨h1.1,h1.2.ren h2⟩
structure IV where
 g:Nat
 P8:List RK
 pW:List RK
 tabs:Ld
 pos:Option (List Nat×CS)
 pat:Option (CS×List dW×Nat):=none
 wW:List CS:=[]
 gh:List (Nat×Nat):=[]
 wh:List Nat:=[]
 kR:Nat:=0
 tst:List (Nat×Nat):=[]
 fz:List (Nat×Nat×Nat):=[]
def IV.eG (e:IV):List dW:=match e.pat with
 |none=>[]
 |some (_,o,_)=>o
def IV.ko (e:IV):Nat:=match e.pat with
 |none=>0
 |some (_,_,k)=>k
structure Sys where
 P:Program
 G:Zh
 tt:TT
 ft:Nat->Option Func
 chk:Nat->Nat->List Oper->Bool
 draw:dS->Nat->Nat->List Oper->St->T St
 ER:Nat->Option (List AV->St->T (AV×St))
 lf:Nat
 depth:Nat
 nums:Nat->List Nat
 ents:Nat->Option IV
noncomputable section
def ayR (c:CS) (args:List AV) (s:St):Bool:=match quick (bI args 0 .nil) c.slots with
 |false=>false
 |true=>Nat.beq args.length c.slots.length&&c.fits prv ⟨bI args 0 .nil,s.h,s.pc⟩ (c.guess ⟨bI args 0 .nil,s.h,s.pc⟩)&&SV (c.guess ⟨bI args 0 .nil,s.h,s.pc⟩)
def unset (s:St):List Nat->Bool
 |[]=>true
 |t::l=>match s.slots.get t with
  |some _=>false
  |none=>unset s l
def aGv (s:St):List (Nat×Nat)->Bool
 |[]=>true
 |(t,_)::l=>match s.slots.get t with
  |some _=>aGv s l
  |none=>false
def apD (c:CS) (gh:List (Nat×Nat)) (wh:List Nat) (args:List AV) (s:St):Bool:=match quick (bI args 0 .nil) c.slots with
 |false=>false
 |true=>unset s wh&&aGv s gh&&Nat.beq args.length c.slots.length&&c.fits prv ⟨bI args 0 .nil,s.h,s.pc⟩ (ghR s gh (c.guess ⟨bI args 0 .nil,s.h,s.pc⟩))&&SV (ghR s gh (c.guess ⟨bI args 0 .nil,s.h,s.pc⟩))
def Sys.OE (S:Sys):List Nat->List AV->St->T (AV×St)
 |[],_,_=> .fail
 |j::l,args,s=>match S.ents j with
  |none=> .fail
  |some e=>match e.pat with
   |none=>aqT j e.P8 e.pW args s
   |some (c,eG,ko)=>match e.wW with
    |[]=>match ayR c args s with
     |true=>aqR j c e.pW eG ko args s
     |false=>S.OE l args s
    |r::rs=>match apD c e.gh e.wh args s with
     |true=>aqP j e.kR c e.gh (r::rs) args s
     |false=>S.OE l args s
def Sys.hook (S:Sys) (g:Nat):Option (List AV->St->T (AV×St)):=match S.nums g with
 |[]=>S.ER g
 |j::l=>some (match S.ER g with
  |none=>S.OE (j::l)
  |some h=>orElse h (S.OE (j::l)))
def Sys.call (S:Sys):dS:=V5 S.tt S.ft S.hook S.draw S.lf S.depth
def Sys.cfg (S:Sys) (e:IV) (fn:Func):JF:=⟨S.tt,S.call,S.draw S.call e.g,S.lf,fn.results.toList,e.pW,e.eG,e.ko,e.wW,e.kR,e.fz⟩
def sV (S:Sys) (e:IV):T Lf:=match S.ft e.g with
 |none=> .fail
 |some fn=>match fn.body with
  |none=> .fail
  |some body=>match e.pos with
   |none=>match e.pat with
    |none=>EG (S.cfg e fn) e.tabs 1000 [] body [] ⟨bI (wH e.P8 .aO 0) 0 .nil,Hp.zero,[]⟩
    |some (c,_,_)=>EG (S.cfg e fn) e.tabs 1000 [] body [] c.st
   |some (p,c)=>match vI body p with
    |some (b,fr)=>match b with
     | .loop b=>Zy (fun s=>EG (S.cfg e fn) e.tabs 1000 (0::p) b (.loop p b::fr) s) e.tst c.st
     |_=> .fail
    |none=> .fail
def Sys.tree (S:Sys) (j:Nat):T Lf:=match S.ents j with
 |none=> .fail
 |some e=>sV S e
end
def axG (S:Sys) (e:IV) (body:Code):Prop:= ∀p l,e.tabs p=some l->(∃b fr,vI body p=some (.loop b,fr))/\∀j c,(j,c)∈l->S.ents j=some { e with pos:=some (p,c) }/\Di c.k c=true/\c.k<=900/\e.kR<=c.k
structure QA (S:Sys):Prop where
 tt:eX S.P S.tt
 ft:alB S.P S.chk S.ft
 draw: ∀(I:Glob) call,@kQ I S.P call->∀g,@Dx I S.P (S.chk g) (S.draw call g)
 ER: ∀(I:Glob),(∀ρ ro h,I.ok ρ ro h->S.G.ok ro h)->∀g h,S.ER g=some h->@nT I S.P g h
 run: ∀g j,j∈S.nums g->∀(args:Array Value) (w:World),(callFunc g args).run S.P w= .ok (.enter g args) w
 num: ∀g j e,j∈S.nums g->S.ents j=some e->e.g=g/\e.pos=none/\(match e.pat with
  |none=>(vF e.P8).length<=900/\e.wW= []
  |some (c,eG,_)=>Di c.k c=true/\c.k<=900/\eG.length=c.objs.length/\(e.wW≠[]->RZ e.wW=true))
 outs: ∀j e,S.ents j=some e->rM e.ko e.eG=true/\e.ko<=900/\e.kR<=900
 ents: ∀j e,S.ents j=some e->∀fn body,S.ft e.g=some fn->fn.body=some body->axG S e body
section
variable {S:Sys}
def aCR (S:Sys) (n:Nat):Prop:= ∀g j e,j∈S.nums g->S.ents j=some e->match e.pat with
 |none=>awJ S.P S.G.ok g e.P8 e.pW (fE S.tree n j)
 |some (c,eG,ko)=>match e.wW with
  |[]=>aCQ S.P S.G.ok g c e.pW eG ko (fE S.tree n j)
  |r::rs=>aCP S.P S.G.ok g c (r::rs) (fE S.tree n j)
def LoopN (S:Sys) (n:Nat):Prop:= ∀j e p c,S.ents j=some e->e.pos=some (p,c)->Di c.k c=true->c.k<=900->∀fn body b fr,S.ft e.g=some fn->fn.body=some body->vI body p=some (.loop b,fr)->
 ∀(B:rU) (E:En) (a:Act) (w:World) (xs ys:List Int),e.eG.length=B.m->fE S.tree n j xs=some ys->(∀i x,xs[i]?=some x->E.ρ i=x)->xs.length=c.k->rQ B E c.st a w->S.G.ok E.ro w.heap->fn.ntmps<=a.tmps.size->a.defers= []->
  QF S.P b (KE S.P (bodyPost S.P fn (QX B e.pW e.eG e.ko e.wW ys)) fr) a w
def LfG (kR:Nat) (tabs:Ld):Lf->Prop
 | .out es=> ∀a e,a<kR->es[a+1]?=some e->e= .aO a
 | .jump j es=>(∃p l c,tabs p=some l/\(j,c)∈l/\es.length=c.k)/\∀a e,a<kR->es[a]?=some e->e= .aO a
theorem TP: ∀{n i:Nat} {ns:List SE} {a:Nat} {e:SE},a<n->(J9 n i ns)[a]?=some e->e= .aO (i+a)
 |0,_,_,a,_,h,_=>by omega
 |n+1,i,[],a,e,_,h=>by simp [J9] at h
 |n+1,i,x::ns,0,e,_,h=>by simp [J9] at h; rw [<- h]; rfl
 |n+1,i,x::ns,a+1,e,ha,h=>by simp only [J9,aIX] at h;rw [TP (n:=n) (by omega) h];congr 1; omega
theorem Yn {kR:Nat} {r:Ren} {a:Nat} {e:SE} (ha:a<kR) (h:(xY kR r).ns[a]?=some e):e= .aO a:=by
 unfold xY at h;split at h
 ·omega
 ·have:=TP ha h;rw [this,aI2]
theorem arV {n m kR:Nat} {s:St} {ρ:Nat->Int} {lf:Lf} {tabs:Ld} {l:List CS} {k:Nat} (h:(YF n m kR s l k).leaf ρ=some lf):LfG kR tabs lf:=by obtain⟨i,c,_,_,_,rfl,_⟩:=L9 h;intro a e ha he;rw [aIX] at he;exact Yn ha he
theorem Ag {m kR:Nat} {s:St} {ρ:Nat->Int} {lf:Lf} {tabs:Ld} {p:List Nat} {l0:List (Nat×CS)} (hp:tabs p=some l0): ∀{l:List (Nat×CS)},(∀x∈l,x∈l0)->(xW m kR s l).leaf ρ=some lf->LfG kR tabs lf
 |[],_,h=>by simp [xW,T.leaf] at h
 |(j,c)::l,hsub,h=>by
  simp only [xW] at h;split at h
  ·exact Ag hp (fun x hx=>hsub x (by simp [hx])) h
  ·split at h
   ·have:=aG h;subst this;exact⟨⟨p,l0,c,hp,hsub _ (by simp),by rw [CX,Az]⟩,fun a e ha he=>Yn ha he⟩
   ·exact Ag hp (fun x hx=>hsub x (by simp [hx])) h
theorem xM {α:Type} {k:St->T α} {ρ:Nat->Int} {x:α}: ∀{ts:List Nat} {s:St},(Dn k ts s).leaf ρ=some x->∃s',(k s').leaf ρ=some x
 |[],s,h=> ⟨s,h⟩
 |i::ts,s,h=>by
  simp only [Dn] at h;split at h
  ·obtain⟨pc,b,h1⟩:=mY h;exact xM h1
  ·exact xM h
theorem IZ {α:Type} {k:St->T α} {ρ:Nat->Int} {x:α}: ∀{ts:List (Nat×Nat)} {s:St},(Zy k ts s).leaf ρ=some x->∃s',(k s').leaf ρ=some x
 |[],s,h=> ⟨s,h⟩
 |(t,g)::ts,s,h=>by
  simp only [Zy] at h;split at h
  ·obtain⟨pc,b,h1⟩:=mY h;exact IZ h1
  ·exact IZ h
theorem TM {α:Type} {ρ:Nat->Int} {v:AV} {s:St} {k:AV->St->T α} {x:α} (h:(akA v s k).leaf ρ=some x): ∃v s,(k v s).leaf ρ=some x:=by
 unfold akA at h;split at h
 ·split at h
  ·unfold Je at h;obtain⟨_,b1,h⟩:=mY h
   cases b1 with
   |true=>simp [T.leaf] at h
   |false=>
    obtain⟨_,b2,h⟩:=mY h
    cases b2 with
    |true=>simp [T.leaf] at h
    |false=>
     obtain⟨_,b3,h⟩:=mY h
     cases b3 with
     |true=>simp [T.leaf] at h
     |false=>exact⟨_,_,h⟩
  ·exact⟨_,_,h⟩
 ·exact⟨_,_,h⟩
theorem OO {α:Type} {ρ:Nat->Int} {x:α}: ∀{vs:List AV} {s:St} {k:List AV->St->T α},(TL vs s k).leaf ρ=some x->∃vs s,(k vs s).leaf ρ=some x
 |[],s,k,h=> ⟨_,_,h⟩
 |v::vs,s,k,h=>by simp only [TL] at h;obtain⟨_,_,h⟩:=TM h;obtain⟨_,_,h⟩:=OO h;exact⟨_,_,h⟩
theorem N8 {α:Type} {ρ:Nat->Int} {x:α} {t:Nat}: ∀{ov:List (SE×List AV)} {e:SE} {s:St} {k:SE->St->T α},(SC t ov e s k).leaf ρ=some x->∃e s,(k e s).leaf ρ=some x
 |[],e,s,k,h=> ⟨_,_,h⟩
 |(j,cs)::ov,e,s,k,h=>by
  simp only [SC] at h;obtain⟨_,_,h⟩:=N8 h;obtain⟨_,_,h⟩:=OO h;split at h
  ·exact⟨_,_,h⟩
  ·simp [T.leaf] at h
theorem ajY {α:Type} {ρ:Nat->Int} {v:AV} {s:St} {k:AV->St->T α} {x:α} (h:(ajZ v s k).leaf ρ=some x): ∃v s,(k v s).leaf ρ=some x:=by
 unfold ajZ at h;split at h
 ·obtain⟨_,_,h⟩:=N8 h;split at h
  ·exact⟨_,_,h⟩
  ·simp [T.leaf] at h
 ·exact TM h
theorem TJ {α:Type} {ρ:Nat->Int} {x:α} {k:List AV->St->T α}: ∀{fz:List (Nat×Nat×Nat)} {vs:List AV} {s:St},(abG fz vs s k).leaf ρ=some x->∃vs s,(k vs s).leaf ρ=some x
 |[],vs,s,h=> ⟨_,_,h⟩
 |(i,f,t)::l,vs,s,h=>by
  simp only [abG] at h;split at h
  ·split at h
   ·obtain⟨_,_,h⟩:=ajY h;split at h
    ·exact TJ h
    ·simp [T.leaf] at h
   ·simp [T.leaf] at h
  ·simp [T.leaf] at h
theorem arW {g:JF} {tabs:Ld} {e:Ex} {s:St} {ρ:Nat->Int} {lf:Lf} (hr:g.wW≠[]) (h:(arX g e s).leaf ρ=some lf):LfG g.kR tabs lf:=by
 unfold arX at h;split at h
 ·simp [T.leaf] at h
 ·split at h
  ·simp [T.leaf] at h
  ·split at h
   ·rename_i h0; exact absurd h0 hr
   ·obtain⟨_,_,h⟩:=TJ h;exact arV h
theorem agH {g:JF} {tabs:Ld} {ρ:Nat->Int} (hr:g.wW≠[]): ∀n:Nat,
 (∀p c fr s lf,(EG g tabs n p c fr s).leaf ρ=some lf->LfG g.kR tabs lf)/\
 (∀fr e s lf,(AA g tabs n fr e s).leaf ρ=some lf->LfG g.kR tabs lf)
 |0=> ⟨fun _ _ _ _ _ h=>by simp [EG,T.leaf] at h,fun _ _ _ _ h=>by simp [AA,T.leaf] at h⟩
 |n+1=>by
  obtain⟨ih1,ih2⟩:=agH hr n
  have lfc: ∀(c:Code) fr s lf,((g.ev c s).bind fun (e,s')=>AA g tabs n fr e s').leaf ρ=some lf->LfG g.kR tabs lf:=by intro c fr s lf h;obtain⟨⟨e,s'⟩,_,h2⟩:=T.gK h;exact ih2 _ _ _ _ h2
  constructor
  ·intro p c fr s lf h;unfold EG at h;split at h
   ·rename_i l hl;obtain⟨s',h1⟩:=xM h;exact Ag hl (fun _ h=>h) h1
   ·split at h
    ·exact ih1 _ _ _ _ _ h
    ·exact ih1 _ _ _ _ _ h
    ·exact ih1 _ _ _ _ _ h
    ·split at h
     ·obtain⟨pc,b,h1⟩:=mY h;split at h1
      ·exact ih1 _ _ _ _ _ h1
      ·exact ih1 _ _ _ _ _ h1
     ·simp [T.leaf] at h
    ·exact lfc _ _ _ _ h
  ·intro fr e s lf h;unfold AA at h;split at h
   ·exact arW hr h
   ·split at h
    ·exact ih1 _ _ _ _ _ h
    ·exact ih2 _ _ _ _ h
   ·split at h
    ·split at h
     ·exact ih2 _ _ _ _ h
     ·exact ih2 _ _ _ _ h
    ·exact ih2 _ _ _ _ h
   ·split at h
    ·split at h
     ·rename_i l hl;obtain⟨s',h1⟩:=xM h;exact Ag hl (fun _ h=>h) h1
     ·simp [T.leaf] at h
    ·exact ih2 _ _ _ _ h
   ·exact ih2 _ _ _ _ h
theorem Kv {e:IV} {ρ:Nat->Int} {lf:Lf} (hr:e.wW≠[]) (h:(sV S e).leaf ρ=some lf): ∃fn body,S.ft e.g=some fn/\fn.body=some body/\LfG e.kR e.tabs lf:=by
 unfold sV at h;split at h
 ·simp [T.leaf] at h
 ·rename_i fn hfn;split at h
  ·simp [T.leaf] at h
  ·rename_i body hb;refine⟨fn,body,hfn,hb,?_⟩;have key: ∀n p c fr s,(EG (S.cfg e fn) e.tabs n p c fr s).leaf ρ=some lf->LfG e.kR e.tabs lf:=fun n p c fr s h=>(agH (g:=S.cfg e fn) hr n).1 _ _ _ _ _ h;split at h
   ·split at h
    ·exact key _ _ _ _ _ h
    ·exact key _ _ _ _ _ h
   ·split at h
    ·split at h
     ·obtain⟨s',h1⟩:=IZ h;exact key _ _ _ _ _ h1
     ·simp [T.leaf] at h
    ·simp [T.leaf] at h
theorem aeX (hs:QA S): ∀(n j:Nat) (e:IV) (xs ys:List Int),S.ents j=some e->e.wW≠[]->fE S.tree n j xs=some ys->∀a y,a<e.kR->ys[a+1]?=some y->y=low xs a
 |0,_,_,_,_,_,_,h=>by simp [fE] at h
 |n+1,j,e,xs,ys,he,hr,h=>by
  intro a y ha hy;obtain⟨_,_,hg⟩:=hs.outs j e he;have TG:S.tree j=sV S e:=by unfold Sys.tree; rw [he]
  simp only [fE,TG] at h;split at h
  ·simp at h
  ·rename_i es hl;obtain⟨_,_,_,_,hlf⟩:=Kv hr hl;simp only [aIS] at h;subst h;rw [aJi,aJe] at hy;obtain⟨x,hx,rfl⟩:=hy;rw [hlf a x ha hx];show bT _ _ a=_;rw [wM (by omega)]
  ·rename_i j' es hl;obtain⟨fn,body,hfn,hb,⟨p,l,c,hp,hc,hlen⟩,hlf⟩:=Kv hr hl;obtain⟨_,hh⟩:=hs.ents j e he fn body hfn hb p l hp;obtain⟨q1,_,_,q4⟩:=hh j' c hc;have:=aeX hs n j' _ _ ys q1 hr h a y ha hy;rw [this];have hal:a<es.length:=by omega
   have hx:=aI6 hal;unfold low;rw [aKd,aJi,hx];show (es[a]).den _=_;rw [hlf a _ ha hx];show bT _ _ a=_;rw [wM (by omega)]
theorem aAY (hs:QA S) {n:Nat} (h:aCR S n):@kQ (S.G.glob (fE S.tree n)) S.P S.call:=by
 letI I:=S.G.glob (fE S.tree n);have a1: ∀ρ ro h,I.ok ρ ro h->S.G.ok ro h:=fun _ _ _ h=>h.1;have a2: ∀ρ ro h,I.ok ρ ro h->Good (fE S.tree n) ρ:=fun _ _ _ h=>h.2;refine Ia hs.tt hs.ft (hook:=S.hook) ?_ (fun call hc g=>hs.draw I call hc g) S.lf S.depth
 have hL: ∀g l,(∀j∈l,j∈S.nums g)->@nT I S.P g (S.OE l):=by
  intro g l
  induction l with
  |nil=> intro _ aIP s E w vals v s' r hv hp hl;simp [Sys.OE,T.leaf] at hl
  |cons j l ih=>
   intro hsub aIP s E w vals v s' r hv hp hl;have hj:=hsub j (by simp);simp only [Sys.OE] at hl;split at hl
   ·simp [T.leaf] at hl
   ·rename_i e he;have hspec:=h g j e hj he;obtain⟨_,_,hnum⟩:=hs.num g j e hj he;obtain⟨ho1,ho2,_⟩:=hs.outs j e he
    cases hpat:e.pat with
    |none=> rw [hpat] at hl hspec;exact @aqS S.P I S.G.ok a1 (fE S.tree n) a2 g j e.P8 e.pW hspec (hs.run g j hj) aIP s E w vals v s' r hv hp hl
    |some q=>
     obtain⟨c,eG,ko⟩:=q;rw [hpat] at hl hspec hnum;simp only at hl hspec hnum;unfold IV.eG IV.ko at ho1;unfold IV.ko at ho2;rw [hpat] at ho1 ho2
     cases KU:e.wW with
     |nil=>
      rw [KU] at hl hspec;simp only at hl hspec;split at hl
      ·exact @aqQ S.P I S.G.ok a1 (fE S.tree n) a2 g j c e.pW eG ko ho1 ho2 hnum.2.2.1 hspec (hs.run g j hj) aIP s E w vals v s' r hv hp hl
      ·exact ih (fun j hj=>hsub j (by simp [hj])) aIP s E w vals v s' r hv hp hl
     |cons r0 rs=>
      rw [KU] at hl hspec;simp only at hl hspec;have hrp:=hnum.2.2.2 (by rw [KU]; simp);rw [KU] at hrp;split at hl
      ·exact @aqO S.P I S.G.ok a1 (fE S.tree n) a2 g j c e.gh e.kR (r0::rs) hrp (fun xs ys h=>aeX hs n j e xs ys he (by rw [KU]; simp) h) hspec (hs.run g j hj) aIP s E w vals v s' r hv hp hl
      ·exact ih (fun j hj=>hsub j (by simp [hj])) aIP s E w vals v s' r hv hp hl
 intro g f hf;unfold Sys.hook at hf;split at hf
 ·exact hs.ER I a1 g f hf
 ·rename_i j l hj;simp only [aIS] at hf;subst hf;have h2:=hL g (j::l) (by rw [hj]; exact fun _ h=>h);split
  ·exact h2
  ·rename_i h0 hh;exact DV (hs.ER I a1 g h0 hh) h2
theorem aaW (hs:QA S) {n:Nat} (h:LoopN S n) {j:Nat} {e:IV} (he:S.ents j=some e) {fn:Func} {body:Code} (hfn:S.ft e.g=some fn) (hb:fn.body=some body) (B:rU) (hm:e.eG.length=B.m) (ys:List Int) :
 @awO (S.G.glob (fE S.tree n)) S.P body fn.ntmps B (bodyPost S.P fn (QX B e.pW e.eG e.ko e.wW ys)) (fE S.tree n) ys e.tabs:=by
 intro p l hp;obtain⟨⟨b,fr,hl⟩,hh⟩:=hs.ents j e he fn body hfn hb p l hp;refine⟨b,fr,hl,fun j' c hc E a w t hg ⟨xs,h1,h2,h3,h4⟩ hN hd=>?_⟩;obtain⟨q1,q2,q3,_⟩:=hh j' c hc;exact h j' { e with pos:=some (p,c) } p c q1 rfl q2 q3 fn body b fr hfn hb hl B E a w xs ys hm h4 h1 h2 t hg.1 hN hd
theorem apX {F:uU} {E:En} {xs:List Int} {k:Nat} (h: ∀i x,xs[i]?=some x->E.ρ i=x) (hk:xs.length=k) (h9:k<=900): ∀i,i<k->bT F (low xs) i=E.ρ i:=by intro i hi;rw [wM (by omega)];have hx:xs[i]?=some xs[i]:=aI6 (by omega);unfold low;rw [h i _ hx,aKd,hx];rfl
theorem VE {tree:Nat->T Lf} {n j:Nat} {xs ys:List Int} (h:fE tree (n+1) j xs=some ys): ∃lf,(tree j).leaf (bT (fE tree n) (low xs))=some lf/\Ze (fE tree n) (bT (fE tree n) (low xs)) ys lf:=by
 simp only [fE] at h;split at h
 ·simp at h
 ·rename_i es hl;simp only [aIS] at h;exact⟨_,hl,h⟩
 ·rename_i j' es hl;exact⟨_,hl,h⟩
theorem QE.spec {w:World} {ro:Nat->Prop} {θ:Nat->Nat×Nat} {κ:Nat->Nat} {pW:List RK} {ys:List Int} {e:Ending} {w':World} (h:QE ⟨w,ro,0,θ,κ⟩ pW [] 0 ys e w') :
 ∃u,e= .returned u/\Below w.heap.size w w'/\∃ro':Nat->Prop,(∀b,ro b->ro' b)/\(∀b,ro' b->ro b\/w.heap.size<=b)/\(∀b,ro' b->b<w'.heap.size)/\aBa pW ys ro' w'.heap u:=by
 obtain⟨u,q1,q2,ro',q3,q4,q5,_,_,q6⟩:=h;exact⟨u,q1,⟨q2.os,q2.tape,q2.output,q2.size,fun k hk=>q2.blk k hk fun⟨i,hi,_⟩=>absurd hi (by show ¬i<0; omega)⟩,ro',q3,q4,q5,q6⟩
theorem Bel.refl {B:rU}:Bel B B.w0:=⟨rfl,rfl,rfl,aIV _,fun _ _ _=>rfl⟩
theorem II.grow {E:En} {s:St} {w:World} {vals:List Value} (f:II E s { tmps:=vals.toArray,defers:=[] } w) (n:Nat):II E s { tmps:=vals.toArray++Array.replicate n undef,defers:=[] } w:=by refine⟨f.fresh,f.res,f.live,f.inj,f.Cc,fun t v ht=>?_,f.pc⟩;obtain⟨u,h1,h2⟩:=f.sr t v ht;refine⟨u,?_,h2⟩;have hlt:=(aJn.1 h1).1;show (vals.toArray++Array.replicate n undef)[t]?=some u;rw [aKL hlt];exact h1
theorem aoB (hs:QA S): ∀n:Nat,aCR S n/\LoopN S n
 |0=> ⟨fun g j e _ _=>by
  cases e.pat with
  |none=>exact fun xs ys h=>by simp [fE] at h
  |some q=>
   obtain⟨c,eG,ko⟩:=q
   cases e.wW with
   |nil=>exact fun xs ys h=>by simp [fE] at h
   |cons r rs=>exact fun xs ys h=>by simp [fE] at h,fun j e p c _ _ _ _ fn body b fr _ _ _ B E a w xs ys _ h=>by simp [fE] at h⟩
 |n+1=>by
  obtain⟨ih1,ih2⟩:=aoB hs n;letI I:=S.G.glob (fE S.tree n);have hcall:=aAY hs ih1;have avO: ∀(e:IV) (fn:Func),acW S.P (S.cfg e fn) (S.chk e.g):=fun e fn=> ⟨hs.tt,hcall,hs.draw I S.call hcall e.g⟩;constructor
  ·intro g j e hn he;obtain⟨hg,hpos,hnum⟩:=hs.num g j e hn he;obtain⟨hlo,hko,_⟩:=hs.outs j e he;have TG:S.tree j=sV S e:=by unfold Sys.tree; rw [he]
   cases hpat:e.pat with
   |none=>
    rw [hpat] at hnum;simp only at hnum ⊢;intro xs ys hx ro w vals fl hro hgb sh hc;obtain⟨lf,h1,h2⟩:=VE hx;rw [TG] at h1;unfold sV at h1
    cases hfn:S.ft e.g with
    |none=>rw [hfn] at h1; simp [T.leaf] at h1
    |some fn=>
     rw [hfn] at h1
     cases hb:fn.body with
     |none=>simp only [hb] at h1; simp [T.leaf] at h1
     |some body=>
      simp only [hb,hpos,hpat] at h1;obtain⟨hf,_,hd⟩:=hs.ft e.g fn hfn;rw [hg] at hf;have hdst:=hd body hb;have hlx:=hc.length.1;have hob:e.eG= []:=by unfold IV.eG; rw [hpat]
      have hk0:e.ko=0:=by unfold IV.ko; rw [hpat]
      have hvr:bQ (En.zero (bT (fE S.tree n) (low xs)) ro) w.heap (wH e.P8 .aO 0) vals:=by refine yT sh hc fun k x hk=>?_;have hkl:=(aJf.1 hk).1;rw [aI2];show bT _ _ k=x;rw [wM (by omega)];unfold low;rw [aKd,hk];rfl
      have hgl:I.ok (bT (fE S.tree n) (low xs)) ro w.heap:=⟨hgb,oU _ _⟩;let B:rU:=⟨w,ro,0,fun _=>(0,0),fun _=>0⟩
      have t0:rQ B (En.zero (bT (fE S.tree n) (low xs)) ro) ⟨bI (wH e.P8 .aO 0) 0 .nil,Hp.zero,[]⟩ { tmps:=vals.toArray++Array.replicate (fn.ntmps-vals.toArray.size) undef,defers:=[] } w:=by
       have fit:Fit (En.zero (bT (fE S.tree n) (low xs)) ro) ⟨bI (wH e.P8 .aO 0) 0 .nil,Hp.zero,[]⟩ { tmps:=vals.toArray++Array.replicate (fn.ntmps-vals.toArray.size) undef,defers:=[] } w:=
        ⟨Xf _ ro w hro hgl,He hvr _,by intro c b h; simp at h⟩
       exact⟨fit.x,fun _ h=>h,fun _ h=> .inl h,Bel.refl,fun id o h=>by simp [Hp.zero,Hp.get,Tr.get] at h,fun i hi=>absurd hi (by show ¬i<0; omega)⟩
      refine Calls.mono (calls_of_wp (R:=QX B e.pW e.eG e.ko e.wW ys) hf hb ?_) fun e' w' hq=>QE.spec (w:=w) (ro:=ro) (θ:=fun _=>(0,0)) (κ:=fun _=>0) (by rw [hob,hk0,hnum.2] at hq; exact hq);exact (VK (B:=B) (avO e fn) hdst rfl (by show e.eG.length=0; rw [hob]; rfl) hlo hko (aaW hs ih2 he hfn hb B (by show e.eG.length=0; rw [hob]; rfl) ys) 1000).1 [] body [] _ lf _ _ w rfl h1 h2 t0 hgl (by simp; omega) rfl
   |some q=>
    obtain⟨c,eG,ko⟩:=q;rw [hpat] at hnum;simp only at hnum ⊢;obtain⟨aGp,hc9,hom,hrp⟩:=hnum
    have main: ∀xs ys,fE S.tree (n+1) j xs=some ys->∀(E:En) (w:World) (vals:List Value),(∀i x,xs[i]?=some x->E.ρ i=x)->xs.length=c.k->II E c.st { tmps:=vals.toArray,defers:=[] } w->S.G.ok E.ro w.heap->
     Calls S.P g vals.toArray w (QX ⟨w,E.ro,c.objs.length,E.θ,E.κ⟩ e.pW eG ko e.wW ys):=?_
    ·cases KU:e.wW with
     |nil=> simp only;intro xs ys hx E w vals hxs hlen fx hgb;have:=main xs ys hx E w vals hxs hlen fx hgb;rw [KU] at this;exact this
     |cons r0 rs=> simp only;intro xs ys hx E w vals hxs hlen fx hgb;have:=main xs ys hx E w vals hxs hlen fx hgb;rw [KU] at this;exact this
    intro xs ys hx E w vals hxs hlen fx hgb;obtain⟨lf,h1,h2⟩:=VE hx;rw [TG] at h1;unfold sV at h1
    cases hfn:S.ft e.g with
    |none=>rw [hfn] at h1; simp [T.leaf] at h1
    |some fn=>
     rw [hfn] at h1
     cases hb:fn.body with
     |none=>simp only [hb] at h1; simp [T.leaf] at h1
     |some body=>
      simp only [hb,hpos,hpat] at h1;obtain⟨hf,_,hd⟩:=hs.ft e.g fn hfn;rw [hg] at hf;have hdst:=hd body hb;have hob:e.eG=eG:=by unfold IV.eG; rw [hpat]
      have hk0:e.ko=ko:=by unfold IV.ko; rw [hpat]
      let B:rU:=⟨w,E.ro,c.objs.length,E.θ,E.κ⟩
      have aH8: ∀id o,c.st.h.get id=some o->id<c.objs.length:=by
       intro id o ho;have:(wG c.objs 0 .nil).get id=some o:=ho;rw [oC] at this;split at this
       ·omega
       ·simp [Tr.get] at this
      have aH6: ∀id,id<c.objs.length->∃o,c.st.h.get id=some o:=by intro id hid;refine⟨c.objs[id],?_⟩;show (wG c.objs 0 .nil).get id=_;rw [oC,aIR (by omega)];simp
      have t1:rQ B E c.st { tmps:=vals.toArray++Array.replicate (fn.ntmps-vals.toArray.size) undef,defers:=[] } w:=by refine⟨fx.grow _,fun _ h=>h,fun _ h=> .inl h,Bel.refl,fun id o h=> .inr ⟨id,aH8 id o h,rfl⟩,fun i hi=>?_⟩;obtain⟨o,ho⟩:=aH6 i hi;exact⟨(fx.live i o ho).1,rfl,rfl⟩
      have t0:=t1.low (ρ':=bT (fE S.tree n) (low xs)) aGp (apX hxs hlen hc9);have hgl:I.ok (bT (fE S.tree n) (low xs)) E.ro w.heap:=⟨hgb,oU _ _⟩;have hm:e.eG.length=B.m:=by rw [hob]; exact hom
      have hw:=(VK (B:=B) (avO e fn) hdst rfl hm hlo hko (aaW hs ih2 he hfn hb B hm ys) 1000).1 [] body [] _ lf { E with ρ:=bT (fE S.tree n) (low xs) } _ w rfl h1 h2 t0 hgl (by simp; omega) rfl;have hw':=calls_of_wp (R:=QX B e.pW e.eG e.ko e.wW ys) hf hb hw;rw [hob,hk0] at hw';exact hw'
  ·intro j e p c he hpos hlow h9 fn body b fr hfn hb hl B E a w xs ys hm hx hxs hlen t hgb hN hdf;obtain⟨hlo,hko,_⟩:=hs.outs j e he;obtain⟨lf,h1,h2⟩:=VE hx;have TG:S.tree j=sV S e:=by unfold Sys.tree; rw [he]
   rw [TG] at h1;unfold sV at h1;simp only [hfn,hb,hpos,hl] at h1;obtain⟨hf,_,hd⟩:=hs.ft e.g fn hfn;have hdst:=hd body hb;have t':=t.low (ρ':=bT (fE S.tree n) (low xs)) hlow (apX hxs hlen h9);have hgl:I.ok (bT (fE S.tree n) (low xs)) E.ro w.heap:=⟨hgb,oU _ _⟩;refine aaP ?_;obtain⟨s2,t2,h1'⟩:=UO (E:={ E with ρ:=bT (fE S.tree n) (low xs) }) h1 t';exact (VK (B:=B) (avO e fn) hdst rfl hm hlo hko (aaW hs ih2 he hfn hb B hm ys) 1000).1 (0::p) b (.loop p b::fr) s2 lf { E with ρ:=bT (fE S.tree n) (low xs) } a w (by simp only [vI,hl]) h1' h2 t2 hgl hN hdf
theorem aoA (hs:QA S) {g j:Nat} {e:IV} (hn:j∈S.nums g) (he:S.ents j=some e) (hp:e.pat=none) (n:Nat):awJ S.P S.G.ok g e.P8 e.pW (fE S.tree n j):=by have:=(aoB hs n).1 g j e hn he;rw [hp] at this;exact this
end
end Go.As
end
section
namespace Go.As
open Go.RowKit
def Ko:List (Nat×Nat)->Nat->Option Nat
 |[],_=>none
 |(t,k)::l,x=>match Nat.beq t x with
  |true=>some k
  |false=>Ko l x
def XO (l:List (Nat×Nat)) (tt:TT):TT:=fun t=>match tt t with
 |some i=>some { i with own:=Ko l t }
 |none=>none
section
variable {P:Program}
theorem ayS {l:List (Nat×Nat)} {tt:TT} (h:eX P tt):eX P (XO l tt):=by
 intro t i hi;unfold XO at hi;split at hi
 ·rename_i j hj;simp only [aIS] at hi;subst hi;obtain⟨h1,h2⟩:=h t j hj;exact⟨h1,h2⟩
 ·simp at hi
theorem aaT (l:List (Nat×Nat)) (tt:TT):kindOf (XO l tt)=kindOf tt:=by
 funext op;cases op
 case convert t u x=>
  simp only [kindOf,XO]
  cases ht:tt t with
  |none=>rfl
  |some i=>
   simp only
   cases i.kind with
   |slice e=>
    simp only
    cases hu:tt u with
    |none=>rfl
    |some j=>rfl
   |_=>rfl
 all_goals rfl
theorem TA (l:List (Nat×Nat)) (tt:TT) (all:List Oper) (ms:List Nat): ∀(os:List Oper) (i n:Nat),items (XO l tt) all ms os i n=items tt all ms os i n
 |[],_,_=>rfl
 |o::os,i,n=>by simp only [items,aaT,TA l tt all ms os]
theorem aoE (l:List (Nat×Nat)) (tt:TT) (all:List Oper):stat (XO l tt) all=stat tt all:=by
 unfold stat
 simp only [TA]
theorem avN (l:List (Nat×Nat)) (tt:TT) (H:Nat->Nat->Option UJ):WM (XO l tt) H=WM tt H:=by funext g id all;unfold WM;simp only [CV,aoE]
end
structure FE where
 no:Nat
 g:Nat
 P8:List RK
 pW:List RK
 pat:Option (CS×List dW×Nat):=none
 wW:List CS:=[]
 gh:List (Nat×Nat):=[]
 wh:List Nat:=[]
 kR:Nat:=0
 tst:List (Nat×Nat):=[]
 fz:List (Nat×Nat×Nat):=[]
 loops:List (List Nat×CS):=[]
def idxs (p:List Nat):List (List Nat×CS)->Nat->List (Nat×CS)
 |[],_=>[]
 |(q,c)::l,j=>match jT q p with
  |true=>(j,c)::idxs p l (j+1)
  |false=>idxs p l (j+1)
def FE.tabs (f:FE):Ld:=fun p=>match idxs p f.loops (f.no+1) with
 |[]=>none
 |x::l=>some (x::l)
def FE.ent (f:FE):IV:=⟨f.g,f.P8,f.pW,f.tabs,none,f.pat,f.wW,f.gh,f.wh,f.kR,f.tst,f.fz⟩
def Bv (t:Nat->Option FE) (j:Nat):Option IV:=match t (j / 50) with
 |none=>none
 |some f=>match j % 50 with
  |0=>some f.ent
  |i+1=>match iD f.loops i with
   |some x=>some { f.ent with pos:=some x }
   |none=>none
def aqI:Option (Code×List FrE)->Bool
 |some (c,_)=>match c with
  | .loop _=>true
  |_=>false
 |none=>false
def Vz (kR:Nat) (body:Code) (x:List Nat×CS):Bool:=aqI (vI body x.1)&&Di x.2.k x.2&&Nat.ble x.2.k 900&&Nat.ble kR x.2.k
def aF2 {α:Type}:List α->Bool
 |[]=>true
 |_=>false
def arK (ft:Nat->Option Func) (k:Nat) (f:FE):Bool:=Nat.beq f.no (50*k)&&Nat.blt f.loops.length 50&&Nat.ble f.kR 900&&
 (match f.pat with
  |none=>Nat.ble (vF f.P8).length 900&&aF2 f.wW
  |some (c,eG,ko)=>Di c.k c&&Nat.ble c.k 900&&Nat.beq eG.length c.objs.length&&RZ f.wW&&rM ko eG&&Nat.ble ko 900)&&
 (match ft f.g with
  |some fn=>match fn.body with
   |some body=>f.loops.all (Vz f.kR body)
   |none=>false
  |none=>false)
def XT (ft:Nat->Option Func) (t:Nat->Option FE) (g:Nat) (l:List Nat):Bool:=
 l.all fun j=>Nat.beq (j % 50) 0&&match t (j / 50) with
  |some f=>Nat.beq f.g g&&(match ft g with
   |some fn=>fn.body.isSome
   |none=>false)
  |none=>false
theorem Pg: ∀{a b:List Nat},jT a b=true->a=b
 |[],[],_=>rfl
 |[],_::_,h=>by simp [jT] at h
 |_::_,[],h=>by simp [jT] at h
 |a::x,b::y,h=>by
  simp only [jT] at h;split at h
  ·rename_i h1;rw [aIW h1,Pg h]
  ·simp at h
theorem Hf {p:List Nat}: ∀{l:List (List Nat×CS)} {n j:Nat} {c:CS},(j,c)∈idxs p l n->∃i,l[i]?=some (p,c)/\j=n+i
 |[],n,j,c,h=>by simp [idxs] at h
 |(q,c0)::l,n,j,c,h=>by
  simp only [idxs] at h;split at h
  ·rename_i hq;rcases aI3.1 h with h|h
   ·simp only [aIT] at h;obtain⟨rfl,rfl⟩:=h;exact⟨0,by rw [Pg hq]; rfl,rfl⟩
   ·obtain⟨i,h1,h2⟩:=Hf h;exact⟨i+1,by simpa using h1,by omega⟩
  ·obtain⟨i,h1,h2⟩:=Hf h;exact⟨i+1,by simpa using h1,by omega⟩
structure alA where
 P:Program
 G:Zh
 tt:TT
 ft:Nat->Option Func
 chk:Nat->Nat->List Oper->Bool
 draw:dS->Nat->Nat->List Oper->St->T St
 ER:Nat->Option (List AV->St->T (AV×St))
 t:Nat->Option FE
 nums:Nat->List Nat
noncomputable def alA.sys (S:alA):Sys:=⟨S.P,S.G,S.tt,S.ft,S.chk,S.draw,S.ER,40,60,S.nums,Bv S.t⟩
theorem Ph {t:Nat->Option FE} {j:Nat} {e:IV} (h:Bv t j=some e): ∃f pos,t (j / 50)=some f/\e= { f.ent with pos:=pos }:=by
 unfold Bv at h;split at h
 ·simp at h
 ·rename_i f hf;split at h
  ·simp only [aIS] at h;exact⟨f,none,hf,h.symm⟩
  ·split at h
   ·rename_i x hx;simp only [aIS] at h;exact⟨f,some x,hf,h.symm⟩
   ·simp at h
theorem axU {S:alA} (h1:eX S.P S.tt) (h2:alB S.P S.chk S.ft) (h3: ∀(I:Glob) call,@kQ I S.P call->∀g,@Dx I S.P (S.chk g) (S.draw call g)) (h4: ∀(I:Glob),(∀ρ ro h,I.ok ρ ro h->S.G.ok ro h)->∀g h,S.ER g=some h->@nT I S.P g h)
 (h5: ∀k f,S.t k=some f->arK S.ft k f=true) (h6: ∀g,XT S.ft S.t g (S.nums g)=true):QA S.sys where
 tt:=h1
 ft:=h2
 draw:=h3
 ER:=h4
 run:=by
  intro g j hj args w;have hn:=h6 g;unfold XT at hn;have:=aJg.1 hn j hj;simp only [aIU] at this;obtain⟨_,h⟩:=this;split at h
  ·simp only [aIU] at h;obtain⟨_,h⟩:=h;split at h
   ·rename_i fn hfn;obtain⟨q1,q2,_⟩:=h2 g fn hfn;obtain⟨c,hb⟩:=aJ3.1 h;unfold callFunc;simp [alA.sys,q1,hb,by simpa using q2]
   ·simp at h
  ·simp at h
 num:=by
  intro g j e hj he;have hn:=h6 g;unfold XT at hn;have:=aJg.1 hn j hj;simp only [aIU] at this;obtain⟨hm,h⟩:=this;have hm:=aIW hm;have he':Bv S.t j=some e:=he;unfold Bv at he';split at h
  ·rename_i f hf;rw [hf,hm] at he';simp only [aIS] at he';subst he';simp only [aIU] at h;have hok:=h5 _ _ hf;unfold arK at hok;simp only [aIU] at hok;obtain⟨⟨_,hp⟩,_⟩:=hok;refine⟨aIW h.1,rfl,?_⟩
   show (match f.pat with
    |none=>_
    |some (c,eG,_)=>_)
   cases hpat:f.pat with
   |none=>
    rw [hpat] at hp;simp only [aIU] at hp;refine⟨aJM hp.1,?_⟩;show f.wW= []
    cases hr:f.wW with
    |nil=>rfl
    |cons a l=>rw [hr] at hp; simp [aF2] at hp
   |some q=> obtain⟨c,eG,ko⟩:=q;rw [hpat] at hp;simp only [aIU] at hp;obtain⟨⟨⟨⟨⟨p1,p2⟩,p3⟩,p4⟩,_⟩,_⟩:=hp;exact⟨p1,aJM p2,aIW p3,fun _=>p4⟩
  ·simp at h
 outs:=by
  intro j e he;obtain⟨f,pos,hf,rfl⟩:=Ph he;have hok:=h5 _ _ hf;unfold arK at hok;simp only [aIU] at hok;obtain⟨⟨⟨_,hg⟩,hp⟩,_⟩:=hok;refine⟨?_,?_,aJM hg⟩
  ·unfold IV.eG IV.ko;show rM (match f.pat with |none=>0|some (_,_,k)=>k) (match f.pat with |none=>[]|some (_,o,_)=>o)=true
   cases hpat:f.pat with
   |none=>rfl
   |some q=> obtain⟨c,eG,ko⟩:=q;rw [hpat] at hp;simp only [aIU] at hp;exact hp.1.2
  ·unfold IV.ko;show (match f.pat with |none=>0|some (_,_,k)=>k)<=900
   cases hpat:f.pat with
   |none=>exact aJY _
   |some q=> obtain⟨c,eG,ko⟩:=q;rw [hpat] at hp;simp only [aIU] at hp;exact aJM hp.2
 ents:=by
  intro j e he fn body hfn hb;obtain⟨f,pos,hf,rfl⟩:=Ph he;have hok:=h5 _ _ hf;unfold arK at hok;simp only [aIU] at hok;obtain⟨⟨⟨⟨hno,hlen⟩,_⟩,_⟩,hl⟩:=hok;have hno:=aIW hno;have hlen:f.loops.length<50:=aLo (by simpa [Nat.blt] using hlen);have hfn':S.ft f.g=some fn:=hfn;rw [hfn'] at hl;simp only [hb] at hl;intro p l hp;have hp':f.tabs p=some l:=hp
  have hl0:l=idxs p f.loops (f.no+1)/\l≠[]:=by
   unfold FE.tabs at hp';split at hp'
   ·simp at hp'
   ·rename_i x l' hx;simp only [aIS] at hp';rw [hx,hp'];exact⟨rfl,by rw [<- hp']; simp⟩
  have hat: ∀i c,f.loops[i]?=some (p,c)->Vz f.kR body (p,c)=true:=fun i c hi=>aJg.1 hl _ (aJo hi);constructor
  ·obtain⟨hl1,hl2⟩:=hl0
   cases hc:l with
   |nil=>exact absurd hc hl2
   |cons x l'=>
    obtain⟨j',c⟩:=x;have:(j',c)∈idxs p f.loops (f.no+1):=by rw [<- hl1,hc]; simp
    obtain⟨i,hi,_⟩:=Hf this;have:=hat i c hi;unfold Vz at this;simp only [aIU] at this;have hi:=this.1.1.1;unfold aqI at hi;split at hi
    ·rename_i c' fr heq;split at hi
     ·rename_i b;exact⟨b,fr,heq⟩
     ·simp at hi
    ·simp at hi
  ·intro j' c hc;rw [hl0.1] at hc;obtain⟨i,hi,rfl⟩:=Hf hc;have hil:=(aJf.1 hi).1;have:=hat i c hi;unfold Vz at this;simp only [aIU] at this;obtain⟨⟨⟨_,q1⟩,q2⟩,q3⟩:=this;refine⟨?_,q1,aJM q2,aJM q3⟩;show Bv S.t (f.no+1+i)=_;have hd:(f.no+1+i) / 50=j / 50:=by rw [hno]; omega
   have hm:(f.no+1+i) % 50=i+1:=by rw [hno]; omega
   unfold Bv;rw [hd,hf,hm];simp only;rw [dD,hi]
end Go.As
end
section
namespace Go.As
open Go.RowKit
def u8L (l:List Int):List AV:=l.map fun n=> .int .u8 (.lit n)
noncomputable section
def a0 (j:Nat) (l:List SE):SE:=.ap (2*j) (iU l)
def a1 (j:Nat) (l:List SE):SE:=.ap (2*j+1) (iU l)
def rr (j:Nat) (l:List SE) (i:Nat):SE:=uZ (.ap (2*j+1) (iU l)) i
def nm (x:SE):SE:=.op .num x (.lit 0)
def mk (x:SE):SE:=.op .mk x (.lit 0)
def ln (x:SE):SE:=.op .len x (.lit 0)
def ce (j:Nat) (x:SE):SE:=.op (.cell j) x (.lit 0)
def el (x y:SE):SE:=.op .at x y
def cn (x y:SE):SE:=.op .cons x y
def wr (x:SE):SE:=.wrap .i64 x
def sp (c:SB) (a b:T Lf):T Lf:=.split c a b
def ou (l:List SE):T Lf:=.ret (.out l)
def ju (j:Nat) (l:List SE):T Lf:=.ret (.jump j l)
def fl:T Lf:=.fail
end
end Go.As
end
section
namespace Go.As
open Go.RowKit
def Ez (kn:List (Nat×SE)):SE->Bool
 | .ap f a=>Ez kn a&&kn.any fun p=>Nat.beq f (2*p.1+1)&&gZ a p.2
 | .op _ a b=>Ez kn a&&Ez kn b
 | .add a b=>Ez kn a&&Ez kn b
 | .sub a b=>Ez kn a&&Ez kn b
 | .mul a b=>Ez kn a&&Ez kn b
 | .quo a b=>Ez kn a&&Ez kn b
 | .rem a b=>Ez kn a&&Ez kn b
 | .wrap _ a=>Ez kn a
 | .inp _ _=>false
 | .lit _=>true
 | .dat _=>true
 | .aO i=>Nat.blt i 900
def okC (kn:List (Nat×SE)):SB->Bool
 | .lit _=>true
 | .lt a b=>Ez kn a&&Ez kn b
 | .le a b=>Ez kn a&&Ez kn b
 | .eq a b=>Ez kn a&&Ez kn b
 | .not a=>okC kn a
 | .and a b=>okC kn a&&okC kn b
def callOf:SB->Option (Nat×SE)
 | .eq x y=>match x with
   | .ap f a=>match y with
     | .lit n=>match CQ n 1&&Nat.beq (f % 2) 0 with
       |true=>some (f / 2,a)
       |false=>none
     |_=>none
   |_=>none
 |_=>none
def aDJ:T Lf->Bool
 | .fail=>true
 |_=>false
def apF (kn:List (Nat×SE)):List SE->Bool
 |[]=>true
 |e::l=>Ez kn e&&apF kn l
def Zm (kn:List (Nat×SE)):T Lf->Bool
 | .fail=>true
 | .ret l=>match l with
   | .out es=>apF kn es
   | .jump _ es=>apF kn es
 | .split c x y=>match callOf c with
   |some p=>Ez kn p.2&&Zm (p::kn) x&&aDJ y
   |none=>okC kn c&&Zm kn x&&Zm kn y
inductive RS where
 |no
 |out (ys:List Int)
 |jump (j:Nat) (xs:List Int)
noncomputable def dY (ρ:Nat->Int):T Lf->RS
 | .fail=> .no
 | .ret l=>match l with
   | .out es=> .out (es.map (SE.den ρ))
   | .jump j es=> .jump j (es.map (SE.den ρ))
 | .split c x y=>if c.den ρ=true then dY ρ x else dY ρ y
theorem Gy {tree:Nat->T Lf} {n j:Nat} {xs:List Int}:fE tree (n+1) j xs=match dY (bT (fE tree n) (low xs)) (tree j) with
 | .no=>none
 | .out ys=>some ys
 | .jump j' xs'=>fE tree n j' xs':=by
 have: ∀t:T Lf,(match t.leaf (bT (fE tree n) (low xs)) with
  |none=>none
  |some (.out es)=>some (es.map (SE.den (bT (fE tree n) (low xs))))
  |some (.jump j' es)=>fE tree n j' (es.map (SE.den (bT (fE tree n) (low xs)))))=match dY (bT (fE tree n) (low xs)) t with
  | .no=>none
  | .out ys=>some ys
  | .jump j' xs'=>fE tree n j' xs':=by
  intro t
  induction t with
  |fail=>rfl
  |ret l=>cases l<;>rfl
  |split c x y ihx ihy=>
   simp only [T.leaf,dY]
   cases hc:c.den (bT (fE tree n) (low xs)) with
   |true=>simpa [hc] using ihx
   |false=>simpa [hc] using ihy
 exact this (tree j)
def Fle (F F':uU):Prop:= ∀j xs ys,F j xs=some ys->F' j xs=some ys
def Kn (F F':uU) (lo:Nat->Int) (kn:List (Nat×SE)):Prop:= ∀p∈kn,p.2.den (bT F lo)=p.2.den (bT F' lo)/\∃xs ys,p.2.den (bT F lo)=qY xs/\F p.1 xs=some ys
theorem Uc {F:uU} {lo:Nat->Int} {j:Nat} {z:Int} (h:bT F lo (lD (2*j) z)=1): ∃xs ys,z=qY xs/\F j xs=some ys:=by
 have h1:=Du (2*j) z;unfold bT at h;rw [aIQ (by omega)] at h;split at h
 ·rename_i hp;obtain⟨q1,q2⟩:=zH hp.choose_spec;have q1:hp.choose.1=j:=by omega
  split at h
  ·rename_i hs;obtain⟨ys,hy⟩:=aJ3.1 hs;refine⟨hp.choose.2,ys,q2,?_⟩;generalize hp.choose=q at q1 hy;subst q1;exact hy
  ·omega
 ·split at h
  ·rename_i hp;have:=(zH hp.choose_spec).1;omega
  ·omega
section
variable {F F':uU} {lo:Nat->Int}
theorem iK (hF:Fle F F') {kn:List (Nat×SE)} (hk:Kn F F' lo kn): ∀{e:SE},Ez kn e=true->e.den (bT F lo)=e.den (bT F' lo)
 | .ap f a,h=>by simp only [Ez,aIU] at h;have ha:=iK hF hk h.1;obtain⟨p,hp,hq⟩:=aLm.1 h.2;simp only [aIU] at hq;have h1:=aIW hq.1;have h2:=bZ _ _ hq.2;subst h2;obtain⟨k1,xs,ys,k2,k3⟩:=hk p hp;simp only [SE.den];rw [<- k1,k2,h1,(oU F lo p.1 xs).2,(oU F' lo p.1 xs).2,k3,hF _ _ _ k3]
 | .op o a b,h=>by simp only [Ez,aIU] at h; simp only [SE.den,iK hF hk h.1,iK hF hk h.2]
 | .add a b,h=>by simp only [Ez,aIU] at h; simp only [SE.den,iK hF hk h.1,iK hF hk h.2]
 | .sub a b,h=>by simp only [Ez,aIU] at h; simp only [SE.den,iK hF hk h.1,iK hF hk h.2]
 | .mul a b,h=>by simp only [Ez,aIU] at h; simp only [SE.den,iK hF hk h.1,iK hF hk h.2]
 | .quo a b,h=>by simp only [Ez,aIU] at h; simp only [SE.den,iK hF hk h.1,iK hF hk h.2]
 | .rem a b,h=>by simp only [Ez,aIU] at h; simp only [SE.den,iK hF hk h.1,iK hF hk h.2]
 | .wrap k a,h=>by simp only [Ez] at h; simp only [SE.den,iK hF hk h]
 | .inp _ _,h=>by simp [Ez] at h
 | .lit _,_=>rfl
 | .dat _,_=>rfl
 | .aO i,h=>by have hi:i<900:=aLo (by simpa [Ez,Nat.blt] using h);simp only [SE.den];rw [wM hi,wM hi]
theorem GV (hF:Fle F F') {kn:List (Nat×SE)} (hk:Kn F F' lo kn): ∀{c:SB},okC kn c=true->c.den (bT F lo)=c.den (bT F' lo)
 | .lit _,_=>rfl
 | .lt a b,h=>by simp only [okC,aIU] at h; simp only [SB.den,iK hF hk h.1,iK hF hk h.2]
 | .le a b,h=>by simp only [okC,aIU] at h; simp only [SB.den,iK hF hk h.1,iK hF hk h.2]
 | .eq a b,h=>by simp only [okC,aIU] at h; simp only [SB.den,iK hF hk h.1,iK hF hk h.2]
 | .not a,h=>by simp only [okC] at h; simp only [SB.den,GV hF hk h]
 | .and a b,h=>by simp only [okC,aIU] at h; simp only [SB.den,GV hF hk h.1,GV hF hk h.2]
theorem CB (hF:Fle F F') {kn:List (Nat×SE)} (hk:Kn F F' lo kn): ∀{es:List SE},apF kn es=true->es.map (SE.den (bT F lo))=es.map (SE.den (bT F' lo))
 |[],_=>rfl
 |e::l,h=>by simp only [apF,aIU] at h;simp only [aJd,iK hF hk h.1,CB hF hk h.2]
theorem Kz {c:SB} {p:Nat×SE} (h:callOf c=some p):c= .eq (.ap (2*p.1) p.2) (.lit 1):=by
 cases c with
 |eq x y=>
  cases x with
  |ap f a=>
   cases y with
   |lit n=>
    simp only [callOf] at h;split at h
    ·rename_i hb;simp only [aIS] at h;simp only [aIU] at hb;have h1:=D6 hb.1;have h2:=aIW hb.2;subst h;show SB.eq (.ap f a) (.lit n)= .eq (.ap (2*(f / 2)) a) (.lit 1);rw [show 2*(f / 2)=f by omega,h1]
    ·simp at h
   |_=>simp [callOf] at h
  |_=>simp [callOf] at h
 |_=>simp [callOf] at h
theorem Gq (hF:Fle F F'): ∀{t:T Lf} {kn:List (Nat×SE)},Kn F F' lo kn->Zm kn t=true->dY (bT F lo) t≠.no->dY (bT F' lo) t=dY (bT F lo) t
 | .fail,_,_,_,h=>absurd rfl h
 | .ret (.out es),_,hk,ho,_=>by simp only [Zm] at ho; simp only [dY,CB hF hk ho]
 | .ret (.jump j es),_,hk,ho,_=>by simp only [Zm] at ho; simp only [dY,CB hF hk ho]
 | .split c x y,kn,hk,ho,h=>by
   simp only [Zm] at ho;split at ho
   ·rename_i p hp;simp only [aIU] at ho;obtain⟨⟨h1,h2⟩,h3⟩:=ho;have hc:=Kz hp;subst hc
    have hy:y= .fail:=by cases y<;>simp [aDJ] at h3<;>rfl
    subst hy;have hd:=iK hF hk h1;simp only [dY,SB.den,SE.den] at h ⊢;by_cases h4:bT F lo (lD (2*p.1) (p.2.den (bT F lo)))=1
    ·obtain⟨xs,ys,e1,e2⟩:=Uc h4;have e3:=hF _ _ _ e2
     have h5:bT F' lo (lD (2*p.1) (p.2.den (bT F' lo)))=1:=by rw [<- hd,e1,(oU F' lo p.1 xs).1,e3];rfl
     have c4:(bT F lo (lD (2*p.1) (p.2.den (bT F lo))) == 1)=true:=by rw [h4]; rfl
     have c5:(bT F' lo (lD (2*p.1) (p.2.den (bT F' lo))) == 1)=true:=by rw [h5]; rfl
     simp only [c4,c5,if_true] at h ⊢;refine Gq hF (kn:=p::kn) ?_ h2 h;intro q hq;rcases aI3.1 hq with rfl|hq
     ·exact⟨hd,xs,ys,e1,e2⟩
     ·exact hk q hq
    ·have c4:(bT F lo (lD (2*p.1) (p.2.den (bT F lo))) == 1)=false:=by simpa using h4
     simp only [c4,aI9,if_false] at h;exact absurd rfl h
   ·simp only [aIU] at ho;obtain⟨⟨h1,h2⟩,h3⟩:=ho;have hc:=GV hF hk h1;simp only [dY] at h ⊢;rw [<- hc];by_cases h4:c.den (bT F lo)=true
    ·rw [aIR h4] at h ⊢;rw [aIR h4];exact Gq hF hk h2 h
    ·rw [aIQ h4] at h ⊢;rw [aIQ h4];exact Gq hF hk h3 h
end
section
variable {tree:Nat->T Lf} (hok: ∀j,Zm [] (tree j)=true)
include hok
theorem RV {n:Nat} {F':uU} (hF:Fle (fE tree n) F') {j:Nat} {xs ys:List Int} (h:fE tree (n+1) j xs=some ys) :
 (match dY (bT F' (low xs)) (tree j) with
 | .no=>none
 | .out ys=>some ys
 | .jump j' xs'=>F' j' xs')=some ys:=by
 rw [Gy] at h
 have hne:dY (bT (fE tree n) (low xs)) (tree j)≠.no:=by intro he;rw [he] at h;simp at h
 rw [Gq hF (kn:=[]) (by intro p hp; simp at hp) (hok j) hne];split at h
 ·simp at h
 ·rename_i heq; exact h
 ·rename_i heq; exact hF _ _ _ h
theorem RX: ∀n,Fle (fE tree n) (fE tree (n+1))
 |0=>fun j xs ys h=>by simp [fE] at h
 |n+1=>fun j xs ys h=>by rw [Gy (n:=n+1)];exact RV hok (RX n) h
theorem Gz {n m:Nat} (h:n<=m):Fle (fE tree n) (fE tree m):=by
 induction h with
 |refl=>exact fun _ _ _ h=>h
 |step _ ih=>exact fun j xs ys h=>RX hok _ _ _ _ (ih _ _ _ h)
end
open Classical in
noncomputable def lim' (tree:Nat->T Lf):uU:=fun j xs=>if h: ∃n ys,fE tree n j xs=some ys then some h.choose_spec.choose else none
section
variable {tree:Nat->T Lf} (hok: ∀j,Zm [] (tree j)=true)
include hok
theorem aaS {n j:Nat} {xs ys:List Int} (h:fE tree n j xs=some ys):lim' tree j xs=some ys:=by unfold lim';have he: ∃n ys,fE tree n j xs=some ys:=⟨n,ys,h⟩;rw [dif_pos he];have h2:=he.choose_spec.choose_spec;have h3:=Gz hok (Nat.le_max_left n he.choose) _ _ _ h;have h4:=Gz hok (Nat.le_max_right n he.choose) _ _ _ h2;rw [h3] at h4;exact h4.symm
omit hok in
theorem VD {j:Nat} {xs ys:List Int} (h:lim' tree j xs=some ys): ∃n,fE tree n j xs=some ys:=by
 unfold lim' at h;split at h
 ·rename_i he;simp only [aIS] at h;exact⟨he.choose,by rw [<- h]; exact he.choose_spec.choose_spec⟩
 ·simp at h
theorem Oq (n:Nat):Fle (fE tree n) (lim' tree):=fun _ _ _ h=>aaS hok h
def KnS (tree:Nat->T Lf) (n0:Nat) (lo:Nat->Int) (kn:List (Nat×SE)):Prop:= ∀m,n0<=m->Kn (fE tree m) (lim' tree) lo kn
theorem BQ {lo:Nat->Int}: ∀{t:T Lf} {kn:List (Nat×SE)} (n0:Nat),KnS tree n0 lo kn->Zm kn t=true->dY (bT (lim' tree) lo) t≠.no->∃n,∀m,n<=m->dY (bT (fE tree m) lo) t=dY (bT (lim' tree) lo) t
 | .fail,_,_,_,_,h=>absurd rfl h
 | .ret (.out es),_,n0,hk,ho,_=> ⟨n0,fun m hm=>by simp only [Zm] at ho; simp only [dY,CB (Oq hok m) (hk m hm) ho]⟩
 | .ret (.jump j es),_,n0,hk,ho,_=> ⟨n0,fun m hm=>by simp only [Zm] at ho; simp only [dY,CB (Oq hok m) (hk m hm) ho]⟩
 | .split c x y,kn,n0,hk,ho,h=>by
   simp only [Zm] at ho;split at ho
   ·rename_i p hp;simp only [aIU] at ho;obtain⟨⟨h1,h2⟩,h3⟩:=ho;have hc:=Kz hp;subst hc
    have hy:y= .fail:=by cases y<;>simp [aDJ] at h3<;>rfl
    subst hy;have hd: ∀m,n0<=m->p.2.den (bT (fE tree m) lo)=p.2.den (bT (lim' tree) lo):=fun m hm=>iK (Oq hok m) (hk m hm) h1;simp only [dY,SB.den,SE.den] at h ⊢;by_cases h4:bT (lim' tree) lo (lD (2*p.1) (p.2.den (bT (lim' tree) lo)))=1
    ·have c4:(bT (lim' tree) lo (lD (2*p.1) (p.2.den (bT (lim' tree) lo))) == 1)=true:=by rw [h4]; rfl
     obtain⟨xs,ys,e1,e2⟩:=Uc h4;obtain⟨n1,e3⟩:=VD e2;simp only [c4,if_true] at h ⊢
     have hk2:KnS tree (max n0 n1) lo (p::kn):=by
      intro m hm q hq;rcases aI3.1 hq with rfl|hq
      ·refine⟨hd m (by omega),xs,ys,by rw [hd m (by omega)]; exact e1,Gz hok (show n1<=m by omega) _ _ _ e3⟩
      ·exact hk m (by omega) q hq
     obtain⟨n2,h5⟩:=BQ (max n0 n1) hk2 h2 h;refine⟨max (max n0 n1) n2,fun m hm=>?_⟩
     have c5:(bT (fE tree m) lo (lD (2*p.1) (p.2.den (bT (fE tree m) lo))) == 1)=true:=by rw [hd m (by omega),e1,(oU (fE tree m) lo p.1 xs).1,Gz hok (show n1<=m by omega) _ _ _ e3];rfl
     simp only [c5,if_true];exact h5 m (by omega)
    ·have c4:(bT (lim' tree) lo (lD (2*p.1) (p.2.den (bT (lim' tree) lo))) == 1)=false:=by simpa using h4
     simp only [c4,aI9,if_false] at h;exact absurd rfl h
   ·simp only [aIU] at ho;obtain⟨⟨h1,h2⟩,h3⟩:=ho;have hc: ∀m,n0<=m->c.den (bT (fE tree m) lo)=c.den (bT (lim' tree) lo):=fun m hm=>GV (Oq hok m) (hk m hm) h1;simp only [dY] at h ⊢;by_cases h4:c.den (bT (lim' tree) lo)=true
    ·rw [aIR h4] at h;obtain⟨n2,h5⟩:=BQ n0 hk h2 h;refine⟨max n0 n2,fun m hm=>?_⟩;rw [hc m (by omega),aIR h4,aIR h4];exact h5 m (by omega)
    ·rw [aIQ h4] at h;obtain⟨n2,h5⟩:=BQ n0 hk h3 h;refine⟨max n0 n2,fun m hm=>?_⟩;rw [hc m (by omega),aIQ h4,aIQ h4];exact h5 m (by omega)
noncomputable def fin (F:uU):RS->Option (List Int)
 | .no=>none
 | .out ys=>some ys
 | .jump j xs=>F j xs
theorem aDC (j:Nat) (xs:List Int):lim' tree j xs=fin (lim' tree) (dY (bT (lim' tree) (low xs)) (tree j)):=by
 cases h:lim' tree j xs with
 |some ys=>
  obtain⟨n,hn⟩:=VD h
  cases n with
  |zero=>simp [fE] at hn
  |succ n=> have:=RV hok (Oq hok n) hn;rw [<- this];cases dY (bT (lim' tree) (low xs)) (tree j)<;>rfl
 |none=>
  cases hs:dY (bT (lim' tree) (low xs)) (tree j) with
  |no=>rfl
  |out ys=>
   exfalso;obtain⟨n,hn⟩:=BQ hok (lo:=low xs) (t:=tree j) (kn:=[]) 0 (by intro m _ p hp; simp at hp) (hok j) (by rw [hs]; simp);have:fE tree (n+1) j xs=some ys:=by rw [Gy,hn n (aIV _),hs]
   rw [aaS hok this] at h;simp at h
  |jump j' xs'=>
   show none=lim' tree j' xs'
   cases h2:lim' tree j' xs' with
   |none=>rfl
   |some ys=>
    exfalso;obtain⟨n,hn⟩:=BQ hok (lo:=low xs) (t:=tree j) (kn:=[]) 0 (by intro m _ p hp; simp at hp) (hok j) (by rw [hs]; simp);obtain⟨n2,h3⟩:=VD h2
    have:fE tree (max n n2+1) j xs=some ys:=by rw [Gy,hn _ (Nat.le_max_left _ _),hs];exact Gz hok (Nat.le_max_right n n2) _ _ _ h3
    rw [aaS hok this] at h;simp at h
end
theorem aiA {S:alA} {j:Nat} (h:Bv S.t j=none):Zm [] (S.sys.tree j)=true:=by
 have:S.sys.tree j= .fail:=by unfold Sys.tree;show (match Bv S.t j with |none=>T.fail|some e=>sV S.sys e)=_;rw [h]
 rw [this];rfl
def aqL (j:Nat):List Nat->Bool
 |[]=>false
 |i::l=>match Nat.beq i j with
  |true=>true
  |false=>aqL j l
theorem Ye {j:Nat}: ∀{l:List Nat},aqL j l=true->j∈l
 |[],h=>by simp [aqL] at h
 |i::l,h=>by
  simp only [aqL] at h;split at h
  ·rename_i hb;rw [aIW hb];simp
  ·exact aKA _ (Ye h)
def aCK (t:Nat->Option FE) (N:Nat) (l:List Nat):Bool:=(List.range N).all fun k=>match t k with
 |none=>true
 |some f=>(List.range (f.loops.length+1)).all fun i=>aqL (50*k+i) l
theorem cov {t:Nat->Option FE} {N:Nat} {l:List Nat} (h:aCK t N l=true) (hN: ∀k,N<=k->t k=none) {j:Nat} {e:IV} (he:Bv t j=some e):j∈l:=by
 unfold Bv at he;split at he
 ·simp at he
 ·rename_i f hf
  have hk:j / 50<N:=by
   rcases aJb (j / 50) N with h1|h1
   ·exact h1
   ·rw [hN _ h1] at hf; simp at hf
  have:=aJg.1 h _ (aJL.2 hk);rw [hf] at this
  have hm:j % 50<f.loops.length+1:=by
   split at he
   ·omega
   ·rename_i i hi;split at he
    ·rename_i x hx;rw [dD] at hx;have:=(aJf.1 hx).1;omega
    ·simp at he
  have:=Ye (aJg.1 this _ (aJL.2 hm));rwa [show 50*(j / 50)+j % 50=j by omega] at this
theorem aqA {α:Type} {n:Nat} {t:Tr α} {k:Nat} (h:n<=k):lim n t k=none:=by unfold lim;rw [aKE h]
section
variable {F:uU} {lo:Nat->Int} {ρ:Nat->Int} {xs:List Int}
theorem dP (c:SB) (a b:T Lf):dY ρ (sp c a b)=if c.den ρ=true then dY ρ a else dY ρ b:=rfl
theorem kM (l:List SE):dY ρ (ou l)= .out (l.map (SE.den ρ)):=rfl
theorem pO (j:Nat) (l:List SE):dY ρ (ju j l)= .jump j (l.map (SE.den ρ)):=rfl
theorem zV:dY ρ fl= .no:=rfl
theorem aY {i:Nat} (h:i<900):(SE.aO i).den (bT F lo)=lo i:=wM h
theorem aQ (x:Int):low (x::xs) 0=x:=rfl
theorem aT (x:Int) (i:Nat):low (x::xs) (i+1)=low xs i:=rfl
theorem bU (n:Int):(SE.lit n).den ρ=n:=rfl
theorem jD (d:D):(SE.dat d).den ρ=enc d:=rfl
theorem den_add (a b:SE):(SE.add a b).den ρ=a.den ρ+b.den ρ:=rfl
theorem aAU (a b:SE):(SE.sub a b).den ρ=a.den ρ-b.den ρ:=rfl
theorem Dh (a:SE):(wr a).den ρ=IntKind.i64.wrap (a.den ρ):=rfl
theorem Jy (a:SE):(nm a).den ρ=(dec (a.den ρ)).n:=rfl
theorem Px (a:SE):(mk a).den ρ=enc (.i (a.den ρ)):=rfl
theorem iL (a:SE):(ln a).den ρ=((dec (a.den ρ)).l.length:Int):=rfl
theorem auY (j:Nat) (a:SE):(ce j a).den ρ=enc ((dec (a.den ρ)).hd j):=rfl
theorem Jz (a b:SE):(el a b).den ρ=enc ((dec (a.den ρ)).at (b.den ρ)):=rfl
theorem Py (a b:SE):(cn a b).den ρ=enc (.p (dec (a.den ρ)) (dec (b.den ρ))):=rfl
theorem Pv (o:iZ) (a b:SE):(SE.op o a b).den ρ=o.den (a.den ρ) (b.den ρ):=rfl
theorem iY (j:Nat) (l:List SE):(a0 j l).den (bT F lo)=if (F j (l.map (SE.den (bT F lo)))).isSome=true then 1 else 0:=by unfold a0;show bT F lo (lD (2*j) ((iU l).den (bT F lo)))=_;rw [lX,(oU F lo j _).1]
theorem iE (j:Nat) (l:List SE) (i:Nat):(rr j l i).den (bT F lo)=low ((F j (l.map (SE.den (bT F lo)))).getD []) i:=by unfold rr uZ;show (dec (enc ((dec (bT F lo (lD (2*j+1) ((iU l).den (bT F lo))))).hd i))).n=_;rw [lX,(oU F lo j _).2,aF];simp only [qY,aF,D.hd,aW,aJi];unfold low;rw [aKd];cases ((F j (l.map (SE.den (bT F lo)))).getD [])[i]?<;>rfl
theorem jB (a b:SE):((SB.eq a b).den ρ=true)=(a.den ρ=b.den ρ):=by simp [SB.den]
theorem oW (a b:SE):((SB.lt a b).den ρ=true)=(a.den ρ<b.den ρ):=by simp [SB.den]
theorem NC (a:SB):((SB.not a).den ρ=true)= ¬(a.den ρ=true):=by simp [SB.den]
end
def iW:IntKind->Int->Prop
 | .i64,n=> -9223372036854775808<=n/\n<=9223372036854775807
 | .u8,n=>0<=n/\n<=255
 |_,_=>True
def wZ:Nat->Nat
 |0=>8
 |1=>8
 |2=>16
 |3=>56
 |4=>64
 |5=>64
 |6=>56
 |7=>80
 |8=>64
 |9=>40
 |10=>24
 |11=>24
 |12=>16
 |13=>40
 |14=>1
 |15=>24
 |16=>48
 |_=>1
theorem avR (t:Nat):1<=wZ t:=by unfold wZ;split<;>omega
inductive Wd:CK->D->Prop where
 |int (k:IntKind) (n:Int) (h:iW k n):Wd (.int k) (.i n)
 |bool (b:Bool):Wd .bool (.i (if b then 1 else 0))
 |str (s:ByteArray) (h:s.size<=140737488351232):Wd .str (Bc s)
 |nil (t:Nat):Wd (.sl t) (.i 1)
 |non (t:Nat):Wd (.sl t) (.i 2)
 |one (t:Nat) (c:CK) (ds:List D) (hr:rowOf t= .one c) (hn:ds≠[]) (hm:ds.length*wZ t<=140737488351232) (h: ∀d∈ds,Wd c d):Wd (.sl t) (dL ds)
 |many (t:Nat) (cs:List CK) (rows:List (List D)) (hr:rowOf t= .many cs) (hn:rows≠[]) (hm:rows.length*wZ t<=140737488351232) (hl: ∀r∈rows,r.length=cs.length)
  (h: ∀r∈rows,∀(j:Nat) (d:D) (c:CK),r[j]?=some d->cs[j]?=some c->Wd c d):Wd (.sl t) (dL (rows.map dL))
def Sh (d:D):Prop:=d= .i 1\/d= .i 2\/(d=dL d.l/\d.l≠[])
theorem Wd.sh {t:Nat} {d:D} (h:Wd (.sl t) d):Sh d:=by
 cases h with
 |nil=>exact .inl rfl
 |non=>exact .inr (.inl rfl)
 |one _ c ds hr hn hm h=>exact .inr (.inr ⟨by rw [aW],by rw [aW]; exact hn⟩)
 |many _ cs rows hr hn hm hl h=>exact .inr (.inr ⟨by rw [aW],by rw [aW]; simpa using hn⟩)
theorem Wd.i {k:IntKind} {d:D} (h:Wd (.int k) d): ∃n,d= .i n/\iW k n:=by
 cases h with
 |int _ n h=>exact⟨n,rfl,h⟩
theorem Wd.b {d:D} (h:Wd .bool d):d= .i 0\/d= .i 1:=by
 cases h with
 |bool b=>cases b<;>simp
theorem Wd.s {d:D} (h:Wd .str d): ∃s,d=Bc s:=by
 cases h with
 |str s=>exact⟨s,rfl⟩
theorem Wd.room {t:Nat} {d:D} (h:Wd (.sl t) d):d.l.length*wZ t<=140737488351232:=by
 cases h with
 |nil=>simp [D.l]
 |non=>simp [D.l]
 |one _ c ds hr hn hm h=>rw [aW]; exact hm
 |many _ cs rows hr hn hm hl h=>rw [aW,aJD]; exact hm
theorem Wd.len {t:Nat} {d:D} (h:Wd (.sl t) d):d.l.length<=140737488351232:=
 aJr (Nat.le_mul_of_pos_right _ (avR t)) h.room
theorem Wd.el1 {t:Nat} {c:CK} {d:D} (h:Wd (.sl t) d) (hr:rowOf t= .one c): ∀x∈d.l,Wd c x:=by
 cases h with
 |nil=>intro x hx; simp [D.l] at hx
 |non=>intro x hx; simp [D.l] at hx
 |one _ c' ds hr' hn hm h=> rw [hr] at hr';simp only [Row.one.injEq] at hr';subst hr';intro x hx;rw [aW] at hx;exact h x hx
 |many _ cs rows hr' hn hm hl h=>rw [hr] at hr'; simp at hr'
theorem Wd.elN {t:Nat} {cs:List CK} {d:D} (h:Wd (.sl t) d) (hr:rowOf t= .many cs): ∀x∈d.l,∃r,x=dL r/\r.length=cs.length/\∀(j:Nat) (y:D) (c:CK),r[j]?=some y->cs[j]?=some c->Wd c y:=by
 cases h with
 |nil=>intro x hx; simp [D.l] at hx
 |non=>intro x hx; simp [D.l] at hx
 |one _ c' ds hr' hn hm h=>rw [hr] at hr'; simp at hr'
 |many _ cs' rows hr' hn hm hl h=> rw [hr] at hr';simp only [Row.many.injEq] at hr';subst hr';intro x hx;rw [aW] at hx;obtain⟨r,h1,rfl⟩:=aJh.1 hx;exact⟨r,rfl,hl r h1,fun j y c h2 h3=>h r h1 j y c h2 h3⟩
def isDecl (x:D):Prop:= ∃(k n ln:Int) (s s':ByteArray),x=dL [.i k,Bc s,.i n,Bc s',.i ln]/\iW .u8 k/\iW .i64 n/\iW .i64 ln
def D5 (x:D):Prop:= ∃(o c d g:Int) (r v:D),x=dL [.i o,.i c,.i d,.i g,r,v]/\iW .i64 o/\iW .i64 c/\(d=0\/d=1)/\iW .i64 g/\Wd (.sl 0) r/\Wd (.sl 0) v
theorem five {α:Type} {r:List α} (h:r.length=5): ∃a b c d e,r= [a,b,c,d,e]:=by
 match r,h with
 |[a,b,c,d,e],_=>exact⟨a,b,c,d,e,rfl⟩
theorem six {α:Type} {r:List α} (h:r.length=6): ∃a b c d e f,r= [a,b,c,d,e,f]:=by
 match r,h with
 |[a,b,c,d,e,f],_=>exact⟨a,b,c,d,e,f,rfl⟩
theorem Wd.decl {d:D} (h:Wd (.sl 3) d): ∀x∈d.l,isDecl x:=by intro x hx;obtain⟨r,rfl,hl,hc⟩:=h.elN (cs:=[.int .u8,.str,.int .i64,.str,.int .i64]) rfl x hx;obtain⟨a,b,c,d,e,rfl⟩:=five hl;obtain⟨k,rfl,hk⟩:=(hc 0 _ _ rfl rfl).i;obtain⟨s,rfl⟩:=(hc 1 _ _ rfl rfl).s;obtain⟨n,rfl,hn⟩:=(hc 2 _ _ rfl rfl).i;obtain⟨s',rfl⟩:=(hc 3 _ _ rfl rfl).s;obtain⟨ln,rfl,hln⟩:=(hc 4 _ _ rfl rfl).i;exact⟨k,n,ln,s,s',rfl,hk,hn,hln⟩
theorem Wd.thing {d:D} (h:Wd (.sl 7) d): ∀x∈d.l,D5 x:=by
 intro x hx;obtain⟨r,rfl,hl,hc⟩:=h.elN (cs:=[.int .i64,.int .i64,.bool,.int .i64,.sl 0,.sl 0]) rfl x hx;obtain⟨a,b,c,d,e,f,rfl⟩:=six hl;obtain⟨o,rfl,ho⟩:=(hc 0 _ _ rfl rfl).i;obtain⟨k,rfl,hk⟩:=(hc 1 _ _ rfl rfl).i;obtain⟨g,rfl,hg⟩:=(hc 3 _ _ rfl rfl).i;rcases (hc 2 _ _ rfl rfl).b with rfl|rfl
 ·exact⟨o,k,0,g,e,f,rfl,ho,hk,.inl rfl,hg,hc 4 _ _ rfl rfl,hc 5 _ _ rfl rfl⟩
 ·exact⟨o,k,1,g,e,f,rfl,ho,hk,.inr rfl,hg,hc 4 _ _ rfl rfl,hc 5 _ _ rfl rfl⟩
theorem lW {z:Int} (h1: -9223372036854775808<=z) (h2:z<=9223372036854775807):IntKind.i64.wrap z=z:=IntWalk.i64_in z ⟨h1,h2⟩
theorem aZ {n:Nat} (h:n<9223372036854775807):IntKind.i64.wrap ((n:Int)+1)=((n+1:Nat):Int):=by rw [lW (by omega) (by omega)]; omega
theorem n_i (n:Int):(D.i n).n=n:=rfl
theorem l_p (a b:D):(D.p a b).l=a::b.l:=rfl
theorem wY (n:Int):(D.i n).l= []:=rfl
theorem eP (l:List D) (j:Nat):(dL l).hd j=(l[j]?).getD (.i 0):=by unfold D.hd; rw [aW]
theorem lJ (d:D) (i:Nat):d.at (i:Int)=(d.l[i]?).getD (.i 0):=rfl
theorem aX {d:D} {i:Nat} (h:i<d.l.length):d.at (i:Int)=d.l[i]:=by rw [lJ,aI6 h];rfl
end Go.As
end
section
namespace Go.As
open Go Go.RowKit
theorem add_add (a:Addr) (m n:Nat):(a.add m).add n=a.add (m+n):=by
 unfold Addr.add;by_cases h1:m=0
 ·subst h1; simp
 ·by_cases h2:n=0
  ·subst h2; simp
  ·simp [h1,h2,aJs]
def oZ (i:Nat):List CK:=match rowOf i with
 | .one c=>[c]
 | .many cs=>cs
def OQ (F:TypeId->Option (List CK)) (P:Program):List Field->Nat->Nat->Option (List CK)
 |[],o,tot=>if o=tot then some [] else none
 |f::fs,o,tot=>match F f.type with
  |none=>none
  |some cs=>if f.offset=o/\P.cellsOf f.type=cs.length then (match OQ F P fs (o+cs.length) tot with
   |none=>none
   |some l=>some (cs++l)) else none
def zC (P:Program) (own:TypeId->Option Nat):Nat->TypeId->Option (List CK)
 |0,_=>none
 |n+1,t=>match P.underlying t with
  |some .bool=>some [.bool]
  |some (.int k)=>some [.int k]
  |some .string=>some [.str]
  |some (.slice _)=>match own t with
   |some i=>some [.sl i]
   |none=>none
  |some (.struct fs)=>OQ (zC P own n) P fs.toList 0 (P.cellsOf t)
  |some (.array m e)=>match zC P own n e with
   |some cs=>if P.cellsOf e=cs.length/\P.cellsOf t=m*cs.length then some (List.replicate m cs).flatten else none
   |none=>none
  |_=>none
def awN (P:Program) (own:TypeId->Option Nat):Prop:= ∀t i,own t=some i->∃e n,P.underlying t=some (.slice e)/\zC P own n e=some (oZ i)/\P.cellsOf e=(oZ i).length/\wZ i<=P.bytesOf e/\0<(oZ i).length
inductive Rs (ro:Nat->Prop) (h:Array Obj):List CK->List D->List Value->Prop where
 |nil:Rs ro h [] [] []
 |cons {c:CK} {d:D} {v:Value} {cs:List CK} {ds:List D} {vs:List Value} (r:Rd ro h c d v) (w:Wd c d) (t:Rs ro h cs ds vs):Rs ro h (c::cs) (d::ds) (v::vs)
section
variable {ro:Nat->Prop} {h:Array Obj}
theorem Rs.append {cs cs':List CK} {ds ds':List D} {vs vs':List Value} (a:Rs ro h cs ds vs) (b:Rs ro h cs' ds' vs'):Rs ro h (cs++cs') (ds++ds') (vs++vs'):=by
 induction a with
 |nil=>exact b
 |cons r w _ ih=>exact .cons r w ih
theorem Rs.len {cs:List CK} {ds:List D} {vs:List Value} (a:Rs ro h cs ds vs):ds.length=cs.length/\vs.length=cs.length:=by
 induction a with
 |nil=>exact⟨rfl,rfl⟩
 |cons r w _ ih=>exact⟨by simp [ih.1],by simp [ih.2]⟩
theorem Rs.at {cs:List CK} {ds:List D} {vs:List Value} (a:Rs ro h cs ds vs): ∀{j:Nat} {d:D} {c:CK},ds[j]?=some d->cs[j]?=some c->∃v,vs[j]?=some v/\Rd ro h c d v/\Wd c d:=by
 induction a with
 |nil=>intro j d c h1 _; simp at h1
 |cons r w _ ih=>
  intro j d c h1 h2
  cases j with
  |zero=> simp only [aI0,aIS] at h1 h2;subst h1 h2;exact⟨_,rfl,r,w⟩
  |succ j=> simp only [aIX] at h1 h2;obtain⟨v,h3,h4⟩:=ih h1 h2;exact⟨v,by simpa using h3,h4⟩
end
theorem aA5 {l:List Nat} {m:Nat} (h:l.all (·<=m)=true): ∀x∈l,x<=m:=fun x hx=>by simpa using aJg.1 h x hx
theorem aaJ {l:List Nat} {m:Nat} (h: ∀x∈l,x<=m):l.all (·<=m)=true:=aJg.2 fun x hx=>by simpa using h x hx
theorem aA4 {l l':List Nat} {m:Nat} (h:l.all (·<=m)=true) (s: ∀x∈l',x∈l):l'.all (·<=m)=true:=aaJ fun x hx=>aA5 h x (s x hx)
theorem weightsAll_mem {H:Type} {P:Program} {e:TypeId}: ∀{l:List (DataW H)} {d:DataW H},d∈l->∀x∈d.weights P e,x∈DataW.weightsAll P e l
 |[],_,h,_,_=>by simp at h
 |d'::l,d,h,x,hx=>by
  simp only [DataW.weightsAll,aJE];rcases aI3.1 h with rfl|h
  ·exact .inl hx
  ·exact .inr (weightsAll_mem h x hx)
section
variable {P:Program} {own:TypeId->Option Nat} (ok:awN P own) {H:Type} {en:TypeId×Value->H} {W:World}
abbrev roW (W:World):Nat->Prop:=fun b=>b<W.heap.size
theorem ahP {b o:Nat} {v:Value} (h:W.cell? ⟨b,o,none⟩ = some v):b<W.heap.size:=by
 rw [uN] at h;unfold hcell at h;split at h
 ·rename_i hb;exact (aJn.1 hb).1
 ·simp at h
def Reads (P:Program) (own:TypeId->Option Nat) (en:TypeId×Value->H) (W:World) (fuel:Nat):Prop:=
 ∀(t:TypeId) (n:Nat) (QV:List CK) (cs:List Value) (x:DataW H×List MemPlace),zC P own n t=some QV->DataW.trod en P W 0 (fun _=>true) true fuel t cs=some x->(x.1.weights P t).all (·<=reachBytes)=true->∃ds,Rs (roW W) W.heap QV ds cs
theorem JY {fuel:Nat} (ih:Reads P own en W fuel) {n:Nat} {cs:List Value} {tot:Nat} (hl:cs.length=tot): ∀(fs:List Field) (o:Nat) (QV:List CK) (xs:List (DataW H×List MemPlace)),OQ (zC P own n) P fs o tot=some QV->xs.length=fs.length->
 (∀(i:Nat) (f:Field),fs[i]?=some f->DataW.trod en P W 0 (fun _=>true) true fuel f.type ((cs.drop f.offset).take (P.cellsOf f.type))=xs[i]?)->
 (DataW.weightsEach P (fs.map (·.type)) (xs.map (·.1))).all (·<=reachBytes)=true->∃ds,Rs (roW W) W.heap QV ds (cs.drop o)
 |[],o,QV,xs,hf,_,_,_=>by
  simp only [OQ] at hf;split at hf
  ·rename_i ho;simp only [aIS] at hf;subst hf;rw [aJJ (by omega)];exact⟨[],.nil⟩
  ·simp at hf
 |f::fs,o,QV,[],_,hx,_,_=>by simp at hx
 |f::fs,o,QV,x::xs,hf,hx,ht,hw=>by
  simp only [OQ] at hf;split at hf
  ·simp at hf
  ·rename_i c1 h1;split at hf
   ·rename_i ho;split at hf
    ·simp at hf
    ·rename_i l hl2;simp only [aIS] at hf;subst hf;have h0:=ht 0 f rfl;rw [ho.1,ho.2] at h0;simp only [aJd,DataW.weightsEach,aKV,aIU] at hw;obtain⟨ds,r1⟩:=ih f.type n c1 _ x h1 h0 hw.1;obtain⟨ds',r2⟩:=JY ih hl fs (o+c1.length) l xs hl2 (by simpa using hx) (fun i g hg=>ht (i+1) g (by simpa using hg)) hw.2;refine⟨ds++ds',?_⟩
     have e:cs.drop o=(cs.drop o).take c1.length++cs.drop (o+c1.length):=by rw [<- aLi,aJ2]
     rw [e];exact r1.append r2
   ·simp at hf
include ok in
theorem XG {fuel:Nat} (ih:Reads P own en W fuel) {t e:TypeId} {i:Nat} (ht:P.underlying t=some (.slice e)) (ho:own t=some i) {cs:List Value} {x:DataW H×List MemPlace} (hx:DataW.trod en P W 0 (fun _=>true) true (fuel+1) t cs=some x) (hw:(x.1.weights P t).all (·<=reachBytes)=true) :
 ∃d v,cs= [v]/\Rd (roW W) W.heap (.sl i) d v/\Wd (.sl i) d:=by
 obtain⟨e',nf,ht',hfl,hce,hby,hpos⟩:=ok t i ho;rw [ht] at ht';simp only [aIS,TypeDesc.slice.injEq] at ht';subst ht';rcases DataW.trod_slice ht hx with ⟨rfl,rfl⟩|⟨a,len,cap,elems,rest,n,hn,rfl,rfl,_,hlc,_,hlen,hel,_,_⟩
 ·exact⟨.i 1,_,rfl,.nil i,.nil i⟩
 ·simp only [Nat.succ.injEq] at hn;subst hn;rcases aKa len with h0|h0
  ·subst h0;exact⟨.i 2,_,rfl,.non i a cap,.non i⟩
  ·simp only [DataW.weights,ht,List.all_cons,aKV,aIU,decide_eq_true_eq,aJD] at hw
   have row: ∀k,k<len->∃cs ds,W.cells? 0 (a.add (k*(oZ i).length)) (oZ i).length=some cs/\Rs (roW W) W.heap (oZ i) ds cs:=by intro k hk;have he:=hel k hk;rw [aI6 (by omega),hce,aKJ] at he;obtain⟨cs,h1,h2⟩:=he;obtain⟨ds,hr⟩:=ih e nf (oZ i) cs _ hfl h2 (aA4 hw.2.1 (weightsAll_mem (List.mem_map_of_mem (aIZ _))));exact⟨cs,ds,h1,hr⟩
   obtain⟨b,o,spot⟩:=a
   have hspot:spot=none:=by obtain⟨cs,ds,h1,hr⟩:=row 0 h0;obtain⟨_,h4,h5⟩:=World.cells?_some h1;have:=h5 0 hpos;rw [aI6 (by omega)] at this;simpa [Addr.add] using World.cell?_spot this
   subst hspot
   have cell: ∀k,k<len->∃ds vs,Rs (roW W) W.heap (oZ i) ds vs/\∀j,j<(oZ i).length->hcell W.heap b (o+k*(oZ i).length+j)=vs[j]?:=by
    intro k hk;obtain⟨cs,ds,h1,hr⟩:=row k hk;obtain⟨_,h4,h5⟩:=World.cells?_some h1;refine⟨ds,cs,hr,fun j hj=>?_⟩;have:=h5 j hj;rw [add_add] at this;have e2:(Addr.mk b o none).add (k*(oZ i).length+j)=⟨b,o+k*(oZ i).length+j,none⟩:=by simp [Addr.add,aJs]
    rw [e2,uN] at this;exact this
   have hb:b<W.heap.size:=by obtain⟨ds,vs,hr,hc⟩:=cell 0 h0;have:=hc 0 hpos;rw [aI6 (by rw [hr.len.2]; exact hpos),<- uN] at this;exact ahP this
   have aBR:len*wZ i<=140737488351232:=by
    have h1:(elems.length+rest.length)*P.bytesOf e<=reachBytes:=hw.1
    have h2:len*wZ i<=(elems.length+rest.length)*P.bytesOf e:=aK7 (by omega) hby
    have h3:reachBytes=140737488351232:=rfl;omega
   classical
   let ds:Nat->List D:=fun k=>if h:k<len then (cell k h).choose else [];let vs:Nat->List Value:=fun k=>if h:k<len then (cell k h).choose_spec.choose else []
   have spec: ∀k,k<len->Rs (roW W) W.heap (oZ i) (ds k) (vs k)/\∀j,j<(oZ i).length->hcell W.heap b (o+k*(oZ i).length+j)=(vs k)[j]?:=by intro k hk;have e1:ds k=(cell k hk).choose:=dif_pos hk;have e2:vs k=(cell k hk).choose_spec.choose:=dif_pos hk;rw [e1,e2];exact (cell k hk).choose_spec.choose_spec
   have get: ∀{k:Nat} {r:List D},((List.range len).map ds)[k]?=some r->k<len/\r=ds k:=by
    intro k r hk;rw [aJi] at hk
    have hk':k<len:=by
     rcases aJb k len with h|h
     ·exact h
     ·rw [aJH (by simpa using h)] at hk; simp at hk
    rw [aKc hk'] at hk;simp only [aJw,aIS] at hk;exact⟨hk',hk.symm⟩
   cases hrow:rowOf i with
   |one c=>
    have hks:oZ i= [c]:=by unfold oZ; rw [hrow]
    have aGz: ∀{k:Nat} {d:D},((List.range len).map fun k=>(ds k).headD (.i 0))[k]?=some d->k<len/\d=(ds k).headD (.i 0):=by
     intro k d hk;rw [aJi] at hk
     have hk':k<len:=by
      rcases aJb k len with h|h
      ·exact h
      ·rw [aJH (by simpa using h)] at hk; simp at hk
     rw [aKc hk'] at hk;simp only [aJw,aIS] at hk;exact⟨hk',hk.symm⟩
    have sp1: ∀k,k<len->∃d v,ds k= [d]/\hcell W.heap b (o+k)=some v/\Rd (roW W) W.heap c d v/\Wd c d:=by
     intro k hk;obtain⟨hr,hc⟩:=spec k hk;rw [hks] at hr hc
     match hdk:ds k,hvk:vs k,hr with
     |[d],[v],.cons r w .nil=> have:=hc 0 (by simp);rw [hvk] at this;exact⟨d,v,rfl,by simpa using this,r,w⟩
    have e:len=((List.range len).map fun k=>(ds k).headD (.i 0)).length:=by simp
    have r:=Rd.one (ro:=roW W) (h:=W.heap) i c b o cap ((List.range len).map fun k=>(ds k).headD (.i 0)) (fun k=>(vs k).headD undef) hrow (by rw [<- e]; exact hlc) hb
     (fun k d hd=>by
      obtain⟨hk,rfl⟩:=aGz hd;obtain⟨hr,hc⟩:=spec k hk;rw [hks] at hr hc;have:=hc 0 (by simp)
      match hdk:ds k,hvk:vs k,hr with
      |[d],[v],.cons r w .nil=>
       rw [hvk] at this
       simpa using this)
     (fun k d hd=>by
      obtain⟨hk,rfl⟩:=aGz hd;obtain⟨hr,hc⟩:=spec k hk;rw [hks] at hr
      match hdk:ds k,hvk:vs k,hr with
      |[d],[v],.cons r w .nil=>exact r)
    rw [<- e] at r;refine⟨_,_,rfl,r,.one i c _ hrow (fun h=>by have:=congrArg List.length h; simp at this; omega) (by rw [<- e]; exact aBR) fun d hd=>?_⟩;obtain⟨k,hk,rfl⟩:=aJh.1 hd;obtain⟨d,v,h1,_,_,w⟩:=sp1 k (by simpa using hk);rw [h1];exact w
   |many QV=>
    have hks:oZ i=QV:=by unfold oZ; rw [hrow]
    have e:len=((List.range len).map ds).length:=by simp
    have hlr: ∀r∈(List.range len).map ds,r.length=QV.length:=by intro r hr;obtain⟨k,hk,rfl⟩:=aJh.1 hr;have:=(spec k (by simpa using hk)).1.len.1;rw [hks] at this;exact this
    have r:=Rd.many (ro:=roW W) (h:=W.heap) i QV b o cap ((List.range len).map ds) (fun k j=>((vs k)[j]?).getD undef) hrow (by rw [<- e]; exact hlc) hb hlr
     (fun k r j d hr hj=>by
      obtain⟨hk,rfl⟩:=get hr;obtain⟨hrs,hc⟩:=spec k hk;rw [hks] at hrs hc
      have hj':j<QV.length:=by have:=(aJf.1 hj).1;rw [hrs.len.1] at this;exact this
      rw [hc j hj',aI6 (by rw [hrs.len.2]; exact hj')]
      rfl)
     (fun k r j d c hr hj hcj=>by
      obtain⟨hk,rfl⟩:=get hr;obtain⟨hrs,hc⟩:=spec k hk;rw [hks] at hrs;obtain⟨v,h1,h2,_⟩:=hrs.at hj hcj;show Rd (roW W) W.heap c d (((vs k)[j]?).getD undef);rw [h1]
      exact h2)
    rw [<- e] at r;refine⟨_,_,rfl,r,.many i QV _ hrow (fun h=>by have:=congrArg List.length h; simp at this; omega) (by rw [<- e]; exact aBR) hlr fun r hr j d c hj hcj=>?_⟩;obtain⟨k,hk,rfl⟩:=aJh.1 hr;have hrs:=(spec k (by simpa using hk)).1;rw [hks] at hrs;obtain⟨v,_,_,h3⟩:=hrs.at hj hcj;exact h3
theorem NR {fuel:Nat} (ih:Reads P own en W fuel) {n:Nat} {cs:List Value} {e:TypeId} {c1:List CK} (h1:zC P own n e=some c1): ∀(xs:List (DataW H×List MemPlace)) (i:Nat),cs.length=(i+xs.length)*c1.length->
 (∀(j:Nat),j<xs.length->DataW.trod en P W 0 (fun _=>true) true fuel e ((cs.drop ((i+j)*c1.length)).take c1.length)=xs[j]?)->
 (DataW.weightsAll P e (xs.map (·.1))).all (·<=reachBytes)=true->∃ds,Rs (roW W) W.heap (List.replicate xs.length c1).flatten ds (cs.drop (i*c1.length))
 |[],i,hl,_,_=>by rw [aJJ (by rw [hl]; simp)];exact⟨[],.nil⟩
 |x::xs,i,hl,ht,hw=>by
  have h0:=ht 0 (by simp);rw [aJj] at h0;simp only [aJd,DataW.weightsAll,aKV,aIU] at hw;obtain⟨ds,r1⟩:=ih e n c1 _ x h1 h0 hw.1
  obtain⟨ds',r2⟩:=NR ih h1 xs (i+1) (by rw [hl,aI5]; congr 1; omega) (fun j hj=>by
   have:=ht (j+1) (by simpa using hj);rw [show i+1+j=i+(j+1) by omega]
   simpa using this) hw.2
  refine⟨ds++ds',?_⟩
  have e1:cs.drop (i*c1.length)=(cs.drop (i*c1.length)).take c1.length++cs.drop ((i+1)*c1.length):=by rw [Nat.succ_mul,<- aLi,aJ2]
  rw [e1,aI5,aLj,List.flatten_cons];exact r1.append r2
include ok in
theorem Vf: ∀fuel:Nat,Reads P own en W fuel
 |0=>fun t n QV cs x _ hx _=>by simp [DataW.trod] at hx
 |fuel+1=>fun t n QV cs x hf hx hw=>by
  cases n with
  |zero=>simp [zC] at hf
  |succ n=>
   unfold zC at hf;split at hf
   ·rename_i ht;simp only [aIS] at hf;subst hf;obtain⟨b,rfl,_⟩:=DataW.trod_bool ht hx;exact⟨_,.cons (.bool b) (.bool b) .nil⟩
   ·rename_i k ht;simp only [aIS] at hf;subst hf;obtain⟨z,rfl,_,hwf⟩:=DataW.trod_int ht hx;refine⟨_,.cons (.int k z) (.int k z ?_) .nil⟩;simp only [Lit.wf,aIU,decide_eq_true_eq] at hwf;cases k<;>first |exact hwf|trivial
   ·rename_i ht;simp only [aIS] at hf;subst hf;obtain⟨s,rfl,rfl,_⟩:=DataW.trod_string ht hx;refine⟨_,.cons (.str s) (.str s ?_) .nil⟩;simp only [DataW.weights,List.all_cons,List.all_nil,Bool.and_true,decide_eq_true_eq] at hw;exact hw
   ·rename_i e ht;split at hf
    ·rename_i i ho;simp only [aIS] at hf;subst hf;obtain⟨d,v,rfl,r,w⟩:=XG ok (Vf fuel) ht ho hx hw;exact⟨_,.cons r w .nil⟩
    ·simp at hf
   ·rename_i fs ht;obtain⟨xs,m,hm,rfl,hl,hxl,hxs⟩:=DataW.trod_struct ht hx;simp only [Nat.succ.injEq] at hm;subst hm
    have hw':(DataW.weightsEach P (fs.toList.map (·.type)) (xs.map (·.1))).all (·<=reachBytes)=true:=by simp only [DataW.weights,ht] at hw;exact hw
    have:=JY (Vf fuel) hl fs.toList 0 QV xs hf (by simpa using hxl) (fun i f hi=>hxs i f (by simpa using hi)) hw';simpa using this
   ·rename_i m e ht;split at hf
    ·rename_i c1 h1;split at hf
     ·rename_i hce;simp only [aIS] at hf;subst hf;obtain⟨xs,m',hm,rfl,hl,hxl,hxs⟩:=DataW.trod_array ht hx;simp only [Nat.succ.injEq] at hm;subst hm;subst hxl
      have hw':(DataW.weightsAll P e (xs.map (·.1))).all (·<=reachBytes)=true:=by simp only [DataW.weights,ht] at hw;exact hw
      rw [hce.2] at hl
      have:=NR (Vf fuel) h1 xs 0 (by rw [hl,aI2]) (fun j hj=>by
       rw [aI2];have:=hxs j hj;rw [hce.1] at this
       exact this) hw'
      simpa using this
     ·simp at hf
    ·simp at hf
   ·simp at hf
end
theorem Vq {P:Program} {w:World} {r:Reach} {base:Nat} {t:TypeId} {v:Value} {n:Nat} {e:TypeId} (ht:P.underlying t=some (.array n e)) (h:Value.okWide P w r base t v): ∃cs,v= .agg cs/\cs.size=P.cellsOf t:=by simp only [Value.okWide,ht] at h;obtain⟨cs,h1,h2,_⟩:=h;exact⟨cs,h1,h2⟩
end Go.As
end
section
namespace Go.As.Try
open Go hiding Stat
open Go.As Go.Proofs
set_option maxRecDepth 100000
abbrev nO {α:Type} (l r:Tr α):Tr α:=.node none l r
abbrev nS {α:Type} (v:α) (l r:Tr α):Tr α:=.node (some v) l r
abbrev nL {α:Type} (v:α):Tr α:=.node (some v) .nil .nil
abbrev hP (m n:Nat) (l:List Nat):KO:=⟨m,.pa,n,l⟩
abbrev hR (m n:Nat) (l:List Nat):KO:=⟨m,.r,n,l⟩
abbrev hE (m n:Nat) (l:List Nat):KO:=⟨m,.e,n,l⟩
abbrev tF:TI:=⟨.func,1,8,[.CJ],false,none⟩
abbrev zI:AV:=.int .i64 (.lit 0)
abbrev zU:AV:=.int .u8 (.lit 0)
def tab:Tr TI:=(nO (nS tF (nS ⟨.int .i64,1,8,[zI],false,none⟩ (nS ⟨.struct [(0,2,1),(1,3,1),(2,4,1),(3,6,1)],4,24,[zI,zI,.bool (.lit false),zU],true,none⟩ (nS ⟨.pointer 270,1,8,[.kX],false,none⟩ (nS tF (nO (nL tF) (nL tF)) (nS tF (nL tF) (nL ⟨.pointer 171,1,8,[.kX],false,none⟩))) (nS tF (nO (nS ⟨.struct [(0,3,1),(1,2,1),(2,4,1),(3,2,1),(4,27,1),(5,26,1)],6,80,[zI,zI,.bool (.lit false),zI,.aA,.aA],false,none⟩ (nL ⟨.array 0 16,0,0,[],false,none⟩) .nil) (nL tF)) (nS ⟨.int .u8,1,1,[zU],false,none⟩ (nL tF) (nL tF)))) (nS ⟨.slice 52,1,24,[.aA],false,none⟩ (nS ⟨.int .i64,1,8,[zI],false,none⟩ (nS tF (nS ⟨.pointer 137,1,8,[.kX],false,none⟩ (nL tF) .nil) (nL ⟨.struct [(0,3,1),(1,149,1),(2,2,1),(3,33,1),(4,75,4)],8,80,[zI,.kX,zI,.aA,zU,zI,zI,zI],false,none⟩)) (nS tF (nL tF) (nL ⟨.array 2 123,2,48,[.aA,.aA],false,none⟩))) (nS ⟨.slice 60,1,24,[.aA],false,none⟩ (nS ⟨.struct [(0,39,1),(1,3,1)],2,16,[zI,zI],true,none⟩ (nS ⟨.pointer 100,1,8,[.kX],false,none⟩ (nL ⟨.int .i32,1,4,[.int .i32 (.lit (0))],false,none⟩) .nil) (nL ⟨.pointer 212,1,8,[.kX],false,none⟩)) (nS ⟨.int .u8,1,1,[zU],false,none⟩ (nL tF) (nL tF))))) (nS ⟨.string,1,16,[.str []],false,none⟩ (nS ⟨.struct [(0,17,1)],1,8,[.kX],false,none⟩ (nS ⟨.struct [(0,33,1),(1,34,1)],2,48,[.aA,.aA],false,none⟩ (nS ⟨.int .u8,1,1,[zU],false,none⟩ (nS ⟨.struct [(0,3,1),(1,4,1),(2,4,1)],3,16,[zI,.bool (.lit false),.bool (.lit false)],true,none⟩ (nL tF) .nil) (nL ⟨.map 3 3,1,8,[.qH],false,none⟩)) (nS ⟨.struct [(0,3,1),(1,26,1),(2,54,1),(3,3,1),(4,2,1),(5,2,1)],6,64,[zI,.aA,zU,zI,zI,zI],false,none⟩ (nL tF) (nL tF))) (nS ⟨.struct [(0,9,1),(1,49,1),(2,50,1)],3,64,[.str [],.aA,.aA],false,none⟩ (nS ⟨.slice 125,1,24,[.aA],false,none⟩ (nS tF (nL ⟨.int .u8,1,1,[zU],false,none⟩) .nil) (nL ⟨.struct [(0,3,1),(1,3,1)],2,16,[zI,zI],true,none⟩)) (nS ⟨.struct [(0,9,1),(1,113,6),(7,87,2),(9,3,1)],10,96,[.str [],zU,.str [],zI,zI,zI,zI,zI,zI,zI],false,none⟩ (nL ⟨.struct [(0,177,1),(1,134,1)],2,16,[.qH,.qH],false,none⟩) (nL ⟨.slice 5,1,24,[.aA],false,none⟩)))) (nS ⟨.slice 3,1,24,[.aA],false,none⟩ (nS tF (nS ⟨.struct [(0,54,1),(1,3,1),(2,2,1),(3,2,1)],4,32,[zU,zI,zI,zI],true,none⟩ (nS tF (nL ⟨.array 32 5,32,32,(repeatL [zU] 32),false,none⟩) .nil) (nL ⟨.map 54 201,1,8,[.qH],false,none⟩)) (nS tF (nL ⟨.struct [(0,169,1),(1,54,1),(2,9,1),(3,9,1),(4,2,1),(5,55,1),(6,123,1),(7,123,1),(8,3,1)],9,128,[zU,zU,.str [],.str [],zI,.aA,.aA,.aA,zI],false,none⟩) (nL ⟨.map 9 2,1,8,[.qH],false,none⟩))) (nS ⟨.struct [(0,58,1),(1,9,1),(2,2,1),(3,55,1)],4,56,[zU,.str [],zI,.aA],false,none⟩ (nS tF (nL tF) (nL tF)) (nS ⟨.slice 171,1,24,[.aA],false,none⟩ (nL tF) (nL ⟨.array 24 5,24,24,(repeatL [zU] 24),false,none⟩)))))) (nS ⟨.int .u8,1,1,[zU],false,none⟩ (nS ⟨.string,1,16,[.str []],false,none⟩ (nS ⟨.pointer 281,1,8,[.kX],false,none⟩ (nS ⟨.slice 143,1,24,[.aA],false,none⟩ (nS ⟨.struct [(0,3,1),(1,54,1),(2,3,1),(3,2,1),(4,2,1)],5,40,[zI,zU,zI,zI,zI],true,none⟩ (nS ⟨.pointer 131,1,8,[.kX],false,none⟩ (nL tF) .nil) .nil) (nS tF .nil (nL tF))) (nS ⟨.slice 9,1,24,[.aA],false,none⟩ (nO (nS tF (nL ⟨.struct [(0,271,0)],0,0,[],false,none⟩) .nil) (nL ⟨.pointer 211,1,8,[.kX],false,none⟩)) (nS ⟨.struct [(0,111,1),(1,9,1),(2,2,1),(3,3,1),(4,3,1),(5,3,1)],6,56,[zU,.str [],zI,zI,zI,zI],true,none⟩ (nL ⟨.map 9 119,1,8,[.qH],false,none⟩) (nL tF)))) (nS ⟨.struct [(0,22,1),(1,23,1)],2,48,[.aA,.aA],false,none⟩ (nS tF (nS tF (nS ⟨.struct [(0,134,1),(1,52,3),(4,3,1)],5,80,[.qH,.str [],.aA,.aA,zI],false,none⟩ (nL tF) .nil) (nL tF)) (nO (nL ⟨.int .u8,1,1,[zU],false,none⟩) (nL ⟨.struct [(0,4,1)],1,1,[.bool (.lit false)],true,none⟩))) (nS ⟨.struct [(0,53,1),(1,54,1),(2,3,1),(3,3,1),(4,3,1),(5,2,1),(6,55,1)],7,64,[zU,zU,zI,zI,zI,zI,.aA],false,none⟩ (nS tF (nO (nL ⟨.struct [(0,12,1),(1,12,1),(2,261,1),(3,274,1),(4,5,1),(5,5,1),(6,275,1),(7,276,1),(8,277,1),(9,278,1),(10,279,1)],11,48,[.int .u64 (.lit (0)),.int .u64 (.lit (0)),.int .u32 (.lit (0)),zU,zU,zU,zU,.CJ,.kX,.int .i32 (.lit (0)),.int .i32 (.lit (0))],false,none⟩) .nil) (nL tF)) (nS ⟨.struct [(0,119,1),(1,9,1),(2,2,1),(3,9,1),(4,3,1)],5,56,[zU,.str [],zI,.str [],zI],true,none⟩ (nL tF) (nL tF))))) (nS ⟨.struct [(0,9,1),(1,12,1)],2,24,[.str [],.int .u64 (.lit (0))],false,none⟩ (nS ⟨.int .i32,1,4,[.int .i32 (.lit (0))],false,none⟩ (nS ⟨.struct [(0,36,2),(2,26,1)],3,72,[.aA,.aA,.aA],false,none⟩ (nS tF (nS tF (nL ⟨.int .u32,1,4,[.int .u32 (.lit (0))],false,none⟩) .nil) (nL tF)) (nS tF (nL tF) (nL tF))) (nS ⟨.int .u8,1,1,[zU],false,none⟩ (nS ⟨.struct [(0,22,1),(1,83,1)],2,48,[.aA,.aA],false,none⟩ (nS ⟨.pointer 143,1,8,[.kX],false,none⟩ (nL ⟨.pointer 5,1,8,[.kX],false,none⟩) .nil) (nL tF)) (nS tF (nL tF) (nL tF)))) (nS tF (nS tF (nS tF (nS tF (nL ⟨.struct [(0,17,1),(1,17,1),(2,17,1),(3,9,1)],4,40,[.kX,.kX,.kX,.str []],false,none⟩) .nil) (nL ⟨.int .u8,1,1,[zU],false,none⟩)) (nS tF (nL tF) (nL tF))) (nS tF (nS tF (nL tF) (nL tF)) (nS ⟨.struct [(0,9,1),(1,123,1),(2,3,1)],3,48,[.str [],.aA,zI],false,none⟩ (nL tF) (nL tF))))))) (nS ⟨.int .i64,1,8,[zI],false,none⟩ (nS ⟨.bool,1,1,[.bool (.lit false)],false,none⟩ (nS ⟨.struct [(0,2,1),(1,3,1),(2,4,1),(3,6,1)],4,24,[zI,zI,.bool (.lit false),zU],true,none⟩ (nS ⟨.pointer 273,1,8,[.kX],false,none⟩ (nS ⟨.slice 66,1,24,[.aA],false,none⟩ (nS tF (nS tF (nL tF) .nil) (nL tF)) (nS tF (nL tF) (nL tF))) (nS tF (nS tF (nS tF (nL ⟨.struct [(0,271,0)],0,0,[],false,none⟩) .nil) (nL tF)) (nS ⟨.struct [(0,111,1),(1,9,1),(2,2,1),(3,3,1),(4,3,1),(5,3,1)],6,56,[zU,.str [],zI,zI,zI,zI],true,none⟩ (nL ⟨.pointer 179,1,8,[.kX],false,none⟩) (nL tF)))) (nS ⟨.struct [(0,22,1),(1,23,1)],2,48,[.aA,.aA],false,none⟩ (nO (nO (nL ⟨.struct [(0,134,1),(1,52,3),(4,3,1)],5,80,[.qH,.str [],.aA,.aA,zI],false,none⟩) (nL ⟨.struct [(0,3,1),(1,149,1),(2,2,1),(3,33,1),(4,75,4)],8,80,[zI,.kX,zI,.aA,zU,zI,zI,zI],false,none⟩)) (nS ⟨.pointer 36,1,8,[.kX],false,none⟩ (nL tF) (nL tF))) (nS ⟨.struct [(0,53,1),(1,54,1),(2,3,1),(3,3,1),(4,3,1),(5,2,1),(6,55,1)],7,64,[zU,zU,zI,zI,zI,zI,.aA],false,none⟩ (nO (nS ⟨.map 53 1,1,8,[.qH],false,none⟩ (nL ⟨.struct [(0,12,1),(1,12,1),(2,261,1),(3,274,1),(4,5,1),(5,5,1),(6,275,1),(7,276,1),(8,277,1),(9,278,1),(10,279,1)],11,48,[.int .u64 (.lit (0)),.int .u64 (.lit (0)),.int .u32 (.lit (0)),zU,zU,zU,zU,.CJ,.kX,.int .i32 (.lit (0)),.int .i32 (.lit (0))],false,none⟩) .nil) (nL tF)) (nS ⟨.struct [(0,119,1),(1,9,1),(2,2,1),(3,9,1),(4,3,1)],5,56,[zU,.str [],zI,.str [],zI],true,none⟩ (nL tF) (nL tF))))) (nS ⟨.int .u64,1,8,[.int .u64 (.lit (0))],false,none⟩ (nS ⟨.iface true,1,16,[.FD],false,none⟩ (nS ⟨.struct [(0,33,1),(1,34,1)],2,48,[.aA,.aA],false,none⟩ (nO (nS tF (nL ⟨.array 20 252,20,160,(repeatL [.int .u64 (.lit (0))] 20),false,none⟩) .nil) (nL tF)) (nS ⟨.struct [(0,3,1),(1,26,1),(2,54,1),(3,3,1),(4,2,1),(5,2,1)],6,64,[zI,.aA,zU,zI,zI,zI],false,none⟩ (nL tF) .nil)) (nS ⟨.struct [(0,9,1),(1,49,1),(2,50,1)],3,64,[.str [],.aA,.aA],false,none⟩ (nS ⟨.struct [(0,22,1),(1,83,1)],2,48,[.aA,.aA],false,none⟩ (nS tF (nL tF) .nil) (nL ⟨.array 256 5,256,256,(repeatL [zU] 256),false,none⟩)) (nS ⟨.array 9 9,9,144,[.str [],.str [],.str [],.str [],.str [],.str [],.str [],.str [],.str []],false,none⟩ (nL tF) (nL tF)))) (nS ⟨.array 2 27,2,48,[.aA,.aA],false,none⟩ (nS tF (nO (nS tF (nL ⟨.array 64 5,64,64,(repeatL [zU] 64),false,none⟩) .nil) (nL tF)) (nS tF (nL tF) (nL ⟨.array 27 119,27,27,(repeatL [zU] 27),false,none⟩))) (nS ⟨.struct [(0,58,1),(1,9,1),(2,2,1),(3,55,1)],4,56,[zU,.str [],zI,.aA],false,none⟩ (nS tF (nL tF) (nL ⟨.array 23 9,23,368,(repeatL [.str []] 23),false,none⟩)) (nS ⟨.struct [(0,9,1),(1,123,1),(2,3,1)],3,48,[.str [],.aA,zI],false,none⟩ (nL tF) (nL ⟨.int .u64,1,8,[.int .u64 (.lit (0))],false,none⟩)))))) (nS ⟨.int .u8,1,1,[zU],false,none⟩ (nS ⟨.string,1,16,[.str []],false,none⟩ (nS ⟨.struct [(0,17,1)],1,8,[.kX],false,none⟩ (nS ⟨.slice 100,1,24,[.aA],false,none⟩ (nS ⟨.struct [(0,3,1),(1,54,1),(2,3,1),(3,2,1),(4,2,1)],5,40,[zI,zU,zI,zI,zI],true,none⟩ (nS ⟨.struct [(0,3,1),(1,4,1),(2,4,1)],3,16,[zI,.bool (.lit false),.bool (.lit false)],true,none⟩ (nL ⟨.int .u64,1,8,[.int .u64 (.lit (0))],false,none⟩) .nil) (nL tF)) (nS tF (nL tF) (nL tF))) (nS ⟨.slice 57,1,24,[.aA],false,none⟩ (nS tF (nS tF (nL ⟨.int .u8,1,1,[zU],false,none⟩) .nil) (nL ⟨.struct [(0,3,1),(1,3,1)],2,16,[zI,zI],true,none⟩)) (nS ⟨.struct [(0,9,1),(1,113,6),(7,87,2),(9,3,1)],10,96,[.str [],zU,.str [],zI,zI,zI,zI,zI,zI,zI],false,none⟩ (nL ⟨.struct [(0,177,1),(1,134,1)],2,16,[.qH,.qH],false,none⟩) (nL tF)))) (nS ⟨.slice 2,1,24,[.aA],false,none⟩ (nS tF (nS ⟨.struct [(0,54,1),(1,3,1),(2,2,1),(3,2,1)],4,32,[zU,zI,zI,zI],true,none⟩ (nS tF (nL tF) .nil) .nil) (nS tF (nL ⟨.struct [(0,169,1),(1,54,1),(2,9,1),(3,9,1),(4,2,1),(5,55,1),(6,123,1),(7,123,1),(8,3,1)],9,128,[zU,zU,.str [],.str [],zI,.aA,.aA,.aA,zI],false,none⟩) (nL ⟨.map 9 233,1,8,[.qH],false,none⟩))) (nS ⟨.int .u8,1,1,[zU],false,none⟩ (nO (nL tF) (nL tF)) (nS tF (nL tF) (nL ⟨.array 2 49,2,48,[.aA,.aA],false,none⟩))))) (nS ⟨.struct [(0,9,1),(1,12,1)],2,24,[.str [],.int .u64 (.lit (0))],false,none⟩ (nS ⟨.slice 121,1,24,[.aA],false,none⟩ (nS ⟨.struct [(0,36,2),(2,26,1)],3,72,[.aA,.aA,.aA],false,none⟩ (nS tF (nS ⟨.map 9 3,1,8,[.qH],false,none⟩ (nL ⟨.array 65 5,65,65,(repeatL [zU] 65),false,none⟩) .nil) (nL ⟨.pointer 200,1,8,[.kX],false,none⟩)) (nS tF .nil (nL tF))) (nS ⟨.int .u8,1,1,[zU],false,none⟩ (nS ⟨.struct [(0,39,1),(1,3,1)],2,16,[zI,zI],true,none⟩ (nS tF (nL ⟨.int .i32,1,4,[.int .i32 (.lit (0))],false,none⟩) .nil) (nL tF)) (nS tF (nL tF) (nL tF)))) (nS tF (nO (nS tF (nS ⟨.struct [(0,3,1),(1,2,1),(2,4,1),(3,2,1),(4,27,1),(5,26,1)],6,80,[zI,zI,.bool (.lit false),zI,.aA,.aA],false,none⟩ (nL ⟨.struct [(0,17,1),(1,17,1),(2,17,1),(3,9,1)],4,40,[.kX,.kX,.kX,.str []],false,none⟩) .nil) .nil) (nS ⟨.pointer 115,1,8,[.kX],false,none⟩ (nL tF) (nL tF))) (nS tF (nS tF (nL tF) (nL tF)) (nS tF (nL ⟨.slice 119,1,24,[.aA],false,none⟩) (nL tF))))))))
noncomputable def VL:Tr Func:=(nS Tryz.f0 (nS Tryz.f1 (nS Tryz.f3 (nS Tryz.f7 (nS Tryz.f15 (nS Tryz.f31 (nS Tryz.f63 (nL Tryz.f127) (nL Tryz.f191)) (nS Tryz.f95 (nL Tryz.f159) (nL Tryz.f223))) (nS Tryz.f47 (nS Tryz.f79 (nL Tryz.f143) (nL Tryz.f207)) (nS Tryz.f111 (nL Tryz.f175) .nil))) (nS Tryz.f23 (nS Tryz.f39 (nS Tryz.f71 (nL Tryz.f135) (nL Tryz.f199)) (nS Tryz.f103 (nL Tryz.f167) .nil)) (nS Tryz.f55 (nS Tryz.f87 (nL Tryz.f151) (nL Tryz.f215)) (nS Tryz.f119 (nL Tryz.f183) .nil)))) (nS Tryz.f11 (nS Tryz.f19 (nS Tryz.f35 (nS Tryz.f67 (nL Tryz.f131) (nL Tryz.f195)) (nS Tryz.f99 (nL Tryz.f163) .nil)) (nS Tryz.f51 (nS Tryz.f83 (nL Tryz.f147) (nL Tryz.f211)) (nS Tryz.f115 (nL Tryz.f179) .nil))) (nS Tryz.f27 (nS Tryz.f43 (nS Tryz.f75 (nL Tryz.f139) (nL Tryz.f203)) (nS Tryz.f107 (nL Tryz.f171) .nil)) (nS Tryz.f59 (nS Tryz.f91 (nL Tryz.f155) (nL Tryz.f219)) (nS Tryz.f123 (nL Tryz.f187) .nil))))) (nS Tryz.f5 (nS Tryz.f9 (nS Tryz.f17 (nS Tryz.f33 (nS Tryz.f65 (nL Tryz.f129) (nL Tryz.f193)) (nS Tryz.f97 (nL Tryz.f161) (nL Tryz.f225))) (nS Tryz.f49 (nS Tryz.f81 (nL Tryz.f145) (nL Tryz.f209)) (nS Tryz.f113 (nL Tryz.f177) .nil))) (nS Tryz.f25 (nS Tryz.f41 (nS Tryz.f73 (nL Tryz.f137) (nL Tryz.f201)) (nS Tryz.f105 (nL Tryz.f169) .nil)) (nS Tryz.f57 (nS Tryz.f89 (nL Tryz.f153) (nL Tryz.f217)) (nS Tryz.f121 (nL Tryz.f185) .nil)))) (nS Tryz.f13 (nS Tryz.f21 (nS Tryz.f37 (nS Tryz.f69 (nL Tryz.f133) (nL Tryz.f197)) (nS Tryz.f101 (nL Tryz.f165) .nil)) (nS Tryz.f53 (nS Tryz.f85 (nL Tryz.f149) (nL Tryz.f213)) (nS Tryz.f117 (nL Tryz.f181) .nil))) (nS Tryz.f29 (nS Tryz.f45 (nS Tryz.f77 (nL Tryz.f141) (nL Tryz.f205)) (nS Tryz.f109 (nL Tryz.f173) .nil)) (nS Tryz.f61 (nS Tryz.f93 (nL Tryz.f157) (nL Tryz.f221)) (nS Tryz.f125 (nL Tryz.f189) .nil)))))) (nS Tryz.f2 (nS Tryz.f4 (nS Tryz.f8 (nS Tryz.f16 (nS Tryz.f32 (nS Tryz.f64 (nL Tryz.f128) (nL Tryz.f192)) (nS Tryz.f96 (nL Tryz.f160) (nL Tryz.f224))) (nS Tryz.f48 (nS Tryz.f80 (nL Tryz.f144) (nL Tryz.f208)) (nS Tryz.f112 (nL Tryz.f176) .nil))) (nS Tryz.f24 (nS Tryz.f40 (nS Tryz.f72 (nL Tryz.f136) (nL Tryz.f200)) (nS Tryz.f104 (nL Tryz.f168) .nil)) (nS Tryz.f56 (nS Tryz.f88 (nL Tryz.f152) (nL Tryz.f216)) (nS Tryz.f120 (nL Tryz.f184) .nil)))) (nS Tryz.f12 (nS Tryz.f20 (nS Tryz.f36 (nS Tryz.f68 (nL Tryz.f132) (nL Tryz.f196)) (nS Tryz.f100 (nL Tryz.f164) .nil)) (nS Tryz.f52 (nS Tryz.f84 (nL Tryz.f148) (nL Tryz.f212)) (nS Tryz.f116 (nL Tryz.f180) .nil))) (nS Tryz.f28 (nS Tryz.f44 (nS Tryz.f76 (nL Tryz.f140) (nL Tryz.f204)) (nS Tryz.f108 (nL Tryz.f172) .nil)) (nS Tryz.f60 (nS Tryz.f92 (nL Tryz.f156) (nL Tryz.f220)) (nS Tryz.f124 (nL Tryz.f188) .nil))))) (nS Tryz.f6 (nS Tryz.f10 (nS Tryz.f18 (nS Tryz.f34 (nS Tryz.f66 (nL Tryz.f130) (nL Tryz.f194)) (nS Tryz.f98 (nL Tryz.f162) .nil)) (nS Tryz.f50 (nS Tryz.f82 (nL Tryz.f146) (nL Tryz.f210)) (nS Tryz.f114 (nL Tryz.f178) .nil))) (nS Tryz.f26 (nS Tryz.f42 (nS Tryz.f74 (nL Tryz.f138) (nL Tryz.f202)) (nS Tryz.f106 (nL Tryz.f170) .nil)) (nS Tryz.f58 (nS Tryz.f90 (nL Tryz.f154) (nL Tryz.f218)) (nS Tryz.f122 (nL Tryz.f186) .nil)))) (nS Tryz.f14 (nS Tryz.f22 (nS Tryz.f38 (nS Tryz.f70 (nL Tryz.f134) (nL Tryz.f198)) (nS Tryz.f102 (nL Tryz.f166) .nil)) (nS Tryz.f54 (nS Tryz.f86 (nL Tryz.f150) (nL Tryz.f214)) (nS Tryz.f118 (nL Tryz.f182) .nil))) (nS Tryz.f30 (nS Tryz.f46 (nS Tryz.f78 (nL Tryz.f142) (nL Tryz.f206)) (nS Tryz.f110 (nL Tryz.f174) .nil)) (nS Tryz.f62 (nS Tryz.f94 (nL Tryz.f158) (nL Tryz.f222)) (nS Tryz.f126 (nL Tryz.f190) .nil)))))))
def htab:Tr (Tr UJ):=(nO (nO (nS (nO (nO .nil (nL ⟨[],0,⟨[hR 0 0 [3],hP 0 0 [1],hP 0 0 [7],hP 0 0 [5],hR 8 0 [44],hE 28 0 [43,45],hE 63 1 [41,42,46],hP 127 2 [47],hP 255 2 [40],hP 255 2 [40],hP 255 2 [40],hP 0 2 [],hP 2559 2 [48],hE 7167 2 [12,49],hP 16383 3 [50]],3,[(0,[0,1]),(4,[0])]⟩⟩)) (nO (nL ⟨[],0,⟨[hR 0 0 [3],hP 0 0 [1],hP 0 0 [7],hP 0 0 [5],hR 8 0 [33],hE 28 0 [32,34],hE 63 1 [30,31,35],hP 127 2 [36],hP 255 2 [29],hP 255 2 [29],hP 255 2 [29],hP 0 2 [],hP 2559 2 [37],hE 7167 2 [9,38],hP 16383 3 [39]],3,[(0,[0,1]),(4,[0])]⟩⟩) .nil)) (nO (nO (nO (nL (nO (nL ⟨[],0,⟨[hP 0 0 [4],hR 1 0 [8],hP 0 0 [2],hP 7 0 [9,10],hP 15 0 [11],hR 31 0 [12],hP 63 0 [13],hP 127 0 [14],hP 255 0 [15,4],hR 511 0 [15,16],hP 255 0 [15,2],hP 2047 0 [15,17,18],hP 4095 0 [15,19],hR 8191 0 [15,20],hP 255 0 [15,3],hR 16639 0 [15,22],hP 255 0 [15,2],hP 114943 0 [15,23,24],hP 246015 0 [15,25],hR 508159 0 [15,26],hR 1032447 0 [15,27],hP 2097151 0 [15,21,28],hP 4194303 0 [15,29],hP 8388607 0 [30]],0,[(1,[0]),(5,[0]),(9,[0]),(13,[0]),(15,[0]),(19,[0]),(20,[0])]⟩⟩) .nil)) (nS (nO (nO .nil (nL ⟨[],0,⟨[hP 0 0 [5],hR 1 0 [13],hE 3 0 [14],hP 0 1 [5],hR 8 1 [16],hE 31 1 [17],hP 63 2 [15,18],hP 127 2 [19]],2,[(1,[0]),(4,[0,1])]⟩⟩)) .nil) (nL (nO .nil (nO (nL ⟨[],0,⟨[hR 0 0 [0],hP 1 0 [22],hP 3 0 [23],hR 7 0 [24],hR 0 0 [0],hP 16 0 [26],hP 48 0 [27],hR 112 0 [28],hP 240 0 [29],hP 496 0 [30],hR 1008 0 [31],hP 2032 0 [32],hP 4095 0 [25],hP 8191 0 [34],hE 16383 0 [35,33]],1,[(0,[0]),(3,[0]),(4,[0]),(7,[0]),(10,[0])]⟩⟩) .nil))) .nil)) .nil) (nO (nO .nil (nO (nL (nO (nL ⟨[],0,⟨[hR 0 0 [0],hP 1 0 [3],hP 3 0 [4],hP 7 0 [5],hR 15 0 [6],hR 0 0 [0],hP 32 0 [8],hP 96 0 [9],hR 224 0 [10],hP 480 0 [11],hP 992 0 [12],hR 2016 0 [13],hR 0 0 [0],hP 4096 0 [15],hP 12288 0 [16],hP 28672 0 [17],hR 61440 0 [18],hP 131040 0 [14,19],hE 262112 0 [20],hP 524287 1 [7],hP 1048575 1 [21]],1,[(0,[0,1]),(4,[0,1]),(5,[0]),(8,[0]),(11,[0]),(12,[0]),(16,[0])]⟩⟩) .nil)) .nil)) .nil)) (nS (nO (nL ⟨[],0,⟨[hP 0 0 [2],hR 1 0 [7],hP 0 0 [3],hR 4 0 [9],hP 0 0 [],hP 0 0 [],hE 51 0 [5,8],hE 127 1 [6,10]],2,[(1,[0]),(3,[0,1])]⟩⟩) .nil) (nS (nO .nil (nO .nil (nL ⟨[],0,⟨[hP 0 0 [0],hP 0 0 [5],hP 3 0 [16,17],hR 7 0 [18],hP 0 0 [1],hP 0 0 [5],hP 48 0 [20,21],hR 112 0 [22],hP 255 0 [19,23]],0,[(3,[0]),(7,[0])]⟩⟩))) (nO (nO (nL (nO .nil (nS ⟨[],0,⟨[hP 0 0 [0],hP 0 0 [3],hR 2 0 [10],hP 0 0 [3],hR 8 0 [12],hE 24 0 [13],hE 63 1 [9,11,14],hP 127 2 [15]],2,[(2,[0,1]),(4,[0])]⟩⟩ (nO (nL ⟨[],0,⟨[hP 0 0 [0],hP 1 0 [27],hP 3 0 [28],hR 7 0 [29],hP 0 0 [3],hR 16 0 [31],hE 63 0 [30,32]],1,[(3,[0]),(5,[0])]⟩⟩) .nil) .nil))) .nil) (nS (nO .nil (nL ⟨[],0,⟨[hR 0 0 [2],hR 0 0 [2],hP 2 0 [9],hP 6 0 [10],hP 14 0 [11],hR 30 0 [12],hR 0 0 [3],hP 64 0 [14],hE 254 0 [13,15],hP 511 1 [8],hP 1023 1 [17],hP 2047 1 [18],hE 4095 1 [19,16]],2,[(0,[0,1]),(1,[0]),(5,[0]),(6,[0])]⟩⟩)) (nL (nO .nil (nO (nL ⟨[],0,⟨[hR 0 0 [0],hP 1 0 [22],hP 3 0 [23],hR 7 0 [24],hR 0 0 [0],hP 16 0 [26],hP 48 0 [27],hR 112 0 [28],hP 240 0 [29],hP 496 0 [30],hR 1008 0 [31],hP 2032 0 [32],hP 4095 0 [25],hP 8191 0 [34],hE 16383 0 [35,33]],1,[(0,[0]),(3,[0]),(4,[0]),(7,[0]),(10,[0])]⟩⟩) .nil))) .nil)) (nS (nO .nil (nL ⟨[],0,⟨[hP 0 0 [0],hP 1 0 [6],hP 3 0 [7],hP 7 0 [8],hR 15 0 [9],hP 0 0 [3],hP 0 0 [0],hP 64 0 [12],hP 192 0 [13],hP 448 0 [14],hR 960 0 [15],hE 2016 0 [11,16],hP 4064 1 [17],hP 8160 1 [18],hP 16383 1 [10,19],hP 0 1 [],hE 65535 1 [4,20]],2,[(4,[0,1]),(10,[0])]⟩⟩)) (nO (nL (nO (nO .nil (nL ⟨[],0,⟨[hP 0 0 [0],hP 0 0 [1],hP 3 0 [20,21],hP 0 0 [0],hP 0 0 [2],hP 24 0 [23,24],hE 63 0 [22,25],hP 127 1 [26]],1,[]⟩⟩)) .nil)) .nil) (nO (nL (nO (nO .nil (nO (nL ⟨[],0,⟨[hP 0 0 [1],hR 1 0 [43],hP 3 0 [44],hP 7 0 [45],hP 15 0 [46,3],hP 31 0 [46,47],hP 63 0 [46,48],hP 127 0 [49],hP 255 0 [50,3],hP 511 0 [50,51],hP 1023 0 [50,52],hP 2047 0 [53],hP 4095 0 [54,3],hP 8191 0 [54,55],hP 16383 0 [54,4,56],hR 32767 0 [54,57],hP 4095 0 [54,1],hR 69631 0 [54,59],hE 262143 0 [54,58,60],hP 524287 1 [54,61],hP 1048575 1 [62]],1,[(1,[0]),(15,[0]),(17,[0])]⟩⟩) .nil)) .nil)) .nil))) (nO (nS (nO (nS ⟨[],0,⟨[hR 0 0 [4],hP 0 0 [1],hP 2 0 [17],hP 6 0 [18],hR 14 0 [19],hP 0 0 [2],hR 0 0 [7],hE 127 0 [16,20,21,22],hP 255 1 [23],hP 511 1 [15],hP 511 1 [15],hP 511 1 [15],hP 0 1 [],hP 5119 1 [24],hE 14335 1 [11,25],hP 32767 2 [26]],2,[(0,[0]),(4,[0]),(6,[0])]⟩⟩ (nO .nil (nS ⟨[],0,⟨[hP 0 0 [4],hR 1 0 [72],hP 0 0 [2],hP 7 0 [73,74],hP 15 0 [75],hR 31 0 [76],hP 0 0 [13],hP 64 0 [78],hP 192 0 [79],hR 448 0 [80],hP 1023 0 [77,81],hR 2047 0 [82],hP 0 0 [],hE 8191 0 [14,83]],1,[(1,[0]),(5,[0]),(9,[0]),(11,[0])]⟩⟩ (nL ⟨[],0,⟨[hP 0 0 [13],hP 0 0 [13],hP 0 0 [13],hP 0 0 [11],hR 8 0 [135],hP 0 0 [11],hR 32 0 [137],hP 1 0 [132],hP 129 0 [139],hE 385 0 [140],hP 923 1 [133],hP 1947 1 [141],hE 3995 1 [142,136],hP 8191 2 [134],hP 16383 2 [143],hE 32767 2 [144,138]],3,[(4,[0,1]),(6,[0,1,2])]⟩⟩) .nil)) (nO (nO (nL ⟨[],0,⟨[hP 0 0 [13],hP 1 0 [115],hP 3 0 [116],hR 7 0 [117],hP 0 0 [14],hR 16 0 [119],hP 0 0 [11],hR 64 0 [121],hP 255 0 [118,120],hE 511 0 [123,122]],1,[(3,[0]),(5,[0]),(7,[0])]⟩⟩) .nil) (nO (nL ⟨[],0,⟨[hP 0 0 [13],hP 0 0 [13],hP 0 0 [11],hR 4 0 [150],hP 1 0 [148],hP 17 0 [152],hE 49 0 [153],hP 127 1 [149],hP 255 1 [154],hE 511 1 [155,151]],2,[(3,[0,1])]⟩⟩) .nil))) .nil) (nL (nO .nil (nO .nil (nL ⟨[],0,⟨[hP 0 0 [0],hP 0 0 [5],hP 3 0 [17,18],hR 7 0 [19],hP 0 0 [1],hP 0 0 [5],hP 48 0 [21,22],hR 112 0 [23],hP 255 0 [20,24]],0,[(3,[0]),(7,[0])]⟩⟩)))) (nL (nO (nO .nil (nL ⟨[],0,⟨[hP 0 0 [0],hP 0 0 [3],hP 0 0 [0],hP 0 0 [3],hP 0 0 [0],hP 0 0 [3],hP 48 0 [15,16],hP 112 0 [17],hR 240 0 [18],hE 496 0 [19],hP 0 1 [0],hP 0 1 [3],hP 3072 1 [21,22],hP 7168 1 [23],hR 15360 1 [24],hE 32752 1 [25],hP 65523 2 [11,12],hP 131059 2 [27],hE 262131 2 [28,20],hP 524287 3 [13,14],hP 1048575 3 [29],hE 2097151 3 [30,26]],4,[(8,[0]),(14,[0,1])]⟩⟩)) .nil))) .nil))) (nS (nO (nO .nil (nL ⟨[],0,⟨[hP 0 0 [3],hP 0 0 [1],hR 2 0 [22],hP 0 0 [4],hP 14 0 [23,24],hP 30 0 [25],hR 62 0 [26],hR 126 0 [27],hP 0 0 [1],hR 256 0 [29],hP 0 0 [4],hP 1792 0 [30,31],hP 3840 0 [32],hR 7936 0 [33],hR 16128 0 [34],hP 32766 0 [28,35],hP 65535 0 [21,36],hP 131071 0 [37]],0,[(2,[0]),(6,[0]),(7,[0]),(9,[0]),(13,[0]),(14,[0])]⟩⟩)) .nil) (nS (nO .nil (nO .nil (nL ⟨[],0,⟨[hP 0 0 [0],hP 0 0 [5],hP 3 0 [16,17],hR 7 0 [18],hP 0 0 [1],hP 0 0 [5],hP 48 0 [20,21],hR 112 0 [22],hP 255 0 [19,23]],0,[(3,[0]),(7,[0])]⟩⟩))) (nS (nO .nil (nO (nL ⟨[],0,⟨[hR 0 0 [6],hP 0 0 [1],hE 2 0 [19],hP 7 1 [18,20],hP 0 1 [],hE 31 1 [8,21]],2,[(0,[0,1])]⟩⟩) .nil)) (nL (nO (nO .nil (nL ⟨[],0,⟨[hP 0 0 [5],hR 1 0 [16],hE 3 0 [17],hP 0 1 [5],hR 8 1 [19],hE 31 1 [20],hP 31 2 [5],hE 127 2 [22,18],hP 255 3 [5],hE 511 3 [23,21]],4,[(1,[0]),(4,[0,1])]⟩⟩)) (nO .nil (nO .nil (nL ⟨[],0,⟨[hR 0 0 [3],hP 0 0 [1],hR 2 0 [51],hE 6 0 [52],hP 15 1 [50,53],hE 31 1 [2,54]],2,[(0,[0,1]),(2,[0])]⟩⟩))))) (nO (nS (nO (nO .nil (nO (nO .nil (nL ⟨[],0,⟨[hP 0 0 [],hP 0 0 [7],hR 2 0 [87],hP 6 0 [88],hE 1 0 [4,86],hE 31 1 [5,89]],2,[(2,[0,1])]⟩⟩)) .nil)) .nil) (nL (nO (nO .nil (nL ⟨[],0,⟨[hR 0 0 [0],hP 1 0 [15],hP 3 0 [16],hR 7 0 [17],hR 0 0 [0],hP 16 0 [19],hP 48 0 [20],hR 112 0 [21],hP 240 0 [22],hP 496 0 [23],hR 1008 0 [24],hR 0 0 [0],hP 2048 0 [26],hP 6144 0 [27],hR 14336 0 [28],hP 30720 0 [29],hE 65520 0 [25,30],hP 131071 1 [18],hP 262143 1 [32],hE 524287 1 [33,31]],2,[(0,[0,1]),(3,[0,1]),(4,[0]),(7,[0]),(10,[0]),(11,[0]),(14,[0])]⟩⟩)) .nil)) .nil) .nil)) (nS (nO .nil (nO (nO (nL ⟨[],0,⟨[hP 0 0 [5],hR 1 0 [24],hP 0 0 [7],hR 4 0 [26],hR 12 0 [27],hP 28 0 [28,28],hP 60 0 [29],hP 124 0 [30],hE 255 0 [25,31],hP 511 1 [5],hE 1023 1 [33,32]],2,[(1,[0]),(3,[0]),(4,[0])]⟩⟩) .nil) .nil)) (nS (nO .nil (nO .nil (nL ⟨[],0,⟨[hP 0 0 [3],hR 1 0 [33],hP 0 0 [2],hP 7 0 [34,35],hP 15 0 [36],hR 31 0 [37],hP 0 0 [8],hR 64 0 [39],hP 255 0 [38,40],hR 511 0 [41],hP 0 0 [],hE 2047 0 [9,42]],1,[(1,[0]),(5,[0]),(7,[0]),(9,[0])]⟩⟩))) (nL (nS ⟨[],0,⟨[hR 0 0 [0],hP 1 0 [2],hP 3 0 [3],hR 7 0 [4],hP 0 0 [1],hR 16 0 [6],hP 63 0 [5,7],hR 127 0 [8],hP 255 0 [9]],0,[(0,[0]),(3,[0]),(5,[0]),(7,[0])]⟩⟩ .nil (nL ⟨[],0,⟨[hR 0 0 [0],hP 1 0 [16],hP 3 0 [17],hR 7 0 [18],hP 0 0 [1],hR 16 0 [20],hP 63 0 [19,21],hR 127 0 [22],hP 255 0 [23],hP 511 0 [19,21],hE 1023 0 [25,24]],1,[(0,[0]),(3,[0]),(5,[0]),(7,[0])]⟩⟩))) .nil) (nO (nO (nL (nO (nS ⟨[],0,⟨[hR 0 0 [0],hP 1 0 [3],hP 3 0 [4],hP 7 0 [5],hR 15 0 [6],hR 0 0 [0],hP 32 0 [8],hP 96 0 [9],hR 224 0 [10],hP 480 0 [11],hP 992 0 [12],hR 2016 0 [13],hP 4064 0 [14],hP 8191 0 [7,15],hP 16383 0 [16],hR 32767 0 [17,0],hP 65535 0 [17,18],hP 131071 0 [17,19],hP 262143 0 [17,20],hR 524287 0 [17,21],hR 32767 0 [17,0],hP 1081343 0 [17,23],hP 3178495 0 [17,24],hR 7372799 0 [17,25],hP 15761407 0 [17,26],hP 32538623 0 [17,27],hR 66093055 0 [17,28],hP 133201919 0 [17,29],hP 268435455 0 [17,22,30],hP 536870911 0 [17,31]],0,[(0,[0]),(4,[0]),(5,[0]),(8,[0]),(11,[0]),(15,[0]),(19,[0]),(20,[0]),(23,[0]),(26,[0])]⟩⟩ (nL ⟨[],0,⟨[hR 0 0 [0],hP 1 0 [33],hP 3 0 [34],hR 7 0 [35],hP 15 0 [36],hP 31 0 [37],hR 63 0 [38],hR 0 0 [0],hP 128 0 [40],hP 384 0 [41],hP 896 0 [42],hR 1920 0 [43],hP 4095 0 [39,44],hP 8191 0 [36],hP 16383 0 [46],hE 32767 0 [47,45]],1,[(0,[0]),(3,[0]),(6,[0]),(7,[0]),(11,[0])]⟩⟩) .nil) .nil)) .nil) .nil))) (nO (nS (nO .nil (nO .nil (nL ⟨[],0,⟨[hR 0 0 [2],hP 0 0 [2],hR 2 0 [30],hP 0 0 [5],hP 14 0 [31,32],hR 30 0 [33],hR 0 0 [6],hE 127 0 [29,34,35],hP 255 1 [36]],1,[(0,[0]),(2,[0]),(5,[0]),(6,[0])]⟩⟩))) (nS (nL ⟨[],0,⟨[hP 0 0 [1],hR 1 0 [4],hP 0 0 [0],hP 0 0 [1],hR 8 0 [7],hP 0 0 [0],hP 56 0 [8,9],hR 120 0 [10],hR 0 0 [2],hP 504 0 [11,12],hP 1023 0 [5,6],hE 2047 0 [14,13]],1,[(1,[0]),(4,[0]),(7,[0]),(8,[0])]⟩⟩) (nL (nL ⟨[],0,⟨[hR 0 0 [1],hP 1 0 [2],hP 3 0 [3],hR 7 0 [4],hP 0 0 [0],hR 16 0 [6],hP 0 0 [0],hR 64 0 [8],hP 192 0 [9],hR 448 0 [10],hR 0 0 [1],hP 1024 0 [12],hP 3072 0 [13],hR 7168 0 [14],hE 16320 0 [11,15],hP 32767 1 [5,7],hE 65535 1 [17,16]],2,[(0,[0,1]),(3,[0,1]),(5,[0,1]),(7,[0]),(9,[0]),(10,[0]),(13,[0])]⟩⟩)) (nO (nL (nO (nL ⟨[],0,⟨[hR 0 0 [0],hP 1 0 [4],hP 3 0 [5],hR 7 0 [6],hR 0 0 [0],hP 16 0 [8],hP 48 0 [9],hR 112 0 [10],hP 255 0 [7,11],hP 511 0 [12]],0,[(0,[0]),(3,[0]),(4,[0]),(7,[0])]⟩⟩) (nL ⟨[],0,⟨[hR 0 0 [0],hP 1 0 [13],hP 3 0 [14],hR 7 0 [15],hP 15 0 [16],hP 31 0 [17],hR 63 0 [18],hR 0 0 [0],hP 128 0 [20],hP 384 0 [21],hR 896 0 [22],hE 2047 0 [19,23],hP 4095 1 [24],hP 8191 1 [25,3],hP 16383 1 [25,26],hP 32767 1 [25,27],hR 65535 1 [25,28],hP 131071 1 [25,29],hP 262143 1 [25,30]],1,[(0,[0]),(3,[0]),(6,[0]),(7,[0]),(10,[0]),(16,[1])]⟩⟩))) .nil)) (nO .nil (nO (nL (nO .nil (nO (nL ⟨[],0,⟨[hP 0 0 [6],hR 1 0 [13],hP 3 0 [14],hP 7 0 [15],hP 15 0 [16,0],hP 31 0 [16,17],hP 63 0 [16,18],hR 127 0 [16,19],hP 15 0 [16,6],hR 271 0 [16,21],hR 1023 0 [16,20,22],hP 2047 0 [16,23],hP 4095 0 [16,24],hP 8191 0 [25],hP 16383 0 [26,0],hP 16383 0 [26,6],hR 49151 0 [26,28],hE 131071 0 [26,27,29],hP 262143 1 [26,30],hP 524287 1 [26,31]],1,[(1,[0]),(7,[0]),(9,[0]),(10,[0]),(16,[0])]⟩⟩) .nil))) .nil))) (nS (nO (nO (nO (nL ⟨[],0,⟨[hP 0 0 [5],hR 1 0 [27],hP 0 0 [4],hE 4 0 [29],hP 12 1 [30],hE 31 1 [28,31],hP 63 2 [5],hE 127 2 [33,32]],3,[(1,[0,1])]⟩⟩) .nil) .nil) (nO .nil (nO .nil (nL ⟨[],0,⟨[hP 0 0 [],hP 0 0 [4],hP 2 0 [58],hP 6 0 [59],hR 14 0 [60],hE 1 0 [2,57],hE 63 1 [3,61]],2,[(4,[0,1])]⟩⟩)))) (nS (nO .nil (nO .nil (nO .nil (nL ⟨[],0,⟨[hR 0 0 [1],hR 0 0 [7],hP 0 0 [7],hR 4 0 [67],hP 0 0 [8],hP 28 0 [68,69],hR 60 0 [70],hE 127 0 [65,66,71],hP 255 1 [72],hP 511 1 [73],hP 1023 1 [74,7],hR 2047 1 [74,75],hP 1023 1 [74,8],hP 8191 1 [74,76,77],hP 16383 1 [74,78],hR 32767 1 [74,79],hP 1023 1 [74,7],hE 131071 1 [74,80,81],hP 262143 2 [74,82],hP 524287 2 [83]],2,[(0,[0]),(1,[0]),(3,[0]),(6,[0]),(11,[1]),(15,[1])]⟩⟩)))) (nL (nO .nil (nO .nil (nL ⟨[],0,⟨[hP 0 0 [9],hP 1 0 [47],hP 3 0 [48,3],hR 7 0 [48,49],hP 3 0 [48,5],hR 19 0 [48,51],hP 63 0 [48,50,52],hP 127 0 [48,53],hR 255 0 [48,54],hR 3 0 [48,5],hP 3 0 [48,7],hE 2047 0 [48,55,56,57],hP 4095 1 [48,58],hP 8191 1 [59],hP 16383 1 [60,5],hR 32767 1 [60,61],hP 65535 1 [60,62],hP 131071 1 [60,63],hP 262143 1 [64,8],hP 524287 1 [60,64,65],hP 1048575 1 [60,66],hP 2097151 1 [67]],1,[(3,[0]),(5,[0]),(8,[0]),(9,[0]),(15,[1])]⟩⟩)))) .nil) (nO (nS (nO (nL ⟨[],0,⟨[hP 0 0 [0],hP 1 0 [9],hP 3 0 [10],hR 7 0 [11],hP 0 0 [3],hR 16 0 [13],hR 63 0 [12,14],hP 127 0 [15],hP 255 0 [8],hP 255 0 [8],hP 511 0 [16],hP 2047 0 [17]],0,[(3,[0]),(5,[0]),(6,[0])]⟩⟩) .nil) (nL (nO (nL ⟨[],0,⟨[hR 0 0 [0],hP 1 0 [3],hP 3 0 [4],hR 7 0 [5],hR 0 0 [0],hP 16 0 [7],hP 48 0 [8],hP 112 0 [9],hR 240 0 [10],hP 511 0 [6],hP 1023 0 [12],hE 2047 0 [13,11]],1,[(0,[0]),(3,[0]),(4,[0]),(8,[0])]⟩⟩) .nil)) .nil) .nil))))) (nO (nS (nO (nO (nL ⟨[],0,⟨[hR 0 0 [3],hP 0 0 [1],hP 0 0 [5],hR 4 0 [29],hP 0 0 [5],hR 16 0 [31],hR 48 0 [32],hP 112 0 [33],hP 252 0 [30,34],hE 511 0 [27,28,35],hP 1023 1 [36],hP 2047 1 [26],hP 2047 1 [26],hP 2047 1 [26],hP 0 1 [],hP 20479 1 [37],hE 57343 1 [8,38],hP 131071 2 [39]],2,[(0,[0]),(3,[0]),(5,[0]),(6,[0])]⟩⟩) .nil) (nO (nL ⟨[],0,⟨[hR 0 0 [3],hP 0 0 [1],hP 0 0 [5],hR 4 0 [43],hP 0 0 [5],hR 16 0 [45],hR 48 0 [46],hP 112 0 [47],hP 252 0 [44,48],hE 511 0 [41,42,49],hP 1023 1 [50],hP 2047 1 [40],hP 2047 1 [40],hP 2047 1 [40],hP 0 1 [],hP 20479 1 [51],hE 57343 1 [11,52],hP 131071 2 [53]],2,[(0,[0]),(3,[0]),(5,[0]),(6,[0])]⟩⟩) (nL ⟨[],0,⟨[hP 0 0 [7],hP 0 0 [13],hP 3 0 [59,60],hP 0 0 [10],hP 0 0 [13],hP 24 0 [62,63],hE 63 0 [61,64],hP 127 1 [65]],1,[]⟩⟩))) (nS (nO (nO (nO (nO (nL ⟨[],0,⟨[hP 0 0 [11],hR 0 0 [9],hP 1 0 [75],hE 7 0 [7,76],hP 15 1 []],1,[(1,[0])]⟩⟩) .nil) (nL ⟨[],0,⟨[hP 0 0 [11],hR 0 0 [9],hP 0 0 [17],hP 1 0 [61],hE 11 0 [7,62],hP 31 1 [63]],1,[(1,[0])]⟩⟩)) (nO (nL ⟨[],0,⟨[hR 0 0 [3],hR 0 0 [9],hP 0 0 [2],hP 0 0 [13],hP 12 0 [44,45],hR 28 0 [46],hP 0 0 [12],hP 124 0 [47,48],hP 0 0 [12],hP 508 0 [49,50],hP 0 0 [12],hP 2044 0 [51,52],hE 4095 0 [42,43,53],hP 8191 1 [54],hP 16383 1 [41],hP 16383 1 [41],hP 16383 1 [41],hP 16383 1 [41],hP 0 1 [],hP 0 1 [],hE 819199 1 [14,55],hE 1900543 2 [15,56],hP 4063231 3 [57],hP 8388607 3 [58]],3,[(0,[0]),(1,[0]),(5,[0])]⟩⟩) .nil)) .nil) (nO (nO (nO (nL (nO .nil (nO (nL ⟨[],0,⟨[hP 0 0 [1],hR 1 0 [15],hP 3 0 [16],hP 7 0 [17],hP 15 0 [18,1],hR 31 0 [18,19],hP 63 0 [18,20],hP 127 0 [18,21],hP 255 0 [22],hP 511 0 [23,1],hR 1023 0 [23,24],hE 2047 0 [23,25],hP 4095 1 [23,26],hP 8191 1 [23,27],hP 16383 1 [28],hP 32767 1 [29,1],hR 65535 1 [29,30],hP 131071 1 [29,31],hP 262143 1 [29,32],hP 524287 1 [33],hP 1048575 1 [34,1],hR 2097151 1 [34,35],hR 4194303 1 [34,36],hP 1048575 1 [34,1],hR 9437183 1 [34,38],hE 26214399 1 [34,39],hP 67108863 2 [34,37,40],hP 134217727 2 [34,41],hP 268435455 2 [42],hP 536870911 2 [43,1],hR 1073741823 2 [43,44],hR 2147483647 2 [43,45],hP 4294967295 2 [43,46],hP 8589934591 2 [43,47],hP 17179869183 2 [48],hP 34359738367 2 [49,3],hP 68719476735 2 [49,50],hP 137438953471 2 [49,51],hP 274877906943 2 [52,1],hR 549755813887 2 [52,53],hP 1099511627775 2 [52,54],hP 2199023255551 2 [49,52,55],hP 4398046511103 2 [49,56]],2,[(1,[0]),(5,[0]),(10,[0]),(16,[1]),(21,[1,2]),(22,[1,2]),(24,[1]),(30,[2]),(31,[2]),(39,[2])]⟩⟩) .nil))) .nil) (nS (nO (nL ⟨[],0,⟨[hP 0 0 [3],hR 1 0 [6],hP 0 0 [0],hP 4 0 [8],hP 12 0 [9],hR 28 0 [10],hP 0 0 [3],hR 64 0 [12],hR 252 0 [11,13],hP 0 0 [0],hP 0 0 [3],hR 1024 0 [16],hE 3584 0 [15,17],hP 8191 1 [7,14,18],hP 0 1 [],hE 32767 1 [4,19]],2,[(1,[0,1]),(5,[0,1]),(7,[0,1]),(8,[0,1]),(11,[0])]⟩⟩) .nil) (nL (nO (nS ⟨[],0,⟨[hR 0 0 [0],hP 1 0 [4],hP 3 0 [5],hR 7 0 [6],hR 0 0 [0],hP 16 0 [8],hP 48 0 [9],hR 112 0 [10],hP 255 0 [7,11],hP 511 0 [12]],0,[(0,[0]),(3,[0]),(4,[0]),(7,[0])]⟩⟩ .nil (nL ⟨[],0,⟨[hR 0 0 [0],hP 1 0 [25],hP 3 0 [26],hR 7 0 [27],hR 0 0 [0],hP 16 0 [29],hP 48 0 [30],hR 112 0 [31],hP 240 0 [32],hP 496 0 [33],hR 1008 0 [34],hP 0 0 [0],hE 4080 0 [35,36],hR 0 1 [0],hP 8192 1 [38],hP 24576 1 [39],hR 57344 1 [40],hP 122880 1 [41],hE 262128 1 [37,42],hP 524287 2 [28],hP 1048575 2 [44],hE 2097151 2 [45,43]],3,[(0,[0,1,2]),(3,[0,1,2]),(4,[0]),(7,[0]),(10,[0]),(13,[0,1]),(16,[0,1])]⟩⟩)) (nL ⟨[],0,⟨[hP 0 0 [3],hP 1 0 [13],hP 3 0 [14],hR 7 0 [15],hR 0 0 [0],hP 16 0 [17],hP 48 0 [18],hR 112 0 [19],hP 255 0 [16,20]],0,[(3,[0]),(4,[0]),(7,[0])]⟩⟩))) .nil)) (nO (nO (nL (nO (nO (nL ⟨[],0,⟨[hR 0 0 [0],hP 1 0 [5],hP 3 0 [6],hP 7 0 [7],hR 15 0 [8],hR 0 0 [0],hP 32 0 [10],hP 96 0 [11],hP 224 0 [12],hR 480 0 [13],hP 1023 0 [9,14],hE 2047 0 [15],hP 4095 1 [],hP 8191 1 [16]],1,[(0,[0]),(4,[0]),(5,[0]),(9,[0])]⟩⟩) .nil) .nil)) .nil) .nil)) (nS (nO .nil (nO (nO .nil (nL ⟨[],0,⟨[hP 0 0 [6],hR 1 0 [88],hP 0 0 [8],hP 7 0 [89,90],hR 15 0 [91],hP 0 0 [7],hR 32 0 [93],hP 0 0 [8],hP 224 0 [94,95],hR 480 0 [96],hP 1023 0 [92,97]],0,[(1,[0]),(4,[0]),(6,[0]),(9,[0])]⟩⟩)) (nL ⟨[],0,⟨[hP 0 0 [2],hR 1 0 [30],hP 0 0 [5],hP 7 0 [31,32],hR 15 0 [33],hP 0 0 [3],hR 32 0 [35],hP 0 0 [5],hP 224 0 [36,37],hR 480 0 [38],hP 0 0 [],hP 0 0 [],hE 3103 0 [6,34],hE 8191 1 [7,39]],2,[(1,[0]),(4,[0]),(6,[0,1]),(9,[0,1])]⟩⟩))) (nS (nO (nS ⟨[],0,⟨[hP 0 0 [1],hR 1 0 [6],hE 3 0 [7],hP 0 1 [1],hR 8 1 [9],hE 31 1 [10],hP 31 2 [1],hE 127 2 [12,8],hP 255 3 [1],hE 511 3 [13,11]],4,[(1,[0]),(4,[0,1])]⟩⟩ (nO .nil (nL ⟨[],0,⟨[hP 0 0 [1],hR 1 0 [47],hP 0 0 [5],hP 0 0 [1],hR 8 0 [50],hP 0 0 [5],hP 56 0 [51,52],hP 120 0 [53],hR 248 0 [54],hE 504 0 [55],hP 1023 1 [48,49],hP 2047 1 [57],hE 4095 1 [58,56]],2,[(1,[0,1]),(4,[0]),(8,[0])]⟩⟩)) .nil) (nO .nil (nL ⟨[],0,⟨[hP 0 0 [4],hP 0 0 [4],hP 0 0 [4],hP 4 0 [26],hP 12 0 [27],hR 28 0 [28],hE 60 0 [29],hP 0 1 [4],hP 128 1 [31],hP 384 1 [32],hR 896 1 [33],hE 2044 1 [34],hP 4093 2 [24],hP 8189 2 [36],hE 16381 2 [37,30],hP 32767 3 [25],hP 65535 3 [38],hE 131071 3 [39,35]],4,[(5,[0]),(10,[0,1])]⟩⟩))) (nS (nL ⟨[],0,⟨[hR 0 0 [1],hP 1 0 [2],hP 3 0 [3],hR 7 0 [4],hP 0 0 [0],hR 16 0 [6],hP 0 0 [0],hR 64 0 [8],hP 255 0 [5,7],hE 511 0 [10,9]],1,[(0,[0]),(3,[0]),(5,[0]),(7,[0])]⟩⟩) (nL (nO (nL ⟨[],0,⟨[hP 0 0 [0],hP 1 0 [3],hP 3 0 [4],hR 7 0 [5],hP 15 0 [6],hP 31 0 [7],hR 63 0 [8],hP 0 0 [0],hP 128 0 [10],hP 384 0 [11],hR 896 0 [12],hP 2047 0 [9,13],hP 4095 0 [14],hP 8191 0 [15,0],hP 16383 0 [15,16],hP 32767 0 [15,17],hR 65535 0 [15,18],hP 131071 0 [15,19],hP 262143 0 [15,20],hR 524287 0 [15,21],hP 8191 0 [15,0],hP 1056767 0 [15,23],hP 3153919 0 [15,24],hR 7348223 0 [15,25],hE 16777215 0 [15,22,26],hP 33554431 1 [15,27],hP 67108863 1 [28]],1,[(3,[0]),(6,[0]),(10,[0]),(16,[0]),(19,[0]),(23,[0])]⟩⟩) .nil)) .nil) (nO (nL (nO (nO (nL ⟨[],0,⟨[hR 0 0 [0],hP 1 0 [12],hP 3 0 [13],hR 7 0 [14],hP 15 0 [15],hP 31 0 [16],hR 63 0 [17],hR 0 0 [0],hP 128 0 [19],hP 384 0 [20],hR 896 0 [21],hP 2047 0 [18,22],hP 4095 0 [23]],0,[(0,[0]),(3,[0]),(6,[0]),(7,[0]),(10,[0])]⟩⟩) .nil) .nil)) .nil)) (nS (nO .nil (nO .nil (nO (nL ⟨[],0,⟨[hP 0 0 [3],hP 1 0 [34],hP 3 0 [35],hR 7 0 [36],hP 0 0 [5],hR 16 0 [38],hP 0 0 [5],hR 64 0 [40],hE 255 0 [37,39,41]],1,[(3,[0]),(5,[0]),(7,[0])]⟩⟩) .nil))) (nO (nL (nO (nL ⟨[],0,⟨[hR 0 0 [0],hP 1 0 [3],hP 3 0 [4],hR 7 0 [5],hP 15 0 [6],hP 31 0 [7],hR 63 0 [8],hR 0 0 [0],hP 128 0 [10],hP 384 0 [11],hR 896 0 [12],hP 2047 0 [9,13]],0,[(0,[0]),(3,[0]),(6,[0]),(7,[0]),(10,[0])]⟩⟩) .nil)) .nil) .nil))) (nO (nO (nS (nO .nil (nO (nO .nil (nL ⟨[],0,⟨[hP 0 0 [5],hR 1 0 [44],hP 0 0 [6],hR 4 0 [46],hP 15 0 [45,47],hP 31 0 [48],hR 63 0 [49],hP 0 0 [6],hR 128 0 [51],hP 511 0 [50,52]],0,[(1,[0]),(3,[0]),(6,[0]),(8,[0])]⟩⟩)) .nil)) (nS (nO .nil (nO .nil (nO .nil (nL ⟨[],0,⟨[hP 0 0 [2],hR 1 0 [47],hP 0 0 [2],hR 4 0 [49],hP 12 0 [50],hR 28 0 [51],hP 0 0 [1],hE 124 0 [52,53],hP 0 1 [2],hR 256 1 [55],hP 768 1 [56],hR 1792 1 [57],hP 0 1 [1],hE 8188 1 [58,59],hE 16383 2 [48,54,60],hP 32767 3 [61]],3,[(1,[0,1,2]),(3,[0]),(5,[0]),(9,[0,1]),(11,[0,1])]⟩⟩)))) (nL (nL ⟨[],0,⟨[hR 0 0 [0],hP 1 0 [2],hP 3 0 [3],hP 7 0 [4],hR 15 0 [5],hR 0 0 [1],hR 0 0 [0],hE 64 0 [8],hP 255 1 [6,7],hP 511 1 [10],hE 1023 1 [11,9]],2,[(0,[0,1]),(4,[0,1]),(5,[0,1]),(6,[0])]⟩⟩)) .nil) .nil) (nO .nil (nL (nO .nil (nL ⟨[],0,⟨[hP 0 0 [0],hP 0 0 [1],hP 0 0 [2],hP 6 0 [13,14],hP 1 0 [12],hP 31 0 [16,15],hR 63 0 [17]],0,[(6,[0])]⟩⟩))))) (nS (nO (nL ⟨[],0,⟨[hP 0 0 [4],hR 1 0 [7],hP 0 0 [2],hP 7 0 [8,9],hP 15 0 [10],hR 31 0 [11],hP 63 0 [12],hP 127 0 [13],hP 255 0 [14,4],hR 511 0 [14,15],hP 255 0 [14,2],hP 2047 0 [14,16,17],hP 4095 0 [14,18],hR 8191 0 [14,19],hP 255 0 [14,3],hR 16639 0 [14,21],hP 255 0 [14,2],hP 114943 0 [14,22,23],hP 246015 0 [14,24],hR 508159 0 [14,25],hR 1032447 0 [14,26],hP 2097151 0 [14,20,27],hP 4194303 0 [14,28],hP 8388607 0 [29]],0,[(1,[0]),(5,[0]),(9,[0]),(13,[0]),(15,[0]),(19,[0]),(20,[0])]⟩⟩) .nil) (nS (nO .nil (nO (nO .nil (nL ⟨[],0,⟨[hP 0 0 [6],hR 1 0 [76],hP 0 0 [8],hP 7 0 [77,78],hR 15 0 [79],hP 0 0 [7],hR 32 0 [81],hP 0 0 [8],hP 224 0 [82,83],hR 480 0 [84],hP 1023 0 [80,85]],0,[(1,[0]),(4,[0]),(6,[0]),(9,[0])]⟩⟩)) (nL ⟨[],0,⟨[hP 0 0 [0],hP 0 0 [5],hP 3 0 [19,20],hR 7 0 [21],hP 0 0 [1],hP 0 0 [5],hP 48 0 [23,24],hR 112 0 [25],hP 0 0 [],hP 0 0 [],hE 783 0 [6,22],hE 2047 1 [7,26]],2,[(3,[0]),(7,[0,1])]⟩⟩))) (nO (nL (nO (nL ⟨[],0,⟨[hP 0 0 [0],hP 1 0 [3],hP 3 0 [4],hR 7 0 [5],hP 15 0 [6],hP 31 0 [7],hR 63 0 [8],hP 0 0 [0],hP 128 0 [10],hP 384 0 [11],hR 896 0 [12],hP 2047 0 [9,13]],0,[(3,[0]),(6,[0]),(10,[0])]⟩⟩) .nil)) .nil) .nil) (nO .nil (nL (nO .nil (nO (nL ⟨[],9,⟨[hP 0 0 [1],hP 1 0 [23],hP 3 0 [24],hR 7 0 [25],hP 0 0 [0],hE 16 0 [27],hR 15 1 [26],hP 0 1 [],hE 255 1 [26,30]],2,[(3,[0,1]),(6,[0,1])]⟩⟩) .nil))))))) (nO (nO (nS (nO .nil (nO (nO (nO (nL ⟨[],0,⟨[hR 0 0 [16],hR 0 0 [14],hP 0 0 [15],hE 1 0 [6,116],hE 11 1 [7,117],hP 31 2 [118],hP 63 2 []],2,[(0,[0]),(1,[0,1])]⟩⟩) .nil) (nL ⟨[],0,⟨[hR 0 0 [13],hP 0 0 [4],hR 2 0 [94],hE 6 0 [95],hP 15 1 [93,96],hP 0 1 [],hE 63 1 [16,97]],2,[(0,[0,1]),(2,[0])]⟩⟩)) .nil)) (nL (nO .nil (nO .nil (nL ⟨[],0,⟨[hP 0 0 [2],hR 1 0 [26],hP 0 0 [5],hR 4 0 [28],hP 15 0 [27,29],hP 31 0 [30],hR 63 0 [31],hP 0 0 [5],hR 128 0 [33],hP 511 0 [32,34],hP 1023 0 [35]],0,[(1,[0]),(3,[0]),(6,[0]),(8,[0])]⟩⟩)))) (nO (nO (nL (nO (nL ⟨[],0,⟨[hR 0 0 [0],hP 1 0 [4],hP 3 0 [5],hR 7 0 [6],hP 15 0 [7],hP 31 0 [8],hR 63 0 [9],hR 0 0 [0],hP 128 0 [11],hP 384 0 [12],hR 896 0 [13],hE 2047 0 [10,14],hP 4095 1 [15]],1,[(0,[0]),(3,[0]),(6,[0]),(7,[0]),(10,[0])]⟩⟩) (nO (nL ⟨[],0,⟨[hR 0 0 [0],hP 1 0 [18],hP 3 0 [19],hR 7 0 [20],hR 0 0 [0],hP 16 0 [22],hP 48 0 [23],hR 112 0 [24],hP 240 0 [25],hP 496 0 [26],hR 1008 0 [27],hP 0 0 [3],hP 0 0 [3],hP 4096 0 [30],hE 16368 0 [28,29,31],hP 32767 1 [21],hP 65535 1 [33],hE 131071 1 [34,32]],2,[(0,[0,1]),(3,[0,1]),(4,[0]),(7,[0]),(10,[0])]⟩⟩) .nil))) .nil) (nL (nO (nO (nO (nO (nL ⟨[],0,⟨[hP 0 0 [9],hP 1 0 [61],hP 3 0 [62],hP 7 0 [63,4],hR 15 0 [63,64],hP 31 0 [63,65],hP 63 0 [63,66],hP 127 0 [67],hP 255 0 [68,4],hR 511 0 [68,69],hP 255 0 [68,0],hP 1279 0 [68,71],hP 3327 0 [68,72],hR 7423 0 [68,73],hP 16383 0 [68,70,74],hP 32767 0 [68,75],hP 65535 0 [76],hP 131071 0 [77,4],hR 262143 0 [77,78],hP 524287 0 [77,79],hP 1048575 0 [77,80],hP 2097151 0 [77,81],hE 4194303 0 [77,82],hP 8388607 1 [77,83],hP 16777215 1 [84]],1,[(4,[0]),(9,[0]),(13,[0]),(18,[0])]⟩⟩) .nil) .nil) .nil) .nil)))) (nO (nS (nO .nil (nL ⟨[],0,⟨[hP 0 0 [3],hR 1 0 [15],hP 0 0 [2],hP 7 0 [16,17],hP 15 0 [18],hR 31 0 [19],hR 0 0 [6],hP 64 0 [21],hP 192 0 [22],hR 448 0 [23],hP 1023 0 [20,24],hR 2047 0 [25],hP 0 0 [],hE 8191 0 [7,26]],1,[(1,[0]),(5,[0]),(6,[0]),(9,[0]),(11,[0])]⟩⟩)) (nS (nO (nO (nO (nL ⟨[],0,⟨[hP 0 0 [12],hE 1 0 [89],hP 0 1 [7],hR 4 1 [91],hR 15 1 [90,92],hP 31 1 [93],hP 63 1 [88],hP 63 1 [88],hP 127 1 [94],hP 511 1 [95]],1,[(3,[0,1]),(4,[1])]⟩⟩) (nO (nL ⟨[],0,⟨[hP 0 0 [11],hR 0 0 [17],hP 1 0 [136],hE 7 0 [9,137],hP 15 1 []],1,[(1,[0])]⟩⟩) .nil)) (nS ⟨[],0,⟨[hP 0 0 [12],hE 1 0 [79],hP 0 1 [7],hR 4 1 [81],hR 15 1 [80,82],hP 31 1 [83],hP 63 1 [78],hP 63 1 [78],hP 127 1 [84],hP 511 1 [85]],1,[(3,[0,1]),(4,[1])]⟩⟩ (nL ⟨[],0,⟨[hP 0 0 [12],hE 1 0 [98],hP 0 1 [7],hR 4 1 [100],hR 15 1 [99,101],hP 31 1 [102]],1,[(3,[0,1]),(4,[1])]⟩⟩) .nil)) (nS ⟨[],0,⟨[hR 0 0 [4],hP 0 0 [1],hE 3 0 [20,21],hP 7 1 [22],hP 15 1 [23],hP 31 1 [24,2],hP 63 1 [24,25],hP 127 1 [24,26],hP 255 1 [27],hP 511 1 [28,2],hP 511 1 [28,4],hR 1535 1 [28,30],hR 3583 1 [28,31],hP 8191 1 [28,29,32],hP 16383 1 [28,33],hP 32767 1 [34],hP 65535 1 [35,7],hR 131071 1 [35,36],hP 262143 1 [35,37],hP 524287 1 [35,38],hP 1048575 1 [39],hP 2097151 1 [40,7],hR 4194303 1 [40,41],hP 2097151 1 [40,11],hR 10485759 1 [40,43],hP 33554431 1 [40,42,44],hP 67108863 1 [40,45],hP 134217727 1 [46],hP 268435455 1 [47,7],hR 536870911 1 [47,48],hE 1073741823 1 [47,49],hP 268435455 2 [47,4],hR 2415919103 2 [47,51],hP 268435455 2 [47,7],hR 8858370047 2 [47,53],hP 32480690175 2 [47,52,54],hP 66840428543 2 [47,55],hR 135559905279 2 [47,56],hP 274877906943 2 [47,50,57],hP 549755813887 2 [47,58]],2,[(0,[0]),(11,[1]),(12,[1]),(17,[1]),(22,[1]),(24,[1]),(29,[1]),(32,[1,2]),(34,[1,2]),(37,[1,2])]⟩⟩ (nS ⟨[],0,⟨[hP 0 0 [2],hP 0 0 [11],hP 0 0 [7],hR 4 0 [64],hP 14 0 [63,65],hP 0 0 [4],hR 32 0 [67],hP 0 0 [7],hR 128 0 [69],hP 480 0 [68,70],hP 992 0 [71],hR 2016 0 [72],hP 0 0 [11],hR 0 0 [7],hP 16383 0 [62,66,73,74,75],hP 32767 0 [76],hP 65535 0 [77]],0,[(3,[0]),(6,[0]),(8,[0]),(11,[0]),(13,[0])]⟩⟩ (nO (nL ⟨[],0,⟨[hP 0 0 [1],hE 1 0 [123],hP 0 1 [2],hP 0 1 [7],hR 8 1 [126],hP 0 1 [7],hR 32 1 [128],hP 96 1 [129],hP 252 1 [125,127,130],hP 3 1 [124],hE 1023 1 [9,131],hP 2047 2 []],2,[(4,[0,1]),(6,[0,1])]⟩⟩) .nil) .nil) (nO (nO (nL ⟨[],0,⟨[hP 0 0 [11],hR 0 0 [17],hP 1 0 [134],hE 7 0 [9,135],hP 15 1 []],1,[(1,[0])]⟩⟩) .nil) .nil))) (nL (nO (nO (nL ⟨[],0,⟨[hP 0 0 [0],hP 1 0 [11],hP 3 0 [12],hR 7 0 [13],hP 0 0 [0],hP 16 0 [15],hP 48 0 [16],hR 112 0 [17],hP 255 0 [14],hP 511 0 [19],hE 1023 0 [20,18]],1,[(3,[0]),(7,[0])]⟩⟩) .nil) .nil)) .nil) .nil) (nO (nO (nL (nO .nil (nL ⟨[],0,⟨[hR 0 0 [0],hP 1 0 [6],hP 3 0 [7],hR 7 0 [8],hP 15 0 [9],hP 31 0 [10],hR 63 0 [11],hP 0 0 [3],hE 128 0 [13],hP 511 1 [12],hP 1023 1 [14]],1,[(0,[0,1]),(3,[0,1]),(6,[0,1])]⟩⟩))) .nil) (nS (nO (nL ⟨[],0,⟨[hR 0 0 [0],hP 0 0 [2],hE 3 0 [8,9]],1,[(0,[0])]⟩⟩) (nL ⟨[],0,⟨[hP 0 0 [2],hR 0 0 [0],hP 2 0 [12],hP 6 0 [13],hP 14 0 [14],hR 30 0 [15],hE 63 0 [11,16],hP 127 1 [17],hP 255 1 [18],hP 127 1 [1],hE 639 1 [20],hP 2047 2 [1],hE 4095 2 [21,19]],3,[(1,[0]),(5,[0])]⟩⟩)) (nL (nO (nO .nil (nL ⟨[],0,⟨[hP 0 0 [6],hR 0 0 [5],hR 0 0 [0],hE 4 0 [21],hP 14 1 [20,22],hP 31 1 [19,23],hE 63 1 [5,24]],2,[(1,[0,1]),(2,[0])]⟩⟩)) .nil)) .nil)))) (nO (nS (nO (nO (nO .nil (nL ⟨[],0,⟨[hR 0 0 [9],hR 0 0 [12],hP 0 0 [13],hE 1 0 [6,52],hE 11 1 [7,53],hP 31 2 [54]],2,[(0,[0]),(1,[0,1])]⟩⟩)) .nil) .nil) (nS (nO .nil (nO .nil (nL ⟨[],0,⟨[hP 0 0 [2],hR 1 0 [25],hP 0 0 [5],hP 7 0 [26,27],hR 15 0 [28],hR 0 0 [6],hP 0 0 [2],hR 64 0 [31],hR 192 0 [32],hE 511 0 [29,30,33],hP 1023 1 [34]],1,[(1,[0]),(4,[0]),(5,[0]),(7,[0]),(8,[0])]⟩⟩))) (nL (nL ⟨[],0,⟨[hP 0 0 [0],hR 1 0 [2],hP 3 0 [3],hR 7 0 [4],hR 0 0 [1],hP 16 0 [6],hP 48 0 [7],hR 112 0 [8],hE 255 0 [5,9],hP 511 1 [10]],1,[(1,[0]),(3,[0]),(4,[0]),(7,[0])]⟩⟩)) (nO (nL (nO (nO .nil (nL ⟨[],0,⟨[hR 0 0 [0],hP 1 0 [23],hP 3 0 [24],hR 7 0 [25],hP 15 0 [26],hP 31 0 [27],hR 63 0 [28],hR 0 0 [0],hP 128 0 [30],hP 384 0 [31],hR 896 0 [32],hP 2047 0 [29,33]],0,[(0,[0]),(3,[0]),(6,[0]),(7,[0]),(10,[0])]⟩⟩)) (nO .nil (nL ⟨[],0,⟨[hR 0 0 [0],hP 1 0 [35],hP 3 0 [36],hR 7 0 [37],hR 0 0 [0],hP 16 0 [39],hP 48 0 [40],hR 112 0 [41],hP 0 0 [3],hP 256 0 [43],hP 255 0 [38],hP 1279 0 [45],hE 3327 0 [46],hP 8191 1 [42],hP 16383 1 [47],hE 32767 1 [48,44]],2,[(0,[0]),(3,[0]),(4,[0]),(7,[0])]⟩⟩)))) .nil)) (nO .nil (nL (nO (nL ⟨[],0,⟨[hP 0 0 [0],hP 0 0 [1],hP 0 0 [2],hP 6 0 [11,12],hP 1 0 [10],hP 31 0 [14,13],hR 63 0 [15],hP 127 0 [16]],0,[(6,[0])]⟩⟩) (nO (nO (nL ⟨[],0,⟨[hP 0 0 [8],hP 0 0 [1],hR 2 0 [39],hP 7 0 [38,40],hP 15 0 [41],hP 31 0 [42,0],hP 31 0 [42,1],hP 31 0 [42,8],hP 223 0 [42,44,45],hP 63 0 [42,43],hP 1023 0 [42,47,46],hR 2047 0 [42,48],hP 4095 0 [42,49],hP 8191 0 [42,50],hP 16383 0 [51,0],hP 16383 0 [51,1],hP 16383 0 [51,8],hP 114687 0 [51,53,54],hP 32767 0 [51,52],hP 524287 0 [51,56,55],hR 1048575 0 [51,57],hP 2097151 0 [51,58],hP 4194303 0 [51,59],hP 8388607 0 [60,7],hP 16777215 0 [60,61],hP 33554431 0 [51,60,62],hP 67108863 0 [42,51,63],hP 134217727 0 [42,64]],0,[(2,[0]),(11,[0]),(20,[0])]⟩⟩) .nil) .nil))))) (nS (nO (nO (nL ⟨[],0,⟨[hP 0 0 [],hR 0 0 [4],hE 1 0 [2,17],hE 7 1 [3,18]],2,[(1,[0,1])]⟩⟩) (nO .nil (nO (nL ⟨[],0,⟨[hP 0 0 [5],hR 1 0 [78],hP 0 0 [11],hP 4 0 [80],hP 12 0 [81],hR 28 0 [82],hP 60 0 [83],hE 127 0 [79,84],hP 255 1 [5],hE 511 1 [86,85]],2,[(1,[0]),(5,[0])]⟩⟩) .nil))) .nil) .nil (nO (nO (nL (nO (nS ⟨[],0,⟨[hR 0 0 [0],hP 1 0 [3],hP 3 0 [4],hR 7 0 [5],hP 15 0 [6],hP 31 0 [7],hR 63 0 [8],hR 127 0 [9],hR 0 0 [0],hP 256 0 [11],hP 768 0 [12],hR 1792 0 [13],hP 4095 0 [10,14]],0,[(0,[0]),(3,[0]),(6,[0]),(7,[0]),(8,[0]),(11,[0])]⟩⟩ (nL ⟨[],0,⟨[hR 0 0 [0],hP 1 0 [16],hP 3 0 [17],hR 7 0 [18],hR 0 0 [0],hP 16 0 [20],hP 48 0 [21],hR 112 0 [22],hP 240 0 [23],hP 496 0 [24],hR 1008 0 [25],hR 0 0 [0],hP 2048 0 [27],hP 6144 0 [28],hP 14336 0 [29],hR 30720 0 [30],hP 63488 0 [31],hE 131056 0 [26,32],hP 262143 1 [19],hP 524287 1 [34],hE 1048575 1 [35,33]],2,[(0,[0,1]),(3,[0,1]),(4,[0]),(7,[0]),(10,[0]),(11,[0]),(15,[0])]⟩⟩) .nil) .nil)) .nil) .nil))))))
end Go.As.Try
end
section
namespace Go.As.Try
open Go Go.As Go.Proofs
set_option maxRecDepth 100000
theorem alW:(List.range 283).map tab.get=(List.range 283).map (axD Tryz.prog):=by kernel_rfl
theorem Yk:(List.range 226).map VL.get=(List.range 226).map (fun g=>Tryz.prog.funcs[g]?):=by kernel_rfl
theorem arG:(List.range 226).all (fun g=>match VL.get g with |some f=>aDq (WM (lim 283 tab) (hAt htab) g) f|none=>true)=true:=by kernel_rfl
theorem mixed:Tryz.prog.follows .mixedOrders=true:=by kernel_rfl
end Go.As.Try
namespace Go.Proofs
open Go.Shelf
def Tryz.laysM144_ren:Go.Shelf.Ren:=⟨fun|144=>120|143=>173|219=>185|217=>184|225=>193|224=>194|267=>195|266=>192|314=>201|n=>n,fun|9=>9|4=>4|3=>3|5=>5|46=>258|146=>264|51=>261|n=>n,fun|1=>0|n=>n⟩
theorem Tryz.laysM144:Go.Proofs.LaysM.n144 Tryz.prog Tryz.laysM144_ren where
 mixed:=by kernel_rfl
 f143:=Tryz.func173.trans (congrArg some (by kernel_rfl))
 f144:=Tryz.func120.trans (congrArg some (by kernel_rfl))
 f217:=Tryz.func184.trans (congrArg some (by kernel_rfl))
 f219:=Tryz.func185.trans (congrArg some (by kernel_rfl))
 f224:=Tryz.func194.trans (congrArg some (by kernel_rfl))
 f225:=Tryz.func193.trans (congrArg some (by kernel_rfl))
 f266:=Tryz.func192.trans (congrArg some (by kernel_rfl))
 f267:=Tryz.func195.trans (congrArg some (by kernel_rfl))
 f314:=Tryz.func201.trans (congrArg some (by kernel_rfl))
 t3:=Tryz.underlying3
 a3:=Tryz.isAgg3
 z3:=Tryz.sizeOf3
 v3:=Tryz.zeroValue3
 t4:=Tryz.underlying4
 a4:=Tryz.isAgg4
 z4:=Tryz.sizeOf4
 v4:=Tryz.zeroValue4
 t5:=Tryz.underlying5
 a5:=Tryz.isAgg5
 z5:=Tryz.sizeOf5
 v5:=Tryz.zeroValue5
 t9:=Tryz.underlying9
 a9:=Tryz.isAgg9
 z9:=Tryz.sizeOf9
 v9:=Tryz.zeroValue9
 t46:=Tryz.underlying258
 a46:=Tryz.isAgg258
 z46:=Tryz.sizeOf258
 v46:=Tryz.zeroValue258
 t51:=Tryz.underlying261
 a51:=Tryz.isAgg261
 z51:=Tryz.sizeOf261
 v51:=Tryz.zeroValue261
 t146:=Tryz.underlying264
 a146:=Tryz.isAgg264
 z146:=Tryz.sizeOf264
 v146:=Tryz.zeroValue264
 g1:=by kernel_rfl
 i3:=by kernel_rfl
 i4:=by kernel_rfl
 i5:=by kernel_rfl
 i9:=by kernel_rfl
 i46:=by kernel_rfl
 i51:=by kernel_rfl
 i146:=by kernel_rfl
 m1:=by kernel_rfl
 s1_3:=fun w h=>Go.Proofs.cell_of_shapedOpen_int (zero:=#[.int .i64 0]) (t:=3) h (of_decide_eq_true (by kernel_rfl)) (by kernel_rfl) rfl (by kernel_rfl) (by kernel_rfl) Tryz.underlying3
end Go.Proofs
end
section
namespace Go.As
noncomputable section
open Go.RowKit
def Aq:List AV->St->T (AV×St):=fun args s=>match args with
 |[.nI e,.int .u8 (.lit (.ofNat c))]=>if c<256 then .ret (.int .i64 (.op .cnt e (.lit (Int.ofNat c))),s) else .fail
 |args=>Jo args s
def Ap:List AV->St->T (AV×St):=fun args s=>match args with
 |[.nI e,.int .u8 (.lit (.ofNat c))]=>if c<256 then .ret (.int .i64 (.op .idx e (.lit (Int.ofNat c))),s) else .fail
 |args=>Jm args s
def sU:List AV->St->T (AV×St):=fun args s=>match args with
 |[.str b,.nI e]=>if b.length<4294967281 then .ret (.bool (.not (.eq (.op .con (.dat (pI b)) e) (.lit 0))),s) else .fail
 |args=>Ar args s
theorem ahA {x:UInt8} {c:Nat} (hc:c<256):(D.i (x.toNat:Int)= .i (c:Int))↔x=UInt8.ofNat c:=by
 simp only [D.i.injEq,aKG];constructor
 ·intro h;rw [<- h];simp
 ·intro h;rw [h,aJ1];omega
theorem ahC {c:Nat} (hc:c<256): ∀l:List UInt8,(Lib.countByte l (UInt8.ofNat c):Int)=avI (l.map fun b=> .i (b.toNat:Int)) (c:Int)
 |[]=>rfl
 |x::xs=>by
  have ih:=ahC hc xs;unfold Lib.countByte at *;rw [List.count_cons,aJd];simp only [avI];rw [<- ih];by_cases h:x=UInt8.ofNat c
  ·rw [aIR ((ahA hc).2 h),aIR (by simpa using h)];omega
  ·rw [aIQ (fun q=>h ((ahA hc).1 q)),aIQ (by simpa using h)];omega
theorem YU {c:Nat} (hc:c<256): ∀(l:List UInt8) (i:Nat),(Lib.indexByte l (UInt8.ofNat c)= -1->xK (c:Int) (l.map fun b=> .i (b.toNat:Int)) (i:Int)= -1)/\(Lib.indexByte l (UInt8.ofNat c)≠-1->xK (c:Int) (l.map fun b=> .i (b.toNat:Int)) (i:Int)=(i:Int)+Lib.indexByte l (UInt8.ofNat c))
 |[],i=> ⟨fun _=>rfl,fun h=>absurd rfl h⟩
 |x::xs,i=>by
  obtain⟨ih1,ih2⟩:=YU hc xs (i+1);have hge:=Lib.indexByte_ge xs (UInt8.ofNat c);have hcast:(((i+1:Nat):Int))=(i:Int)+1:=by omega
  rw [hcast] at ih1 ih2
  have key:Lib.indexByte (x::xs) (UInt8.ofNat c)=if x=UInt8.ofNat c then 0 else if Lib.indexByte xs (UInt8.ofNat c)= -1 then -1 else Lib.indexByte xs (UInt8.ofNat c)+1:=by simp only [Lib.indexByte,beq_iff_eq]
  have key2:xK (c:Int) ((x::xs).map fun b=> .i (b.toNat:Int)) (i:Int)=if (x.toNat:Int)=(c:Int) then (i:Int) else xK (c:Int) (xs.map fun b=> .i (b.toNat:Int)) ((i:Int)+1):=rfl;by_cases h:x=UInt8.ofNat c
  ·have h':=(ahA hc).2 h;simp only [D.i.injEq] at h';rw [key,key2,aIR h,aIR h'];exact⟨fun q=>by omega,fun _=>by omega⟩
  ·have h': ¬(x.toNat:Int)=(c:Int):=fun q=>h ((ahA hc).1 (by rw [q]));rw [key,key2,aIQ h,aIQ h'];by_cases hi:Lib.indexByte xs (UInt8.ofNat c)= -1
   ·rw [aIR hi];exact⟨fun _=>ih1 hi,fun q=>absurd rfl q⟩
   ·rw [aIQ hi];exact⟨fun q=>by omega,fun _=>by rw [ih2 hi]; omega⟩
theorem aAW {c:Nat} (hc:c<256) (l:List UInt8):PK (l.map fun b=> .i (b.toNat:Int)) (c:Int)=Lib.indexByte l (UInt8.ofNat c):=by
 obtain⟨h1,h2⟩:=YU hc l 0;unfold PK;by_cases h:Lib.indexByte l (UInt8.ofNat c)= -1
 ·have:=h1 h;rw [h]; exact this
 ·have:=h2 h;rw [show ((0:Nat):Int)=0 from rfl,Int.zero_add] at this;exact this
theorem agZ: ∀(c s:List UInt8),acM (c.map fun b=> .i (b.toNat:Int)) (s.map fun b=> .i (b.toNat:Int))=c.isPrefixOf s
 |[],s=>by simp [acM]
 |_::_,[]=>rfl
 |a::x,b::y=>by simp only [aJd,acM,List.isPrefixOf,agZ x y];congr 1;rw [aJz,decide_eq_true_eq,beq_iff_eq];simp only [D.i.injEq,aKG];exact UInt8.toNat_inj
theorem ahB (c:List UInt8): ∀s:List UInt8,akT (s.map fun b=> .i (b.toNat:Int)) (c.map fun b=> .i (b.toNat:Int))=Lib.contains s c
 |[]=>by cases c<;>simp [akT,acM,Lib.contains,Lib.index]
 |b::bs=>by
  have ih:=ahB c bs;have hp:=agZ c (b::bs);simp only [aJd] at hp;unfold Lib.contains at *;simp only [aJd,Lib.index,akT];rw [hp,ih];have hge:=index_ge c bs
  have key:(0<=(if c.isPrefixOf (b::bs)=true then (0:Int) else if (Lib.index bs c == -1)=true then -1 else Lib.index bs c+1))↔(c.isPrefixOf (b::bs)=true\/0<=Lib.index bs c):=by
   by_cases hq:c.isPrefixOf (b::bs)=true
   ·simp [hq]
   ·by_cases h1:Lib.index bs c= -1
    ·simp [hq,h1]
    ·simp only [beq_iff_eq,hq,h1,if_false,false_or,aI9];omega
  rw [aJz,aJ8,decide_eq_true_eq];exact key.symm.trans decide_eq_true_iff.symm
section
variable {P:Program}
theorem akU [Glob] {g:FuncId} {fn:Func} (hf:P.funcs[g]?=some fn) (hname:(fn.name == "runtime.NumGoroutine")=false) (hb:fn.body.isNone=true) (hn:Extern.findNext fn=none) (he:Extern.find fn=some Extern.BytealgCount.count):nT P g Aq:=by
 intro aIP s E w vals u s' r hv hp hl;unfold Aq at hl;split at hl
 ·rename_i e c;split at hl
  ·rename_i hc;have:=aG hl;simp only [aIT] at this;obtain⟨rfl,rfl⟩:=this;simp only [bQ,VR,SE.den] at hv;obtain⟨u1,r1,rfl,hrd,u2,r2,rfl,rfl,rfl⟩:=hv;obtain⟨st,rfl,hd⟩:=hrd.string;refine⟨rfl,hp,?_⟩;unfold vH vG;rw [Ea hf hname hb hn he (Lib.run_countString st (Int.ofNat c) w)];refine⟨E,Stp.refl _ _ _,r,?_⟩;simp only [VR,SE.den,iZ.den];have:(Int.ofNat c).toNat.toUInt8=UInt8.ofNat c:=rfl;rw [this,ahC hc,hd];unfold Bc wO;rw [aW];rfl
  ·simp [T.leaf] at hl
 ·exact avJ hf hname hb hn he _ _ _ _ _ _ _ r hv hp hl
theorem ajT [Glob] {g:FuncId} {fn:Func} (hf:P.funcs[g]?=some fn) (hname:(fn.name == "runtime.NumGoroutine")=false) (hb:fn.body.isNone=true) (hn:Extern.findNext fn=none) (he:Extern.find fn=some Extern.BytealgIndexByte.indexByte):nT P g Ap:=by
 intro aIP s E w vals u s' r hv hp hl;unfold Ap at hl;split at hl
 ·rename_i e c;split at hl
  ·rename_i hc;have:=aG hl;simp only [aIT] at this;obtain⟨rfl,rfl⟩:=this;simp only [bQ,VR,SE.den] at hv;obtain⟨u1,r1,rfl,hrd,u2,r2,rfl,rfl,rfl⟩:=hv;obtain⟨st,rfl,hd⟩:=hrd.string;refine⟨rfl,hp,?_⟩;unfold vH vG;rw [Ea hf hname hb hn he (Lib.run_indexByteString st (Int.ofNat c) w)];refine⟨E,Stp.refl _ _ _,r,?_⟩;simp only [VR,SE.den,iZ.den];have:(Int.ofNat c).toNat.toUInt8=UInt8.ofNat c:=rfl;rw [this,<- aAW hc,hd];unfold Bc wO;rw [aW];rfl
  ·simp [T.leaf] at hl
 ·exact aqK hf hname hb hn he _ _ _ _ _ _ _ r hv hp hl
theorem WH [Glob] {g:FuncId} (hg: ∀(ρ:Nat->Int) (ro:Nat->Prop) (w:World),Glob.ok ρ ro w.heap->∀s sub:ByteArray,s.size<4294967281->Calls P g #[.string s,.string sub] w fun e w'=>e= .returned (.bool (Lib.contains s.data.toList sub.data.toList))/\w'=w)
 (hrun: ∀(args:Array Value) (w:World),(callFunc g args).run P w= .ok (.enter g args) w):nT P g sU:=by
 intro aIP s E w vals u s' r hv hp hl;unfold sU at hl;split at hl
 ·rename_i b e;split at hl
  ·rename_i hlen;have:=aG hl;simp only [aIT] at this;obtain⟨rfl,rfl⟩:=this;simp only [bQ,VR] at hv;obtain⟨u1,r1,rfl,⟨rfl,hbb⟩,u2,r2,rfl,hrd,rfl⟩:=hv;obtain⟨st,rfl,hd⟩:=hrd.string;refine⟨rfl,hp,?_⟩;unfold vH vG;rw [hrun];refine Calls.mono (hg E.ρ E.ro w r.glob (cO b) st (by simpa [cO,ByteArray.size] using hlen)) fun e' w' ⟨he,hw⟩=>?_;subst hw;refine⟨_,he,E,Stp.refl _ _ _,r,?_⟩;simp only [VR,SB.den,SE.den,iZ.den,aF];have h2:(cO b).data.toList=b.map UInt8.ofNat:=by simp [cO]
   rw [h2,hd,Ih b hbb];unfold Bc wO;rw [aW,aW,ahB];cases Lib.contains (b.map UInt8.ofNat) st.data.toList<;>rfl
  ·simp [T.leaf] at hl
 ·exact YW hg hrun _ _ _ _ _ _ _ r hv hp hl
end
end
end Go.As
end

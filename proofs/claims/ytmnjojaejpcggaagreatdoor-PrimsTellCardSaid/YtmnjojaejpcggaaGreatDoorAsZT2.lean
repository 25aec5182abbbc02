import Derived.Deep.LoopGhost
import Derived.IntWalk
import Derived.ChangeArms
import Derived.DataReads
import GoSem.ClaimJoined
import Derived.OpenShut
import Derived.KernelRfl
import Derived.Test.YtmnjojaejpcggaaGreatDoorProg
import Derived.Shelf.Strings.Search3
import Derived.Shelf.LaysM
import Derived.Shelf.Strings.Shaped
import Derived.Test.YtmnjojaejpcggaaGreatDoorAsZT1
set_option linter.unusedSectionVars false
set_option linter.unusedVariables false
set_option linter.unusedSimpArgs false
section
namespace Go.As
noncomputable section
open Go.RowKit
section
variable {P:Program}
theorem DZ {g:FuncId} {fn:Func} {e:Array Value->Sem Value} (hf:P.funcs[g]?=some fn) (hname:(fn.name == "runtime.NumGoroutine")=false) (hb:fn.body.isNone=true) (hn:Extern.findNext fn=none) (he:Extern.find fn=some e)
 {args:Array Value} {w:World} {u:Value} (hr:(e args).run P w= .ok u w):(callFunc g args).run P w= .ok (.value u) w:=by
 have hb2:fn.body=none:=by simpa using hb
 unfold callFunc;simp [hf,hb2,by simpa using hname,hn,he,hr]
def O9 (c:Nat):List Nat->Nat
 |[]=>0
 |x::xs=>if x.beq c then O9 c xs+1 else O9 c xs
def Jf:List AV->St->T (AV×St):=fun args s=>match args with
 |[.str b,.int .u8 (.lit (.ofNat c))]=>if c<256 then .ret (.int .i64 (.lit (Int.ofNat (O9 c b))),s) else .fail
 |_=> .fail
theorem Ue {a b:Nat} (ha:a<256) (hb:b<256):(UInt8.ofNat a == UInt8.ofNat b)=a.beq b:=by
 rw [aHY];simp only [beq_iff_eq,Nat.beq_eq];constructor
 ·intro h;have:=congrArg UInt8.toNat h;simp only [aIr] at this;omega
 ·intro h;rw [h]
theorem TB {c:Nat} (hc:c<256): ∀{s:List Nat},(∀b∈s,b<256)->Lib.countByte (s.map UInt8.ofNat) (UInt8.ofNat c)=O9 c s
 |[],_=>rfl
 |x::xs,h=>by have ih:=TB hc (s:=xs) fun b hb=>h b (by simp [hb]);unfold Lib.countByte at *;rw [aHo,List.count_cons,ih,Ue (h x (by simp)) hc];simp only [O9];cases x.beq c<;>simp
theorem asE [Glob] {g:FuncId} {fn:Func} (hf:P.funcs[g]?=some fn) (hname:(fn.name == "runtime.NumGoroutine")=false) (hb:fn.body.isNone=true) (hn:Extern.findNext fn=none) (he:Extern.find fn=some Extern.BytealgCount.count):nK P g Jf:=by
 intro aHb s E w vals u s' r hv hp hl;unfold Jf at hl;split at hl
 ·rename_i b c;split at hl
  ·rename_i hc;have:=aF hl;simp only [aHf] at this;obtain⟨rfl,rfl⟩:=this;simp only [bT,VR,SE.den] at hv;obtain⟨u1,r1,rfl,⟨rfl,hbb⟩,u2,r2,rfl,rfl,rfl⟩:=hv;refine⟨rfl,hp,?_⟩;unfold uY uX;rw [DZ hf hname hb hn he (Lib.run_countString (dH b) (Int.ofNat c) w)];refine⟨E,Stp.refl _ _ _,r,?_⟩;simp only [VR,SE.den];have:(Int.ofNat c).toNat.toUInt8=UInt8.ofNat c:=rfl;rw [this];have h2:(dH b).data.toList=b.map UInt8.ofNat:=by simp [dH]
   rw [h2,TB hc hbb];rfl
  ·simp [T.leaf] at hl
 ·simp [T.leaf] at hl
def N9 (c:Nat):List Nat->Int
 |[]=> -1
 |x::xs=>if x.beq c then 0 else match N9 c xs with
  | .ofNat n=> .ofNat (n+1)
  | .negSucc n=> .negSucc n
def Je:List AV->St->T (AV×St):=fun args s=>match args with
 |[.str b,.int .u8 (.lit (.ofNat c))]=>if c<256 then .ret (.int .i64 (.lit (N9 c b)),s) else .fail
 |_=> .fail
theorem SK {c:Nat} (hc:c<256): ∀{s:List Nat},(∀b∈s,b<256)->Lib.indexByte (s.map UInt8.ofNat) (UInt8.ofNat c)=N9 c s
 |[],_=>rfl
 |x::xs,h=>by
  have ih:=SK hc (s:=xs) fun b hb=>h b (by simp [hb]);have hge:=Lib.indexByte_ge (xs.map UInt8.ofNat) (UInt8.ofNat c);simp only [aHo,Lib.indexByte,N9];rw [Ue (h x (by simp)) hc];cases x.beq c
  ·simp only [aHv,if_false];rw [ih] at hge ⊢
   cases hi:N9 c xs with
   |ofNat n=>rw [hi] at hge; simp
   |negSucc n=>
    rw [hi] at hge;have:n=0:=by omega
    subst this;rfl
  ·rfl
theorem anT [Glob] {g:FuncId} {fn:Func} (hf:P.funcs[g]?=some fn) (hname:(fn.name == "runtime.NumGoroutine")=false) (hb:fn.body.isNone=true) (hn:Extern.findNext fn=none) (he:Extern.find fn=some Extern.BytealgIndexByte.indexByte):nK P g Je:=by
 intro aHb s E w vals u s' r hv hp hl;unfold Je at hl;split at hl
 ·rename_i b c;split at hl
  ·rename_i hc;have:=aF hl;simp only [aHf] at this;obtain⟨rfl,rfl⟩:=this;simp only [bT,VR,SE.den] at hv;obtain⟨u1,r1,rfl,⟨rfl,hbb⟩,u2,r2,rfl,rfl,rfl⟩:=hv;refine⟨rfl,hp,?_⟩;unfold uY uX;rw [DZ hf hname hb hn he (Lib.run_indexByteString (dH b) (Int.ofNat c) w)];refine⟨E,Stp.refl _ _ _,r,?_⟩;simp only [VR,SE.den];have:(Int.ofNat c).toNat.toUInt8=UInt8.ofNat c:=rfl;rw [this];have h2:(dH b).data.toList=b.map UInt8.ofNat:=by simp [dH]
   rw [h2,SK hc hbb]
  ·simp [T.leaf] at hl
 ·simp [T.leaf] at hl
def UD:List Nat->List Nat->Bool
 |[],_=>true
 |_::_,[]=>false
 |a::x,b::y=>if a.beq b then UD x y else false
def FU (c:List Nat):List Nat->Bool
 |[]=>UD c []
 |b::bs=>if UD c (b::bs) then true else FU c bs
def Af:List AV->St->T (AV×St):=fun args s=>match args with
 |[.str b,.str c]=>if b.length<4294967281 then .ret (.bool (.lit (FU c b)),s) else .fail
 |_=> .fail
theorem adM: ∀{c s:List Nat},(∀b∈c,b<256)->(∀b∈s,b<256)->(c.map UInt8.ofNat).isPrefixOf (s.map UInt8.ofNat)=UD c s
 |[],_,_,_=>by simp [UD]
 |_::_,[],_,_=>by simp [UD]
 |a::x,b::y,hc,hs=>by have ih:=adM (c:=x) (s:=y) (fun z hz=>hc z (by simp [hz])) (fun z hz=>hs z (by simp [hz]));simp only [aHo,List.isPrefixOf,UD];rw [Ue (hc a (by simp)) (hs b (by simp)),ih];cases a.beq b<;>simp
theorem index_ge (sub:List UInt8): ∀l:List UInt8,-1<=Lib.index l sub
 |[]=>by unfold Lib.index; split<;>omega
 |b::l=>by
  have ih:=index_ge sub l;unfold Lib.index;split
  ·omega
  ·split<;>omega
theorem LY {c:List Nat} (hc: ∀b∈c,b<256): ∀{s:List Nat},(∀b∈s,b<256)->Lib.contains (s.map UInt8.ofNat) (c.map UInt8.ofNat)=FU c s
 |[],_=>by cases c<;>simp [Lib.contains,Lib.index,FU,UD]
 |b::bs,h=>by
  have ih:=LY hc (s:=bs) fun z hz=>h z (by simp [hz]);have hp:=adM hc h;simp only [aHo] at hp;unfold Lib.contains at *;simp only [aHo,Lib.index,FU];rw [hp,<- ih];have hge:=index_ge (c.map UInt8.ofNat) (bs.map UInt8.ofNat);cases UD c (b::bs)
  ·simp only [aHv,if_false];by_cases h1:Lib.index (bs.map UInt8.ofNat) (c.map UInt8.ofNat)= -1
   ·rw [h1]; rfl
   ·rw [aHc (by simpa using h1)];rw [decide_eq_decide];omega
  ·simp
theorem Ye [Glob] {g:FuncId} (hg: ∀(ρ:Nat->Int) (ro:Nat->Prop) (w:World),Glob.ok ρ ro w.heap->∀s sub:ByteArray,s.size<4294967281->Calls P g #[.string s,.string sub] w fun e w'=>e= .returned (.bool (Lib.contains s.data.toList sub.data.toList))/\w'=w)
 (hrun: ∀(args:Array Value) (w:World),(callFunc g args).run P w= .ok (.enter g args) w):nK P g Af:=by
 intro aHb s E w vals u s' r hv hp hl;unfold Af at hl;split at hl
 ·rename_i b c;split at hl
  ·rename_i hlen;have:=aF hl;simp only [aHf] at this;obtain⟨rfl,rfl⟩:=this;simp only [bT,VR] at hv;obtain⟨u1,r1,rfl,⟨rfl,hbb⟩,u2,r2,rfl,⟨rfl,hcc⟩,rfl⟩:=hv;refine⟨rfl,hp,?_⟩;unfold uY uX;rw [hrun];refine Calls.mono (hg E.ρ E.ro w r.glob (dH b) (dH c) (by simpa [dH,ByteArray.size] using hlen)) fun e w' ⟨he,hw⟩=>?_;subst hw;refine⟨_,he,E,Stp.refl _ _ _,r,?_⟩;simp only [VR,SB.den];have h2: ∀l:List Nat,(dH l).data.toList=l.map UInt8.ofNat:=by intro l; simp [dH]
   rw [h2,h2,LY hcc hbb]
  ·simp [T.leaf] at hl
 ·simp [T.leaf] at hl
end
end
end Go.As
end
section
namespace Go.As
noncomputable section
structure Kz where
 m:Nat
 k:Kind
 st:Nat
 rd:List Nat
structure YH where
 is:List Kz
 nE:Nat
 rs:List (Nat×List Nat)
def ZQ:Kind->Kind->Bool
 | .pa,.pa=>true
 | .e,.e=>true
 | .r,.r=>true
 |_,_=>false
def EZ:List Nat->List Nat->Bool
 |[],[]=>true
 |a::x,b::y=>Nat.beq a b&&EZ x y
 |_,_=>false
def IU:List Item->List Kz->Bool
 |[],[]=>true
 |x::xs,d::ds=>Nat.beq x.m d.m&&ZQ x.k d.k&&Nat.beq x.st d.st&&EZ x.rd d.rd&&IU xs ds
 |_,_=>false
def IL:List (Item×List Nat)->List (Nat×List Nat)->Bool
 |[],[]=>true
 |(x,ks)::xs,(i,js)::ys=>Nat.beq x.i i&&EZ ks js&&IL xs ys
 |_,_=>false
def Iq:Nat->List Oper->List Kz->List Item
 |i,o::os,d::ds=> ⟨i,o,d.m,d.k,d.st,d.rd⟩ ::Iq (i+1) os ds
 |_,_,_=>[]
def agR (is:List Item):List (Nat×List Nat)->List (Item×List Nat)
 |[]=>[]
 |(i,ks)::r=>match iH is i with
  |some x=>(x,ks)::agR is r
  |none=>agR is r
def statOf (all:List Oper) (H:YH):Stat:=⟨Iq 0 all H.is,H.nE,agR (Iq 0 all H.is) H.rs⟩
def Cj (tt:TT) (all:List Oper) (H:YH):Bool:=match stat tt all with
 |none=>false
 |some q=>IU q.is H.is&&Nat.beq q.nE H.nE&&IL q.rs H.rs
theorem ahM {a b:Kind} (h:ZQ a b=true):a=b:=by cases a<;>cases b<;>simp [ZQ] at h<;>rfl
theorem I4: ∀{a b:List Nat},EZ a b=true->a=b
 |[],[],_=>rfl
 |[],_::_,h=>by simp [EZ] at h
 |_::_,[],h=>by simp [EZ] at h
 |a::x,b::y,h=>by simp only [EZ,aHg] at h;rw [aHj h.1,I4 h.2]
theorem SC {tt:TT} {all:List Oper} {ms:List Nat}: ∀{os:List Oper} {i n:Nat} {ds:List Kz},IU (items tt all ms os i n) ds=true->items tt all ms os i n=Iq i os ds
 |[],i,n,ds,h=>by cases ds<;>simp [items,IU,Iq] at *
 |o::os,i,n,ds,h=>by
  cases ds with
  |nil=>simp [items,IU] at h
  |cons d ds=> simp only [items,IU,aHg] at h;obtain⟨⟨⟨⟨h1,h2⟩,h3⟩,h4⟩,h5⟩:=h;have ih:=SC h5;simp only [items,Iq];rw [ih,aHj h1,ahM h2,aHj h3,I4 h4]
theorem adK {is:List Item}: ∀{xs:List (Item×List Nat)} {ys:List (Nat×List Nat)},(∀p∈xs,iH is p.1.i=some p.1)->IL xs ys=true->agR is ys=xs
 |[],[],_,_=>rfl
 |[],_::_,_,h=>by simp [IL] at h
 |_::_,[],_,h=>by simp [IL] at h
 |(x,ks)::xs,(i,js)::ys,hm,h=>by simp only [IL,aHg] at h;have h1:=hm (x,ks) (by simp);simp only [agR];rw [<- aHj h.1.1,h1,<- I4 h.1.2,adK (fun p hp=>hm p (by simp [hp])) h.2]
theorem WA: ∀{i:Nat} {os:List Oper} {ds:List Kz} {x:Item},x∈Iq i os ds->i<=x.i/\iH (Iq i os ds) (x.i-i)=some x
 |_,[],_,_,h=>by simp [Iq] at h
 |_,_::_,[],_,h=>by simp [Iq] at h
 |i,o::os,d::ds,x,h=>by
  simp only [Iq,aHm] at h ⊢;rcases h with rfl|h
  ·simp [iH]
  ·obtain⟨h1,h2⟩:=WA h;refine⟨by omega,?_⟩;have:x.i-i=(x.i-(i+1))+1:=by omega
   rw [this];exact h2
theorem Jg {tt:TT} {all:List Oper} {H:YH} (h:Cj tt all H=true):stat tt all=some (statOf all H):=by
 unfold Cj at h;split at h
 ·simp at h
 ·rename_i q hq;rw [hq];simp only [aHg] at h;obtain⟨⟨h1,h2⟩,h3⟩:=h;have hq':=hq;unfold stat at hq';simp only at hq';split at hq'
  ·simp only [aHe] at hq';subst hq';have e1:=SC h1;simp only at h2 h3
   have e3:agR (Iq 0 all H.is) H.rs=_:=adK (is:=Iq 0 all H.is) (by
    intro p hp;simp only [aHF,aIo] at hp;obtain⟨x,⟨hx,_⟩,rfl⟩:=hp;rw [e1] at hx;have:=(WA hx).2
    simpa using this) h3
   unfold statOf;rw [e3,<- aHj h2,<- e1]
  ·simp at hq'
end
end Go.As
end
section
namespace Go.As
noncomputable section
def Eu (pos:Nat->Nat) (o:Oper):Oper:={ o with after:=o.after.map (fun e=>{ e with on:=pos e.on }),guard:=match o.guard with |none=>none|some (j,b)=>some (pos j,b) }
def posOf:List Nat->Nat->Nat
 |[],_=>0
 |x::xs,i=>match Nat.beq x i with
  |true=>0
  |false=>posOf xs i+1
def JM (pos:Nat->Nat) (all:List Oper):List Nat->List Oper
 |[]=>[]
 |i::is=>match iH all i with
  |some o=>Eu pos o::JM pos all is
  |none=>[]
def jA (ord:List Nat) (all:List Oper):List Oper:=JM (posOf ord) all ord
def UE (ord:List Nat) (n:Nat):Bool:=
 Nat.beq ord.length n&&(List.range n).all (fun i=>match iH ord (posOf ord i) with |some j=>Nat.beq i j|none=>false)&&
 (List.range n).all (fun j=>match iH ord j with |some i=>Nat.blt i n&&Nat.beq (posOf ord i) j|none=>false)
theorem Xd: ∀(ord:List Nat) (i:Nat),posOf ord i<=ord.length
 |[],_=>aHh _
 |x::xs,i=>by
  simp only [posOf,aHq];split
  ·omega
  ·have:=Xd xs i; omega
theorem Rx: ∀(ord:List Nat) (i:Nat),posOf ord i<ord.length->ord[posOf ord i]?=some i
 |[],_,h=>by simp [posOf] at h
 |x::xs,i,h=>by
  simp only [posOf,aHq] at h ⊢;split
  ·rename_i he;simp [aHj he]
  ·rename_i he;rw [he] at h;simp only at h;simpa using Rx xs i (by omega)
structure Perm (n:Nat) (ord:List Nat):Prop where
 len:ord.length=n
 at': ∀i,i<n->ord[posOf ord i]?=some i
 back: ∀j,j<n->∃i,ord[j]?=some i/\i<n/\posOf ord i=j
theorem ahA {ord:List Nat} {n:Nat} (h:UE ord n=true):Perm n ord:=by
 unfold UE at h;simp only [aHg,aHz,aH5] at h;obtain⟨⟨h1,h2⟩,h3⟩:=h;refine⟨aHj h1,fun i hi=>?_,fun j hj=>?_⟩
 ·have:=h2 i hi;split at this
  ·rename_i j hjj;rw [dI] at hjj;rw [hjj,aHj this]
  ·simp at this
 ·have:=h3 j hj;split at this
  ·rename_i i hii;rw [dI] at hii;simp only [aHg] at this;exact⟨i,hii,by simpa [aIp] using this.1,aHj this.2⟩
  ·simp at this
theorem Perm.lt {n:Nat} {ord:List Nat} (p:Perm n ord) {i:Nat} (hi:i<n):posOf ord i<n:=by have:=p.at' i hi;rw [<- p.len];exact (aHB.1 this).1
theorem Perm.ge {n:Nat} {ord:List Nat} (p:Perm n ord) {i:Nat} (hi: ¬i<n):posOf ord i=n:=by
 have h1:=Xd ord i;rw [p.len] at h1;rcases aHw (posOf ord i) n with h|h
 ·have h2:=Rx ord i (by rw [p.len]; exact h);obtain⟨k,h3,h4,_⟩:=p.back _ h;rw [h2] at h3;simp only [aHe] at h3;omega
 ·omega
theorem Perm.inj {n:Nat} {ord:List Nat} (p:Perm n ord) {i j:Nat} (hi:i<n) (hj:j<n) (h:posOf ord i=posOf ord j):i=j:=by have h1:=p.at' i hi;have h2:=p.at' j hj;rw [h,h2] at h1;simpa using h1.symm
theorem Rz {pos:Nat->Nat} {all:List Oper}: ∀{is:List Nat},(∀i∈is,i<all.length)->∀j:Nat,(JM pos all is)[j]?=(is[j]?).bind fun i=>(all[i]?).map (Eu pos)
 |[],_,j=>by simp [JM]
 |i::is,h,j=>by
  have hi:=h i (by simp);have ih:=Rz (pos:=pos) (is:=is) fun k hk=>h k (by simp [hk]);simp only [JM];rw [dI,aHu hi]
  cases j with
  |zero=>simp [aHu hi]
  |succ j=>simpa using ih j
section
variable {P:Program}
theorem tY {ord:List Nat} {ops:Array Oper} (p:Perm ops.size ord) {i:Nat} (hi:i<ops.size):(jA ord ops.toList)[posOf ord i]?=(ops[i]?).map (Eu (posOf ord)):=by
 unfold jA
 rw [Rz (by
  intro k hk;obtain⟨j,hj,rfl⟩:=aJO hk;obtain⟨i',h1,h2,_⟩:=p.back j (by rw [<- p.len]; exact hj);rw [aHu hj] at h1;simp only [aHe] at h1;rw [h1]
  simpa using h2),p.at' i hi]
 simp
theorem xB {ord:List Nat} {ops:Array Oper} (p:Perm ops.size ord):(jA ord ops.toList).length=ops.size:=by
 have h0: ∀j,j<ops.size->(jA ord ops.toList)[j]?.isSome=true:=by intro j hj;obtain⟨i,_,h2,h3⟩:=p.back j hj;have:=tY p h2;rw [h3] at this;rw [this];simp [h2]
 have hle:(jA ord ops.toList).length<=ops.size:=by
  have: ∀(is:List Nat),(JM (posOf ord) ops.toList is).length<=is.length:=by
   intro is
   induction is with
   |nil=>simp [JM]
   |cons i is ih=>simp only [JM]; split<;>simp; omega
  have:=this ord;rw [p.len] at this;exact this
 rcases aHw (jA ord ops.toList).length ops.size with h|h
 ·have:=h0 _ h;rw [aH2 (aHh _)] at this;simp at this
 ·omega
theorem amE (pos:Nat->Nat) (o:Oper) (a:Act) (w:World) (K:Act->World->Prop) (Q:Exit->Act->World->Prop):(Eu pos o).wp P a w K Q=o.wp P a w K Q:=rfl
theorem Zw (pos:Nat->Nat) (o:Oper) (a:Act) (w:World):(Eu pos o).asks P a w=o.asks P a w:=rfl
theorem TW {ord:List Nat} {ops:Array Oper} (p:Perm ops.size ord) (tmps:Array Value) (j:Nat):yielded (jA ord ops.toList).toArray tmps (posOf ord j)=yielded ops tmps j:=by
 unfold yielded
 have:((jA ord ops.toList).toArray[posOf ord j]?).bind (·.dst)=(ops[j]?).bind (·.dst):=by
  rw [aIZ];rcases aHw j ops.size with h|h
  ·rw [tY p h];cases ops[j]?<;>rfl
  ·rw [p.ge (by omega),aH2 (by rw [xB p]; exact aHh _),aIJ h]
 rw [this]
theorem WE {ord:List Nat} {ops:Array Oper} (p:Perm ops.size ord) (tmps:Array Value) (o:Oper) :
 Region.wanted (Eu (posOf ord) o) (yielded (jA ord ops.toList).toArray tmps)=Region.wanted o (yielded ops tmps):=by
 unfold Region.wanted Eu
 cases hg:o.guard with
 |none=>rfl
 |some g=> obtain⟨j,b⟩:=g;simp only;rw [TW p]
theorem mW {md:Region.Mode} {ops:Array Oper} {listed:Array Bool} {i:Nat}:i∈Region.ready md ops listed↔∃o,ops[i]?=some o/\listed.getD i true=false/\∀e∈o.after.toList,Region.binds md e=true->listed.getD e.on false=true:=by
 unfold Region.ready;simp only [aIo,aH5,aHg,aIj];constructor
 ·rintro⟨h1,h2,h3⟩;have e:=aJA h1;refine⟨_,e,h2,?_⟩;rw [e] at h3;simp only [aHV,aHl,aJZ] at h3;intro x hx hb;have:=h3 x (by simpa using hx);rw [hb] at this;simpa using this
 ·rintro⟨o,h1,h2,h3⟩;have hi:i<ops.size:=(aHN.1 h1).1;refine⟨hi,h2,?_⟩;rw [h1];simp only [aHV,aHl,aJZ];intro x hx
  cases hb:Region.binds md x with
  |false=>rfl
  |true=>simpa using h3 x (by simpa using hx) hb
theorem EW {md:Region.Mode} {ord:List Nat} {ops:Array Oper} (p:Perm ops.size ord) {listed listed':Array Bool} (hz:listed.size=ops.size) (hz':listed'.size=ops.size) (hl: ∀i,i<ops.size->listed'[posOf ord i]?=listed[i]?) {i:Nat} (hi:i<ops.size) :
 posOf ord i∈Region.ready md (jA ord ops.toList).toArray listed'↔i∈Region.ready md ops listed:=by
 have hg: ∀(k:Nat) (d:Bool),listed'.getD (posOf ord k) d=listed.getD k d:=by
  intro k d;simp only [aHZ];rcases aHw k ops.size with h|h
  ·rw [hl k h]
  ·rw [p.ge (by omega),aIJ (by omega),aIJ (by omega)]
 rw [mW,mW,aIZ,tY p hi,hg];constructor
 ·rintro⟨o,h1,h2,h3⟩;rw [aHy] at h1;obtain⟨o0,h0,rfl⟩:=h1;refine⟨o0,h0,h2,fun e he hb=>?_⟩
  have:=h3 { e with on:=posOf ord e.on } (by
   simp only [Eu,aJE,aHF]
   exact⟨e,he,rfl⟩) hb
  rwa [hg] at this
 ·rintro⟨o,h1,h2,h3⟩;refine⟨Eu (posOf ord) o,by rw [h1]; rfl,h2,fun e he hb=>?_⟩;simp only [Eu,aJE,aHF] at he;obtain⟨e0,he0,rfl⟩:=he;show listed'.getD (posOf ord e0.on) false=true;rw [hg];exact h3 e0 he0 hb
theorem YR {md:Region.Mode} {ord:List Nat} {ops:Array Oper} (p:Perm ops.size ord) {Q:Exit->Act->World->Prop}: ∀(fuel:Nat) (listed listed':Array Bool) (a:Act) (w:World),listed.size=ops.size->listed'.size=ops.size->
 (∀i,i<ops.size->listed'[posOf ord i]?=listed[i]?)->wpAny P md (jA ord ops.toList).toArray Q fuel listed' a w->wpAny P md ops Q fuel listed a w:=by
 have aEu: ∀(listed listed':Array Bool),listed.size=ops.size->listed'.size=ops.size->(∀i,i<ops.size->listed'[posOf ord i]?=listed[i]?)->
  (Region.ready md (jA ord ops.toList).toArray listed'= []↔Region.ready md ops listed= []):=by
  intro listed listed' hz hz' hl;constructor
  ·intro h;rw [aJk] at h ⊢;intro i hm
   have hi:i<ops.size:=by obtain⟨o,ho,_⟩:=mW.1 hm;exact (aHN.1 ho).1
   exact h _ ((EW p hz hz' hl hi).2 hm)
  ·intro h;rw [aJk] at h ⊢;intro j hm
   have hj:j<ops.size:=by obtain⟨o,ho,_⟩:=mW.1 hm;rw [aIZ] at ho;rw [<- xB p];exact (aHB.1 ho).1
   obtain⟨i,_,h2,h3⟩:=p.back j hj;subst h3;exact h _ ((EW p hz hz' hl h2).1 hm)
 intro fuel
 induction fuel with
 |zero=> intro listed listed' a w hz hz' hl h;exact⟨(aEu _ _ hz hz' hl).1 h.1,h.2⟩
 |succ fuel ih=>
  intro listed listed' a w hz hz' hl h;refine⟨fun h0=>h.1 ((aEu _ _ hz hz' hl).2 h0),fun i hm=>?_⟩
  have hi:i<ops.size:=by obtain⟨o,ho,_⟩:=mW.1 hm;exact (aHN.1 ho).1
  have hh:=h.2 _ ((EW p hz hz' hl hi).2 hm)
  have hstep: ∀a w,wpAny P md (jA ord ops.toList).toArray Q fuel (listed'.setIfInBounds (posOf ord i) true) a w->wpAny P md ops Q fuel (listed.setIfInBounds i true) a w:=by
   intro a w hw;refine ih _ _ a w (by simp [hz]) (by simp [hz']) (fun k hk=>?_) hw;rw [aI0,aI0];by_cases hik:i=k
   ·subst hik;rw [aHd rfl,aHd rfl,hz,hz',aHd hi,aHd (p.lt hi)]
   ·rw [aHc hik,aHc (fun h=>hik (p.inj hi hk h)),hl k hk]
  have h2:=wpOp_mono hstep hh;unfold wpOp at h2 ⊢;rw [aIZ,tY p hi] at h2
  cases ho:ops[i]? with
  |none=>rw [ho] at h2; exact h2
  |some o=> rw [ho] at h2;simp only [aHV] at h2 ⊢;rw [WE p,amE,Zw] at h2;exact h2
structure atB where
 ord:List Nat
 h:YH
def arS (tt:TT) (H:Nat->Nat->Option atB) (call:eF) (g id:Nat) (all:List Oper) (s:St):T St:=match H g id with
 |some p=>match p.ord with
  |[]=>OW tt call all (statOf all p.h) s
  |o::os=>match jA (o::os) all with
   |all'=>OW tt call all' (statOf all' p.h) s
 |none=> .fail
def P8 (tt:TT) (H:Nat->Nat->Option atB) (g id:Nat) (all:List Oper):Bool:=match H g id with
 |some p=>match p.ord with
  |[]=>Cj tt all p.h
  |o::os=>UE (o::os) all.length&&Cj tt (jA (o::os) all) p.h
 |none=>true
theorem arR [Glob] {tt:TT} (htt:fE P tt) (hm:P.follows .mixedOrders=true) {H:Nat->Nat->Option atB} {call:eF} (hc:kP P call) (g:Nat):Dq P (P8 tt H g) (arS tt H call g):=by
 intro id ops hk E s s' a w Q hd fit h hq;unfold P8 at hk;unfold arS at h;split at hk
 ·rename_i p hp;rw [hp] at h;simp only at h;split at hk
  ·rename_i he;rw [he] at h;have:=Jg hk;refine axG htt hm hc id ops E s s' a w Q hd fit ?_ hq;unfold draw;rw [this];exact h
  ·rename_i o os he;rw [he] at h;simp only at h;simp only [aHg] at hk;have hp:=ahA hk.1;have hp:Perm ops.size (o::os):=by simpa using hp
   have:=Jg hk.2;refine wp_region_any hm ?_
   have hd': ∀x∈((jA (o::os) ops.toList).toArray).toList,∀d,x.dst=some d->d<a.tmps.size:=by
    intro x hx d hxd;obtain⟨j,hj,rfl⟩:=aJO hx;have hj':j<ops.size:=by rw [<- xB hp]; exact hj
    obtain⟨i,_,h2,h3⟩:=hp.back j hj';have hg:=tY hp h2;rw [h3] at hg
    have hx2:(jA (o::os) ops.toList)[j]?=some ((jA (o::os) ops.toList).toArray.toList[j]):=by rw [aHu hj]
    rw [hx2] at hg;rw [aJA h2] at hg;simp only [aHV,aHe] at hg;rw [hg] at hxd;exact hd (ops[i]) (by simp) d hxd
   have key:=OV (ops:=(jA (o::os) ops.toList).toArray) htt hc hd' fit (by
    unfold draw;rw [this]
    exact h) hq
   have hsz:(jA (o::os) ops.toList).toArray.size=ops.size:=by simpa using xB hp
   rw [hsz] at key;refine YR hp _ _ _ _ _ (by simp) (by simp) (fun i hi=>?_) key;rw [aIK,aIK,aHd hi,aHd (hp.lt hi)]
 ·rename_i hh;rw [hh] at h;simp [T.leaf] at h
end
end
end Go.As
end
section
namespace Go.As
noncomputable section
def RD (h:Hp):List Nat->Tr eP->Tr eP
 |[],t=>t
 |i::is,t=>match h.get i with
  |some o=>RD h is (t.put i (some o))
  |none=>RD h is t
theorem IV {h:Hp}: ∀(is:List Nat) (t:Tr eP),(∀id o,t.get id=some o->h.get id=some o)->∀id o,(RD h is t).get id=some o->h.get id=some o
 |[],_,ht,id,o,hg=>ht id o hg
 |i::is,t,ht,id,o,hg=>by
  simp only [RD] at hg;split at hg
  ·rename_i x hx;refine IV is _ (fun j y hy=>?_) id o hg;rw [Tr.get_put] at hy;split at hy
   ·rename_i he;subst he;simp only [aHe] at hy;subst hy;exact hx
   ·exact ht j y hy
  ·exact IV is t ht id o hg
def IQ:List (SE×List AV)->List (SE×List AV)->Bool
 |[],[]=>true
 |(i,a)::x,(j,b)::y=>iE i j&&kU a b&&IQ x y
 |_,_=>false
theorem Rj: ∀{a b:List (SE×List AV)},IQ a b=true->a=b
 |[],[],_=>rfl
 |[],_::_,h=>by simp [IQ] at h
 |_::_,[],h=>by simp [IQ] at h
 |(i,a)::x,(j,b)::y,h=>by simp only [IQ,aHg] at h;rw [dD _ _ h.1.1,iM _ _ h.1.2,Rj h.2]
def Uy:eP->eP->Bool
 | .cells a e,.cells b f=>kU a b&&Nat.beq e f
 | .vec a t e x,.vec b u f y=>iE a b&&Nat.beq t u&&Nat.beq e f&&IQ x y
 |_,_=>false
theorem Zp {a b:eP} (h:Uy a b=true):a=b:=by
 cases a<;>cases b<;>simp only [Uy,aHv,aHg] at h
 ·rw [iM _ _ h.1,aHj h.2]
 ·rw [dD _ _ h.1.1.1,aHj h.1.1.2,aHj h.1.2,Rj h.2]
def BN {α:Type} (f:α->α->Bool):Tr α->Tr α->Bool
 | .nil,.nil=>true
 | .node v l r,.node u x y=>(match v,u with |some a,some b=>f a b|none,none=>true|_,_=>false)&&BN f l x&&BN f r y
 |_,_=>false
theorem F7 {α:Type} {f:α->α->Bool} (hf: ∀a b,f a b=true->a=b): ∀(a b:Tr α),BN f a b=true->a=b
 | .nil,b,h=>by cases b<;>simp [BN] at h; rfl
 | .node v l r,b,h=>by
   cases b with
   |nil=>simp [BN] at h
   |node u x y=>
    simp only [BN,aHg] at h;rw [F7 hf l x h.1.2,F7 hf r y h.2];have h1:=h.1.1;cases v<;>cases u<;>simp only [aHv] at h1
    ·rfl
    ·rw [hf _ _ h1]
def inL (i:Nat):List Nat->Bool
 |[]=>false
 |j::l=>match Nat.beq i j with
  |true=>true
  |false=>inL i l
theorem U5 {i:Nat}: ∀{l:List Nat},inL i l=true↔i∈l
 |[]=>by simp [inL]
 |j::l=>by
  simp only [inL,aHm];split
  ·rename_i h; simp [aHj h]
  ·rename_i h; rw [U5]; simp [aIQ h]
def without (i:Nat):List Nat->List Nat
 |[]=>[]
 |j::l=>match Nat.beq i j with
  |true=>without i l
  |false=>j::without i l
theorem xC {i k:Nat}: ∀{l:List Nat},k∈without i l↔k∈l/\k≠i
 |[]=>by simp [without]
 |j::l=>by
  simp only [without];split
  ·rename_i h;have:=aHj h;subst this;rw [xC];simp only [aHm];constructor
   ·rintro⟨h1,h2⟩; exact⟨.inr h1,h2⟩
   ·rintro⟨h1|h1,h2⟩
    ·exact absurd h1 h2
    ·exact⟨h1,h2⟩
  ·rename_i h;have:=aIQ h;simp only [aHm];rw [xC];constructor
   ·rintro (rfl|⟨h1,h2⟩)
    ·exact⟨.inl rfl,fun e=>this e.symm⟩
    ·exact⟨.inr h1,h2⟩
   ·rintro⟨h1|h1,h2⟩
    ·exact .inl h1
    ·exact .inr ⟨h1,h2⟩
def Sl (all:List Oper) (rem:List Nat) (i:Nat):Bool:=match iH all i with
 |some o=>o.after.toList.all fun e=>!Region.binds .any e||(!inL e.on rem&&Nat.blt e.on all.length)
 |none=>false
def Yr (tt:TT) (call:eF) (all:List Oper) (pc:List (SB×Bool)) (tS:Tr AV) (tH:Hp):Nat->List Nat->Tr AV->Hp->Bool
 |0,rem,S,H=>match rem with
  |[]=>BN fK S tS&&BN Uy H.m tH.m&&Nat.beq H.next tH.next&&(match H.res with |none=>true|_=>false)
  |_=>false
 |n+1,rem,S,H=>match rem with
  |[]=>false
  |_=>rem.any (Sl all rem)&&rem.all fun i=>match Sl all rem i with
   |false=>true
   |true=>match iH all i with
    |some o=>match ev1 tt call all o ⟨S,H,pc⟩ with
     | .ret (v,s')=>Yr tt call all pc tS tH n (without i rem) (BI S o.dst v) s'.h
     |_=>false
    |none=>false
section
variable {P:Program}
theorem alS {E:En} {h:Array Obj} {S:Tr AV} {a:Act} (sr:SR E h S a) {d:Option Nat} {v:AV} {u:Value} (hd: ∀t,d=some t->t<a.tmps.size) (hv:VR E h v u):SR E h (BI S d v) (a.put d u):=by
 cases d with
 |none=>exact sr
 |some t=>exact sr.put (hd t rfl) hv
theorem asX [Glob] {tt:TT} (htt:fE P tt) {call:eF} (hc:kP P call) {ops:Array Oper} {ρ:Nat->Int} {pc:List (SB×Bool)} (hpc:bK ρ pc) {tS:Tr AV} {tH:Hp} (htr:tH.res=none) {Q:Exit->Act->World->Prop} {m:Nat} (hd: ∀o∈ops.toList,∀d,o.dst=some d->d<m) :
 ∀(n:Nat) (rem:List Nat) (S:Tr AV) (H:Hp) (E:En) (a:Act) (w:World) (listed:Array Bool),Yr tt call ops.toList pc tS tH n rem S H=true->E.ρ=ρ->bG E H w->SR E w.heap S a->a.tmps.size=m->listed.size=ops.size->
  (∀i,i<ops.size->(listed[i]?=some true↔i∉rem))->(∀i∈rem,i<ops.size)->
  (∀(a':Act) (w':World) (E':En),Stp E H w E' tH w'->bG E' tH w'->SR E' w'.heap tS a'->a'.tmps.size=m->a'.defers=a.defers->Q .normal a' w')->wpAny P .any ops Q n listed a w:=by
 intro n;have hat: ∀(i:Nat),iH ops.toList i=ops[i]?:=fun i=>by rw [dI,aHT]
 have amG: ∀(rem:List Nat) (listed:Array Bool),listed.size=ops.size->(∀i,i<ops.size->(listed[i]?=some true↔i∉rem))->∀i,i∈Region.ready .any ops listed->i∈rem/\Sl ops.toList rem i=true/\i<ops.size:=by
  intro rem listed hsz hl i hi;obtain⟨o,ho,h1,h2⟩:=mW.1 hi;have hin:i<ops.size:=(aHN.1 ho).1
  have hf:listed[i]?=some false:=by
   have e:listed[i]?=some (listed[i]'(by omega)):=by simp
   rw [e];simp only [aHZ,e,aHl] at h1;rw [h1]
  refine⟨?_,?_,hin⟩
  ·apply Classical.byContradiction;intro hn;rw [(hl i hin).2 hn] at hf;simp at hf
  ·unfold Sl;rw [hat,ho];simp only [aHz];intro e he
   cases hb:Region.binds .any e with
   |false=>rfl
   |true=>
    have:=h2 e he hb
    have hlt:e.on<ops.size:=by
     rcases aHw e.on ops.size with h|h
     ·exact h
     ·simp [aHZ,aIJ (show listed.size<=e.on by omega)] at this
    simp only [aIY,aII,aHg,aIj];refine⟨?_,by simpa [aIp] using hlt⟩
    cases hin2:inL e.on rem with
    |false=>rfl
    |true=>
     exfalso;have hm:=U5.1 hin2;have e1:listed[e.on]?=some (listed[e.on]'(by omega)):=by simp [hsz,hlt]
     simp only [aHZ,e1,aHl] at this;rw [this] at e1;exact (hl e.on hlt).1 e1 hm
 have aBE: ∀(rem:List Nat) (listed:Array Bool),listed.size=ops.size->(∀i,i<ops.size->(listed[i]?=some true↔i∉rem))->(∀i∈rem,i<ops.size)->rem.any (Sl ops.toList rem)=true->Region.ready .any ops listed≠[]:=by
  intro rem listed hsz hl hr hany hnil;rw [aJm] at hany;obtain⟨i,hi,hm⟩:=hany;have hin:=hr i hi
  have:i∈Region.ready .any ops listed:=by
   rw [mW];unfold Sl at hm;rw [hat] at hm;split at hm
   ·rename_i o ho;refine⟨o,ho,?_,fun e he hb=>?_⟩
    ·have e1:listed[i]?=some (listed[i]'(by omega)):=by simp [hsz,hin]
     simp only [aHZ,e1,aHl]
     cases hb:listed[i]'(by omega) with
     |false=>rfl
     |true=> rw [hb] at e1;exact absurd hi ((hl i hin).1 e1)
    ·rw [aHz] at hm;have:=hm e he;rw [hb] at this;simp only [aIY,aII,aHg,aIj] at this;obtain⟨this,hlt⟩:=this;have hlt:e.on<ops.size:=by simpa [aIp] using hlt
     have hnot:e.on∉rem:=fun h=>by rw [U5.2 h] at this; simp at this
     have:=(hl e.on hlt).2 hnot;simp [aHZ,this]
   ·simp at hm
  rw [hnil] at this;simp at this
 induction n with
 |zero=>
  intro rem S H E a w listed h hρ r sr ha hsz hl hr hq;simp only [Yr] at h;split at h
  ·simp only [aHg] at h;obtain⟨⟨⟨h1,h2⟩,h3⟩,h4⟩:=h;have e1:=F7 oJ _ _ h1;have e2:=F7 (fun _ _=>Zp) _ _ h2;have e3:=aHj h3
   have e4:H.res=none:=by
    split at h4
    ·assumption
    ·simp at h4
   have eH:H=tH:=by obtain⟨m1,n1,r1⟩:=H;obtain⟨m2,n2,r2⟩:=tH;simp only at e2 e3 e4 htr;subst e2 e3 e4 htr;rfl
   subst e1 eH;refine⟨?_,hq a w E (Stp.refl _ _ _) r sr ha rfl⟩;rw [aJk];intro i hi;have:=(amG [] listed hsz hl i hi).1;simp at this
  ·simp at h
 |succ n ih=>
  intro rem S H E a w listed h hρ r sr ha hsz hl hr hq;simp only [Yr] at h;split at h
  ·simp at h
  ·rename_i hne;simp only [aHg] at h;refine⟨fun h0=>absurd h0 (aBE rem listed hsz hl hr h.1),fun i hi=>?_⟩;obtain⟨g1,g2,g3⟩:=amG rem listed hsz hl i hi;have hi2:=(aHz.1 h.2) i g1;rw [g2] at hi2;simp only at hi2;split at hi2
   ·rename_i o ho;have ho':ops[i]?=some o:=by rw [<- hat]; exact ho
    split at hi2
    ·rename_i v s' hev;have hact:=VE htt hc (ops:=ops) (o:=o) (s:=⟨S,H,pc⟩) (s':=s') (v:=v) (ρ:=ρ) hpc (by rw [hev]; rfl);refine hact.wpOp hρ r sr ho' fun u E' w' st r' hv=>?_
     have hdo: ∀t,o.dst=some t->t<a.tmps.size:=by intro t ht;rw [ha];exact hd o (Array.mem_toList_iff.2 (aJj ho')) t ht
     have sr':SR E' w'.heap (BI S o.dst v) (a.put o.dst u):=alS (sr.keep (st.keeps r)) hdo hv;refine ih (without i rem) _ _ E' (a.put o.dst u) w' (listed.setIfInBounds i true) hi2 (st.ρ.trans hρ) r' sr' (by rw [Nl]; exact ha) (by simpa using hsz) ?_ ?_ ?_
     ·intro k hk;rw [aI0,xC];by_cases hik:i=k
      ·subst hik;rw [aHd rfl,aHd (by omega)];simp
      ·rw [aHc hik,hl k hk];constructor
       ·intro h1 h2; exact h1 h2.1
       ·intro h1 h2; exact h1 ⟨h2,fun e=>hik e.symm⟩
     ·intro k hk;exact hr k (xC.1 hk).1
     ·intro a' w2 E2 st2 r2 sr2 hs2 hd2;exact hq a' w2 E2 (st.trans st2) r2 sr2 hs2 (by rw [hd2,As.put_defers])
    ·simp at hi2
   ·simp at hi2
end
end
end Go.As
end
section
namespace Go.As
noncomputable section
def OT (o:Oper) (j:Nat):Bool:=o.after.toList.any fun e=>Region.binds .any e&&Nat.beq e.on j
def Uu (n1:Nat) (all:List Oper):Bool:=
 Nat.blt 0 n1&&Nat.ble n1 all.length&&
 (List.range all.length).all (fun j=>match iH all j with
  |some o=>match Nat.blt j n1 with
   |true=>(o.after.toList.all fun e=>!Region.binds .any e||Nat.blt e.on j)&&(match o.guard with |some (k,_)=>Nat.blt k n1|none=>true)
   |false=>OT o (n1-1)
  |none=>false)&&
 (match iH all (n1-1) with
  |some o=>(List.range (n1-1)).all fun i=>OT o i
  |none=>false)
structure abN (n1:Nat) (ops:Array Oper):Prop where
 pos:0<n1
 le:n1<=ops.size
 back: ∀(i:Nat) (o:Oper),i<n1->ops[i]?=some o->∀e∈o.after.toList,Region.binds .any e=true->e.on<i
 guard: ∀(i:Nat) (o:Oper),i<n1->ops[i]?=some o->∀k b,o.guard=some (k,b)->k<n1
 late: ∀(i:Nat) (o:Oper),n1<=i->ops[i]?=some o->∃e∈o.after.toList,Region.binds .any e=true/\e.on=n1-1
 last: ∀(o:Oper),ops[n1-1]?=some o->∀i,i<n1-1->∃e∈o.after.toList,Region.binds .any e=true/\e.on=i
theorem Tq {o:Oper} {j:Nat} (h:OT o j=true): ∃e∈o.after.toList,Region.binds .any e=true/\e.on=j:=by unfold OT at h;rw [aJm] at h;obtain⟨e,he,h⟩:=h;simp only [aHg] at h;exact⟨e,he,h.1,aHj h.2⟩
theorem Zi {n1:Nat} {ops:Array Oper} (h:Uu n1 ops.toList=true):abN n1 ops:=by
 have hat: ∀(i:Nat),iH ops.toList i=ops[i]?:=fun i=>by rw [dI,aHT]
 unfold Uu at h;simp only [aHg] at h;obtain⟨⟨⟨h1,h2⟩,h3⟩,h4⟩:=h;have h1:0<n1:=by simpa [aIp] using h1
 have h2:n1<=ops.size:=by simpa using aHW h2
 rw [aHz] at h3
 have h3: ∀(i:Nat) (o:Oper),ops[i]?=some o->(match Nat.blt i n1 with
  |true=>(o.after.toList.all fun e=>!Region.binds .any e||Nat.blt e.on i)&&(match o.guard with |some (k,_)=>Nat.blt k n1|none=>true)
  |false=>OT o (n1-1))=true:=by
  intro i o ho;have hi:i<ops.size:=(aHN.1 ho).1;have:=h3 i (aH5.2 (by simpa using hi));rw [hat,ho] at this;exact this
 refine⟨h1,h2,?_,?_,?_,?_⟩
 ·intro i o hi ho e he hb;have:=h3 i o ho;rw [show Nat.blt i n1=true by simpa [aIp] using hi] at this;simp only [aHg] at this;have:=(aHz.1 this.1) e he;rw [hb] at this;simpa [aIp] using this
 ·intro i o hi ho k b hg;have:=h3 i o ho;rw [show Nat.blt i n1=true by simpa [aIp] using hi] at this;simp only [aHg,hg] at this;simpa [aIp] using this.2
 ·intro i o hi ho;have:=h3 i o ho
  rw [show Nat.blt i n1=false by
   cases hb:Nat.blt i n1 with
   |false=>rfl
   |true=>rw [aIp] at hb; omega] at this
  exact Tq this
 ·intro o ho i hi;rw [hat,ho] at h4;exact Tq ((aHz.1 h4) i (aH5.2 hi))
section
variable {P:Program}
theorem wp_exit {o:Oper} {a:Act} {w:World} {K:Act->World->Prop} {Q1 Q:Exit->Act->World->Prop} (h: ∀e a w,e≠.normal->Q1 e a w->Q e a w) (hh:o.wp P a w K Q1):o.wp P a w K Q:=by
 have hl:LetsOut Q1->LetsOut Q:=fun⟨a,w,h1⟩=> ⟨a,w,h _ _ _ (by simp) h1⟩;unfold Oper.wp at *;generalize (execOp a.eval o).run P w=r at *
 cases r with
 |ok n w'=>
  cases n<;>simp only [Oper.upon] at hh ⊢<;>
   first
    |exact hh
    |exact Calls.mono hh (fun e w'' he=>by cases e<;>first |exact he|exact h _ _ _ (by simp) he|exact hl he)
 |halt x w'=>cases x<;>simp only [Oper.upon] at hh ⊢<;>first |exact hh|exact h _ _ _ (by simp) hh
theorem Xt {l l':Nat->Bool} {i:Nat} (h1:l i=false) (h2:l' i=true) (h: ∀j,j≠i->l' j=l j): ∀n,i<n->left l' n+1=left l n
 |0,hi=>by omega
 |n+1,hi=>by
  simp only [left];by_cases hin:i=n
  ·subst hin
   have: ∀m,m<=i->left l' m=left l m:=by
    intro m
    induction m with
    |zero=>intro _; rfl
    |succ m ih=> intro hm;simp only [left];rw [ih (by omega),h m (by omega)]
   rw [this i (aHh _)];simp [h1,h2]
  ·have:=Xt h1 h2 h n (by omega);rw [h n (fun e=>hin e.symm)];omega
theorem NZ {l:Nat->Bool}: ∀n,(∀i,i<n->l i=true)->left l n=0
 |0,_=>rfl
 |n+1,h=>by simp only [left];rw [NZ n (fun i hi=>h i (by omega)),h n (by omega)];rfl
def firstT (n1 n:Nat):Array Bool:=(Array.range n).map fun i=>decide (i<n1)
theorem WC {n1:Nat} {ops:Array Oper} (sf:abN n1 ops) {Q Q1:Exit->Act->World->Prop} (hq: ∀e a w,e≠.normal->Q1 e a w->Q e a w) (hn: ∀a w,Q1 .normal a w->wpAny P .any ops Q (ops.size-n1) (firstT n1 ops.size) a w) :
 ∀(f:Nat) (l1 l:Array Bool) (a:Act) (w:World),l1.size=n1->l.size=ops.size->(∀i,i<n1->l[i]?=l1[i]?)->(∀i,n1<=i->i<ops.size->l[i]?=some false)->left (fun i=>l1.getD i true) n1=f->(l1[n1-1]?=some true->f=0)->
  wpAny P .any (ops.toList.take n1).toArray Q1 f l1 a w->wpAny P .any ops Q (f+(ops.size-n1)) l a w:=by
 have hR: ∀i,i<n1->(ops.toList.take n1).toArray[i]?=ops[i]?:=by intro i hi;rw [aIZ,aIn,aHd hi,aHT]
 have hRs:(ops.toList.take n1).toArray.size=n1:=by have:=sf.le;simp;omega
 have hlf:LetsOut Q1->LetsOut Q:=fun⟨a,w,h1⟩=> ⟨a,w,hq _ _ _ (by simp) h1⟩
 have hget: ∀(l:Array Bool) (i:Nat),i<l.size->(l.getD i true=true↔l[i]?=some true)/\(l.getD i false=true↔l[i]?=some true):=by
  intro l i hi;have e:l[i]?=some (l[i]'hi):=by simp
  simp only [aHZ,e,aHl];simp
 intro f
 induction f with
 |zero=>
  intro l1 l a w h1 h2 h3 h4 h5 h6 hw;have hall:=Jd n1 h5
  have:l=firstT n1 ops.size:=by
   apply Array.ext_getElem?;intro i;unfold firstT;rcases aHw i ops.size with hi|hi
   ·rw [aJy,aJz,aHd hi];rcases aHw i n1 with hi1|hi1
    ·rw [h3 i hi1,((hget l1 i (by omega)).1.1 (hall i hi1))];simp [hi1]
    ·rw [h4 i hi1 hi];simp;omega
   ·rw [aIJ (by omega),aIJ (by simp; omega)]
  rw [this,aHn];exact hn a w hw.2
 |succ f ih=>
  intro l1 l a w h1 h2 h3 h4 h5 h6 hw;rw [show f+1+(ops.size-n1)=(f+(ops.size-n1))+1 by omega];have hle:=sf.le;have hpos:=sf.pos;have hlast:l1[n1-1]?=some true->False:=fun h=>by have:=h6 h; omega
  refine⟨fun hnil=>?_,fun i hi=>?_⟩
  ·exfalso
   have hall: ∀i,i<n1->l[i]?=some true:=by
    intro i
    induction i using Nat.strongRecOn with
    |_ i ih2=>
     intro hi;apply Classical.byContradiction;intro hno;have hio:ops[i]?=some (ops[i]'(by omega)):=by simp
     have:i∈Region.ready .any ops l:=by
      rw [mW];refine⟨_,hio,?_,fun e he hb=>?_⟩
      ·cases hb:l.getD i true with
       |false=>rfl
       |true=>exact absurd ((hget l i (by omega)).1.1 hb) hno
      ·have hlt:=sf.back i _ hi hio e he hb;exact (hget l e.on (by omega)).2.2 (ih2 e.on hlt (by omega))
     rw [hnil] at this;simp at this
   have:=NZ (l:=fun i=>l1.getD i true) n1 (fun i hi=>(hget l1 i (by omega)).1.2 (by rw [<- h3 i hi]; exact hall i hi));omega
  ·obtain⟨o,ho,g1,g2⟩:=mW.1 hi;have hin:i<ops.size:=(aHN.1 ho).1
   have hi1:i<n1:=by
    rcases aHw i n1 with h|h
    ·exact h
    ·exfalso;obtain⟨e,e1,e2,e3⟩:=sf.late i o h ho;have:=g2 e e1 e2;rw [e3] at this;have:=(hget l (n1-1) (by omega)).2.1 this;rw [h3 _ (by omega)] at this;exact hlast this
   have hl1:l1.getD i true=false:=by
    cases hb:l1.getD i true with
    |false=>rfl
    |true=> have:=(hget l1 i (by omega)).1.1 hb;rw [<- h3 i hi1] at this;have:=(hget l i (by omega)).1.2 this;rw [g1] at this;simp at this
   have hed: ∀e∈o.after.toList,Region.binds .any e=true->l1.getD e.on false=true:=by intro e he hb;have hlt:=sf.back i o hi1 ho e he hb;have:=(hget l e.on (by omega)).2.1 (g2 e he hb);rw [h3 _ (by omega)] at this;exact (hget l1 e.on (by omega)).2.2 this
   have hr1:i∈Region.ready .any (ops.toList.take n1).toArray l1:=by rw [mW];exact⟨o,by rw [hR i hi1]; exact ho,hl1,hed⟩
   have hop:=hw.2 i hr1
   have hnext: ∀a w,wpAny P .any (ops.toList.take n1).toArray Q1 f (l1.setIfInBounds i true) a w->wpAny P .any ops Q (f+(ops.size-n1)) (l.setIfInBounds i true) a w:=by
    intro a w hw2
    have hleft:left (fun j=>(l1.setIfInBounds i true).getD j true) n1=f:=by
     have:=Xt (l:=fun j=>l1.getD j true) (l':=fun j=>(l1.setIfInBounds i true).getD j true) (i:=i) hl1 (by
      simp only [aHZ,aJl]
      split<;>rfl) (fun j hj=>by
      simp only [aHZ]
      rw [aIg (fun e=>hj e.symm)]) n1 hi1
     omega
    refine ih _ _ a w (by simpa using h1) (by simpa using h2) (fun k hk=>?_) (fun k hk1 hk2=>?_) hleft (fun hlt=>?_) hw2
    ·rw [aI0,aI0,h3 k hk,h1,h2];by_cases hik:i=k
     ·rw [aHd hik,aHd hik,aHd hin,aHd hi1]
     ·rw [aHc hik,aHc hik]
    ·rw [aIg (by omega)];exact h4 k hk1 hk2
    ·by_cases hil:i=n1-1
     ·rw [<- hleft];refine NZ n1 fun k hk=>?_;by_cases hk2:k=i
      ·subst hk2;simp only [aHZ,aJl];split<;>rfl
      ·obtain⟨e,e1,e2,e3⟩:=sf.last o (by rw [<- hil]; exact ho) k (by omega);have:=hed e e1 e2;rw [e3] at this;have:=(hget l1 k (by omega)).2.1 this;simp only [aHZ];rw [aIg (fun e=>hk2 e.symm),this];rfl
     ·rw [aIg hil] at hlt;exact absurd hlt hlast
   have hop:=wpOp_mono hnext hop;unfold wpOp at hop ⊢;rw [hR i hi1,ho] at hop;rw [ho];simp only at hop ⊢
   have hwant:Region.wanted o (yielded (ops.toList.take n1).toArray a.tmps)=Region.wanted o (yielded ops a.tmps):=by
    unfold Region.wanted
    cases hg:o.guard with
    |none=>rfl
    |some g=> obtain⟨k,b⟩:=g;simp only;have:=sf.guard i o hi1 ho k b hg;unfold yielded;rw [hR k this]
   rw [hwant] at hop;split
   ·rename_i hwt;rw [aHd hwt] at hop;rcases hop with h|⟨h,h'⟩
    ·exact .inl (wp_exit hq h)
    ·exact .inr ⟨h,hlf h'⟩
   ·rename_i hwt;rw [aHc hwt] at hop;exact hop
end
end
end Go.As
end
section
namespace Go.As
noncomputable section
def Nc (n1 n:Nat):List Nat:=(List.range (n-n1)).map fun k=>k+n1
def aD8:AV->List Nat
 | .ptr i _=>[i]
 | .slice i _ _ _=>[i]
 |_=>[]
def aB1 (S:Tr AV):List Nat->List Nat
 |[]=>[]
 |t::ts=>match S.get t with
  |some v=>aD8 v++aB1 S ts
  |none=>aB1 S ts
def aeT (all:List Oper) (S:Tr AV):List Nat->List Nat
 |[]=>[]
 |i::is=>match iH all i with
  |some o=>aB1 S (Nz o.op)++aeT all S is
  |none=>aeT all S is
def alV (tt:TT) (call:eF) (all:List Oper) (pc:List (SB×Bool)):List Nat->Tr AV->Hp->Option (Tr AV×Hp)
 |[],S,H=>some (S,H)
 |i::is,S,H=>match iH all i with
  |some o=>match ev1 tt call all o ⟨S,H,pc⟩ with
   | .ret (v,s')=>alV tt call all pc is (BI S o.dst v) s'.h
   |_=>none
  |none=>none
def VN (tt:TT) (call:eF) (all:List Oper) (n1:Nat) (s1:St):T St:=
 match s1.h.res with
 |some _=> .fail
 |none=>match (⟨RD s1.h (aeT all s1.slots (Nc n1 all.length)) .nil,s1.h.next,none⟩ : Hp) with
  |small=>match alV tt call all s1.pc (Nc n1 all.length) s1.slots small with
   |some (S,H)=>match H.res with
    |none=>match Nat.beq H.next s1.h.next&&Yr tt call all s1.pc S H (all.length-n1) (Nc n1 all.length) s1.slots small with
     |true=> .ret ⟨S,⟨Tr.over H.m (Tr.minus small.m s1.h.m),s1.h.next,none⟩,s1.pc⟩
     |false=> .fail
    |some _=> .fail
   |none=> .fail
structure TU where
 ord:List Nat
 n1:Nat
 h:YH
def Tv (tt:TT) (H:Nat->Nat->Option TU) (call:eF) (g id:Nat) (all:List Oper) (s:St):T St:=match H g id with
 |some p=>match p.n1 with
  |0=>match p.ord with
   |[]=>OW tt call all (statOf all p.h) s
   |o::os=>match jA (o::os) all with
    |all'=>OW tt call all' (statOf all' p.h) s
  |n1=>(OW tt call (all.take n1) (statOf (all.take n1) p.h) s).bind (VN tt call all n1)
 |none=> .fail
def VX (tt:TT) (H:Nat->Nat->Option TU) (g id:Nat) (all:List Oper):Bool:=match H g id with
 |some p=>match p.n1 with
  |0=>match p.ord with
   |[]=>Cj tt all p.h
   |o::os=>UE (o::os) all.length&&Cj tt (jA (o::os) all) p.h
  |n1=>Uu n1 all&&Cj tt (all.take n1) p.h
 |none=>true
section
variable {P:Program}
theorem Sj {n1 n i:Nat} (h:n1<=n):i∈Nc n1 n↔n1<=i/\i<n:=by
 unfold Nc;rw [aHF];constructor
 ·rintro⟨k,hk,rfl⟩;rw [aH5] at hk;omega
 ·rintro⟨h1,h2⟩;exact⟨i-n1,aH5.2 (by omega),by omega⟩
theorem ahL (n:Nat): ∀m,m<=n->left (fun i=>(Array.replicate n false).getD i true) m=m:=by
 intro m
 induction m with
 |zero=>intro _; rfl
 |succ m ih=>
  intro hm;have hlt:m<n:=by omega
  simp only [left];rw [ih (by omega)];simp [hlt]
theorem abE [Glob] {tt:TT} (htt:fE P tt) {call:eF} (hc:kP P call) {ops:Array Oper} {n1:Nat} (sf:abN n1 ops) {E:En} {s s1 s':St} {a a1:Act} {w w1:World} {Q:Exit->Act->World->Prop}
 (hd: ∀o∈ops.toList,∀d,o.dst=some d->d<a.tmps.size) (ht:Then E s a w s1 a1 w1) (h:(VN tt call ops.toList n1 s1).leaf E.ρ=some s') (hq: ∀a' w',Then E s a w s' a' w'->Q .normal a' w') :
 wpAny P .any ops Q (ops.size-n1) (firstT n1 ops.size) a1 w1:=by
 obtain⟨d1,z1,E1,st1,f1⟩:=ht;have hlen:ops.toList.length=ops.size:=aHL;unfold VN at h;split at h
 ·simp [T.leaf] at h
 ·rename_i hres;simp only at h;split at h
  ·rename_i S H hseq;split at h
   ·rename_i hHr;split at h
    ·rename_i hall;simp only [aHg] at hall;have hnx:=aHj hall.1;have:=aF h;subst this
     have hsub: ∀id o,(⟨RD s1.h (aeT ops.toList s1.slots (Nc n1 ops.toList.length)) .nil,s1.h.next,none⟩ : Hp).get id=some o->s1.h.get id=some o:=
      fun id o hg=>IV _ _ (fun _ _ hh=>by simp [Tr.get] at hh) id o hg
     have rs:=f1.rel.part hsub (aHh _) (by simp);have hpc:bK E1.ρ s1.pc:=f1.pc;have hal:=hall.2;rw [hlen] at hal;refine asX htt hc (ops:=ops) (ρ:=E1.ρ) (pc:=s1.pc) hpc hHr (m:=a.tmps.size) hd (ops.size-n1) (Nc n1 ops.size) s1.slots _ E1 a1 w1 (firstT n1 ops.size) hal rfl (by rw [hlen] at rs; exact rs) f1.sr z1 (by simp [firstT]) ?_ ?_ ?_
     ·intro i hi;rw [Sj sf.le];unfold firstT;rw [aJy,aJz,aHd hi];simp only [aHV,aHe,decide_eq_true_eq];omega
     ·intro i hi;exact ((Sj sf.le).1 hi).2
     ·intro a2 w2 E2 st2 r2 sr2 z2 d2;rw [hlen] at hsub;obtain⟨Hc,e0,_,_,r3,YJ⟩:=aoS f1.rel hsub st2 r2 s1.h.next (fun id hid=>r2.fresh id (by omega))
      have fD:=YJ.strong (by rw [e0]; exact aHh _) (by rw [e0]) (fun id hdm=>by
       rcases st2.dmn id hdm with h1|h1|h1
       ·exact .inl h1
       ·have h1':s1.h.next<=id/\id<H.next:=h1;omega
       ·simp at h1)
      subst e0;refine hq a2 w2 ⟨d2.trans d1,z2,E2,st1.trans ?_,?_⟩
      ·rw [hlen]; exact fD
      ·refine⟨by rw [hlen]; exact r3,sr2,?_⟩;show bK E2.ρ s1.pc;rw [st2.ρ];exact hpc
    ·simp [T.leaf] at h
   ·simp [T.leaf] at h
  ·simp [T.leaf] at h
theorem Hl [Glob] {tt:TT} (htt:fE P tt) (hm:P.follows .mixedOrders=true) {H:Nat->Nat->Option TU} {call:eF} (hc:kP P call) (g:Nat):Dq P (VX tt H g) (Tv tt H call g):=by
 intro id ops hk E s s' a w Q hd fit h hq;unfold VX at hk;unfold Tv at h;split at hk
 ·rename_i p hp;rw [hp] at h;simp only at h;split at hk
  ·rename_i hn;rw [hn] at h;simp only at h
   have hP:=arR (P:=P) htt hm (H:=fun _ _=>some ⟨p.ord,p.h⟩) hc g id ops (by
    unfold P8
    exact hk) E s s' a w Q hd fit (by
    unfold arS
    exact h) hq
   exact hP
  ·rename_i n1 hn;split at h
   ·rename_i h0;exact absurd h0 hn
   ·rename_i n1' _;simp only [aHg] at hk;have sf:=Zi hk.1;have hst:=Jg hk.2;obtain⟨s1,h1,h2⟩:=T.gZ h;refine wp_region_any hm ?_;have hle:=sf.le;have hRs:(ops.toList.take p.n1).toArray.size=p.n1:=by simp; omega
    have hd1: ∀o∈(ops.toList.take p.n1).toArray.toList,∀d,o.dst=some d->d<a.tmps.size:=by intro o ho;exact hd o (aHS (by simpa using ho))
    have key:=OV (P:=P) (ops:=(ops.toList.take p.n1).toArray) (Q:=fun e a' w'=>match e with | .normal=>wpAny P .any ops Q (ops.size-p.n1) (firstT p.n1 ops.size) a' w'|e=>Q e a' w') htt hc hd1 fit (s':=s1) (by
     unfold draw;rw [List.toList_toArray,hst]
     exact h1) (fun a' w' ht=>abE htt hc sf hd ht h2 hq)
    rw [hRs] at key
    have:=WC sf (Q:=Q) (fun e a w hne hh=>by
     cases e with
     |normal=>exact absurd rfl hne
     |_=>exact hh) (fun a w hh=>hh) p.n1 (Array.replicate p.n1 false) (Array.replicate ops.size false) a _ (by simp) (by simp) (fun i hi=>by
     rw [aIK,aIK,aHd hi,aHd (by omega)]) (fun i _ hi=>by
     rw [aIK,aHd hi]) (by
     exact ahL p.n1 p.n1 (aHh _)) (fun hh=>by
     rw [aIK,aHd (by have:=sf.pos; omega)] at hh
     simp at hh) key
    rw [show p.n1+(ops.size-p.n1)=ops.size by omega] at this;exact this
 ·rename_i hh;rw [hh] at h;simp [T.leaf] at h
end
end
end Go.As
end
section
namespace Go.As
noncomputable section
def lim {α:Type} (n:Nat) (t:Tr α) (k:Nat):Option α:=match Nat.ble n k with
 |true=>none
 |false=>t.get k
theorem adZ {α:Type} {n:Nat} {t:Tr α} {f:Nat->Option α} (h:(List.range n).map t.get=(List.range n).map f) {k:Nat} {x:α} (hk:lim n t k=some x):f k=some x:=by
 unfold lim at hk;split at hk
 ·simp at hk
 ·rename_i hle
  have hlt:k<n:=by
   have: ¬(n<=k):=by intro h;rw [aI1 h] at hle;simp at hle
   omega
  have:=congrArg (fun l=>l[k]?) h;simp only [aHG,aIC hlt,aHV,aHe] at this;rw [<- this];exact hk
section
variable {P:Program}
theorem atG {n:Nat} {tab:Tr TI} (h:(List.range n).map tab.get=(List.range n).map (atM P)):fE P (lim n tab):=fun _ _ hk=>atL (adZ h hk)
def aBH (chk:Nat->List Oper->Bool) (f:Func):Bool:=!(f.name == "runtime.NumGoroutine")&&(match f.body with |some c=>nH chk f.ntmps c|none=>true)
def hAt {α:Type} (t:Tr (Tr α)) (g id:Nat):Option α:=match t.get g with
 |some u=>u.get id
 |none=>none
theorem avR {n:Nat} {U9:Tr Func} (h:(List.range n).map U9.get=(List.range n).map (fun g=>P.funcs[g]?)) {chk:Nat->Nat->List Oper->Bool} (hc:(List.range n).all (fun g=>match U9.get g with |some f=>aBH (chk g) f|none=>true)=true):aiQ P chk (lim n U9):=by
 intro g fn hk;have h1:=adZ h hk;refine⟨h1,?_⟩
 have hlt:g<n:=by
  unfold lim at hk;split at hk
  ·simp at hk
  ·rename_i hle;rcases aHw g n with h|h
   ·exact h
   ·rw [aI1 h] at hle; simp at hle
 have hget:U9.get g=some fn:=by
  unfold lim at hk;split at hk
  ·simp at hk
  ·exact hk
 have:=aHz.1 hc g (aH5.2 hlt);rw [hget] at this;simp only [aBH,aHg,aIj] at this;refine⟨this.1,fun c hb=>?_⟩;rw [hb] at this;exact this.2
end
end
end Go.As
end
section
namespace Go.As
noncomputable section
structure Ren where
 ns:List SE
 bl:List Nat
 sh:List Nat
def Ren.se (r:Ren):SE->SE
 | .lit n=> .lit n
 | .aO i=>match iH r.ns i with |some e=>e|none=> .aO i
 | .add a b=> .add (r.se a) (r.se b)
 | .sub a b=> .sub (r.se a) (r.se b)
 | .mul a b=> .mul (r.se a) (r.se b)
 | .quo a b=> .quo (r.se a) (r.se b)
 | .rem a b=> .rem (r.se a) (r.se b)
 | .wrap k a=> .wrap k (r.se a)
 | .inp b e=> .inp b (r.se e)
 | .dat d=> .dat d
 | .op o a b=>match o with
   | .len=>dY (r.se a)
   |o=> .op o (r.se a) (r.se b)
 | .ap f a=> .ap f (r.se a)
def Ren.sb (r:Ren):SB->SB
 | .lit b=> .lit b
 | .lt a b=>kM (r.se a) (r.se b)
 | .le a b=> .le (r.se a) (r.se b)
 | .eq a b=>BM (r.se a) (r.se b)
 | .not s=> .not (r.sb s)
 | .and a b=> .and (r.sb a) (r.sb b)
def Ren.id (r:Ren) (i:Nat):Nat:=match iH r.bl i with |some j=>j|none=>0
def Ren.Bc (r:Ren) (i:Nat):Nat:=match iH r.sh i with |some j=>j|none=>0
mutual
def Ren.av (r:Ren):AV->AV
 | .bool b=> .bool (r.sb b)
 | .int k e=> .int k (r.se e)
 | .str s=> .str s
 | .ptr i o=> .ptr (r.id i) (r.Bc i+o)
 | .lH=> .lH
 | .rY cs=> .rY (r.KJ cs)
 | .slice i o l c=> .slice (r.id i) (r.Bc i+o) l c
 | .aY=> .aY
 | .ro cs n f=> .ro (r.KJ cs) n f
 | .map i=> .map (r.id i)
 | .rO=> .rO
 | .func f a b=> .func f (r.KJ a) (r.KJ b)
 | .Cb=> .Cb
 | .iface t v=> .iface t (r.av v)
 | .E5=> .E5
 | .agg cs=> .agg (r.KJ cs)
 | .tuple cs=> .tuple (r.KJ cs)
 | .opq i=> .opq i
 | .inp k ks=> .inp k ks
 | .emp=> .emp
 | .dat e t=> .dat (r.se e) t
 | .nC e=> .nC (r.se e)
 | .sN i n t=>match r.Bc i with
   |0=> .sN (r.id i) (r.se n) t
   |_=> .opq 0
 | .qV i es x o=>match r.Bc i with
   |0=> .qV (r.id i) es (r.se x) o
   |_=> .opq 0
 | .A8 i lo n t=>match r.Bc i with
   |0=> .A8 (r.id i) (r.se lo) (r.se n) t
   |_=> .opq 0
 | .any=> .any
 | .FP z t=> .FP (r.se z) t
def Ren.KJ (r:Ren):List AV->List AV
 |[]=>[]
 |x::xs=>r.av x::r.KJ xs
end
mutual
def rF (n:Nat):AV->Bool
 | .ptr i _=>Nat.blt i n
 | .slice i _ _ _=>Nat.blt i n
 | .map i=>Nat.blt i n
 | .sN i _ _=>Nat.blt i n
 | .qV i _ _ _=>Nat.blt i n
 | .A8 i _ _ _=>Nat.blt i n
 | .rY cs=>uP n cs
 | .ro cs _ _=>uP n cs
 | .func _ a b=>uP n a&&uP n b
 | .iface _ v=>rF n v
 | .agg cs=>uP n cs
 | .tuple cs=>uP n cs
 |_=>true
def uP (n:Nat):List AV->Bool
 |[]=>true
 |x::xs=>rF n x&&uP n xs
end
def Ren.env (r:Ren) (ρ:Nat->Int) (i:Nat):Int:=match iH r.ns i with |some e=>e.den ρ|none=>ρ i
theorem RX {α:Type}: ∀{l:List α} {i:Nat},l.length<=i->iH l i=none
 |[],_,_=>rfl
 |_::_,0,h=>by simp at h
 |_::l,i+1,h=>by simp only [iH]; exact RX (by simpa using h)
theorem Ren.pX {r:Ren} (h:r.ns.length<=900) {ρ:Nat->Int} {i:Nat} (hi:900<=i):r.env ρ i=ρ i:=by unfold Ren.env;rw [RX (by omega)]
theorem Ren.fB {r:Ren} (h:r.ns.length<=900) (ρ:Nat->Int): ∀e:SE,(r.se e).den ρ=e.den (r.env ρ)
 | .lit n=>rfl
 | .aO i=>by simp only [Ren.se,SE.den,Ren.env];split<;>rfl
 | .add a b=>by simp only [Ren.se,SE.den,Ren.fB h ρ a,Ren.fB h ρ b]
 | .sub a b=>by simp only [Ren.se,SE.den,Ren.fB h ρ a,Ren.fB h ρ b]
 | .mul a b=>by simp only [Ren.se,SE.den,Ren.fB h ρ a,Ren.fB h ρ b]
 | .quo a b=>by simp only [Ren.se,SE.den,Ren.fB h ρ a,Ren.fB h ρ b]
 | .rem a b=>by simp only [Ren.se,SE.den,Ren.fB h ρ a,Ren.fB h ρ b]
 | .wrap k a=>by simp only [Ren.se,SE.den,Ren.fB h ρ a]
 | .inp b e=>by simp only [Ren.se,SE.den,Ren.fB h ρ e];rw [Ren.pX h (by omega)]
 | .dat d=>rfl
 | .op o a b=>by
   cases o with
   |len=> simp only [Ren.se,bW,Ren.fB h ρ a];simp [SE.den,jC.den]
   |_=>simp only [Ren.se,SE.den,Ren.fB h ρ a,Ren.fB h ρ b]
 | .ap f a=>by simp only [Ren.se,SE.den,Ren.fB h ρ a];rw [Ren.pX h (by unfold kZ; omega)]
theorem Ren.IK {r:Ren} (h:r.ns.length<=900) (ρ:Nat->Int): ∀c:SB,(r.sb c).den ρ=c.den (r.env ρ)
 | .lit b=>rfl
 | .lt a b=>by simp only [Ren.sb,dU,SB.den,Ren.fB h]
 | .le a b=>by simp only [Ren.sb,SB.den,Ren.fB h]
 | .eq a b=>by simp only [Ren.sb,lM,SB.den,Ren.fB h]
 | .not s=>by simp only [Ren.sb,SB.den,Ren.IK h ρ s]
 | .and a b=>by simp only [Ren.sb,SB.den,Ren.IK h ρ a,Ren.IK h ρ b]
def En.ren (E:En) (r:Ren):En:={ ρ:=r.env E.ρ,θ:=fun i=>((E.θ (r.id i)).1,(E.θ (r.id i)).2+r.Bc i),κ:=fun i=>E.κ (r.id i)-r.Bc i,dm:=fun i=>i<r.bl.length/\E.dm (r.id i),ro:=E.ro }
theorem FI {i n:Nat} (h:Nat.blt i n=true):i<n:=by have:=aHW h;omega
mutual
theorem VR.ren {E:En} {r:Ren} {h:Array Obj} (hl:r.ns.length<=900): ∀(x:AV) (u:Value),rF r.bl.length x=true->VR E h (r.av x) u->VR (E.ren r) h x u
 | .bool b,u,_,hv=>by simp only [Ren.av,VR,En.ren,Ren.IK hl] at *; exact hv
 | .int k e,u,_,hv=>by simp only [Ren.av,VR,En.ren,Ren.fB hl] at *; exact hv
 | .str s,u,_,hv=>by simp only [Ren.av,VR] at *; exact hv
 | .ptr i o,u,hi,hv=>by simp only [Ren.av,VR,En.ren,rF] at *; exact⟨by rw [hv.1,aHR],FI hi,hv.2⟩
 | .lH,u,_,hv=>by simp only [Ren.av,VR] at *; exact hv
 | .rY cs,u,hi,hv=>by simp only [Ren.av,VR,rF] at *;obtain⟨b,o,us,h1,h2,h3,h4⟩:=hv;exact⟨b,o,us,h1,h2,bT.ren hl cs us hi h3,h4⟩
 | .slice i o l c,u,hi,hv=>by
   simp only [Ren.av,VR,rF] at *;obtain⟨h1,a,cap,h2,h3,h4⟩:=hv;refine⟨⟨FI hi,h1⟩,a,cap,h2,h3,?_⟩
   cases c with
   |exact k=> simp only [gJ,En.ren] at *;exact⟨h4.1,h4.2.imp (fun h=>by rw [h,aHR]) id⟩
   |rest es=>
    simp only [gJ,En.ren] at *;rcases h4 with ⟨q1,q2⟩|⟨q1,q2,q3⟩
    ·exact .inl ⟨by rw [q1,aHR],by omega⟩
    ·exact .inr ⟨q1,q2,by omega⟩
 | .aY,u,_,hv=>by simp only [Ren.av,VR] at *; exact hv
 | .ro cs n f,u,hi,hv=>by simp only [Ren.av,VR,rF] at *;obtain⟨b,o,cap,us,h1,h2,h3,h4,h5,h6⟩:=hv;exact⟨b,o,cap,us,h1,h2,h3,h4,bT.ren hl cs us hi h5,h6⟩
 | .map i,u,hi,hv=>by simp only [Ren.av,VR,En.ren,rF] at *; exact⟨hv.1,FI hi,hv.2⟩
 | .rO,u,_,hv=>by simp only [Ren.av,VR] at *; exact hv
 | .func f a b,u,hi,hv=>by simp only [Ren.av,VR,rF,aHg] at *;obtain⟨us,ws,h1,h2,h3⟩:=hv;exact⟨us,ws,h1,bT.ren hl a us hi.1 h2,bT.ren hl b ws hi.2 h3⟩
 | .Cb,u,_,hv=>by simp only [Ren.av,VR] at *; exact hv
 | .iface t v,u,hi,hv=>by simp only [Ren.av,VR,rF] at *;obtain⟨y,h1,h2⟩:=hv;exact⟨y,h1,VR.ren hl v y hi h2⟩
 | .E5,u,_,hv=>by simp only [Ren.av,VR] at *; exact hv
 | .agg cs,u,hi,hv=>by simp only [Ren.av,VR,rF] at *;obtain⟨us,h1,h2⟩:=hv;exact⟨us,h1,bT.ren hl cs us hi h2⟩
 | .tuple cs,u,hi,hv=>by simp only [Ren.av,VR,rF] at *;obtain⟨us,h1,h2⟩:=hv;exact⟨us,h1,bT.ren hl cs us hi h2⟩
 | .opq i,u,_,hv=>by simp only [Ren.av,VR] at hv
 | .inp k ks,u,_,hv=>by
   simp only [Ren.av,VR,En.ren] at *;rw [Ren.pX hl (by omega)];rcases hv with hv|⟨b,o,n,cap,h1,h2,h3,h4,h5⟩
   ·exact .inl hv
   ·refine .inr ⟨b,o,n,cap,h1,h2,h3,h4,fun i j kd hi hj=>?_⟩;rw [Ren.pX hl (by omega)];exact h5 i j kd hi hj
 | .emp,u,_,hv=>by simp only [Ren.av,VR] at *; exact hv
 | .dat e t,u,_,hv=>by simp only [Ren.av,VR,En.ren,Ren.fB hl] at *; exact hv
 | .nC e,u,_,hv=>by simp only [Ren.av,VR,En.ren,Ren.fB hl] at *; exact hv
 | .sN i n t,u,hi,hv=>by
   simp only [Ren.av] at hv;split at hv
   ·rename_i hs;simp only [VR,En.ren,rF,Ren.fB hl] at *;obtain⟨h1,k,a,cap,h2,h3,h4,h5⟩:=hv;refine⟨⟨FI hi,h1⟩,k,a,cap,h2,h3,h4,?_⟩;simp only [gJ,hs] at *;simpa using h5
   ·simp [VR] at hv
 | .any,u,_,_=>by simp only [VR]
 | .FP z t,u,_,hv=>by simp only [Ren.av,VR,En.ren,Ren.fB hl] at *; exact hv
 | .A8 i lo n t,u,hi,hv=>by
   simp only [Ren.av] at hv;split at hv
   ·rename_i hs;simp only [VR,En.ren,rF,Ren.fB hl] at *;obtain⟨h1,l,k,a,cap,h2,h3,h4,h5,h6⟩:=hv;refine⟨⟨FI hi,h1⟩,l,k,a,cap,h2,h3,h4,h5,?_⟩;simp only [gJ,hs] at *;simpa using h6
   ·simp [VR] at hv
 | .qV i es x o,u,hi,hv=>by
   simp only [Ren.av] at hv;split at hv
   ·rename_i hs;simp only [VR,En.ren,rF,Ren.fB hl] at *;obtain⟨h1,k,h2,h3⟩:=hv;exact⟨⟨FI hi,h1⟩,k,h2,by rw [h3,hs,aHJ]⟩
   ·simp [VR] at hv
theorem bT.ren {E:En} {r:Ren} {h:Array Obj} (hl:r.ns.length<=900): ∀(xs:List AV) (us:List Value),uP r.bl.length xs=true->bT E h (r.KJ xs) us->bT (E.ren r) h xs us
 |[],us,_,hv=>by simp only [Ren.KJ,bT] at *; exact hv
 |x::xs,us,hi,hv=>by simp only [Ren.KJ,bT,uP,aHg] at *;obtain⟨u,vs,h1,h2,h3⟩:=hv;exact⟨u,vs,h1,VR.ren hl x u hi.1 h2,bT.ren hl xs vs hi.2 h3⟩
end
theorem axZ {E:En} {r:Ren} {h:Array Obj} {xs ys:List AV} {us:List Value} (hs:kU (r.KJ xs) ys=true) (hv:bT E h ys us):bT E h (r.KJ xs) us:=by rw [iM _ _ hs]; exact hv
def yM (r:Ren):List (AV×AV×Nat)->List (AV×AV×Nat)->Bool
 |[],[]=>true
 |(k,v,_)::xs,(k',v',_)::ys=>match fK (r.av k) k' with
  |true=>match fK (r.av v) v' with
   |true=>yM r xs ys
   |false=>false
  |false=>false
 |_,_=>false
def VF (n:Nat):List (AV×AV×Nat)->Bool
 |[]=>true
 |(k,v,_)::xs=>rF n k&&rF n v&&VF n xs
def Xi (n:Nat):List (SE×List AV)->Bool
 |[]=>true
 |(_,cs)::l=>uP n cs&&Xi n l
def qZ (r:Ren):List (SE×List AV)->List (SE×List AV)->Bool
 |[],[]=>true
 |(i,a)::x,(j,b)::y=>iE (r.se i) j&&kU (r.KJ a) b&&qZ r x y
 |_,_=>false
def ahF (n:Nat):eP->Bool
 | .vec _ _ _ ov=>Xi n ov
 | .cells cs _=>uP n cs
 | .map es _=>VF n es
 | .oQ _ _=>true
 | .jF _ _=>true
def iZ (r:Ren) (k:Nat):eP->eP->Bool
 | .cells cs e,.cells ds f=>match Nat.beq e f with
   |true=>match fZ k ds with
    |some ds=>kU (r.KJ cs) ds
    |none=>false
   |false=>false
 | .map es _,.map fs _=>yM r es fs
 | .oQ s p,.oQ t q=>jT s t&&Nat.beq p q&&Nat.beq k 0
 | .jF e t,.jF e' t'=>iE (r.se e) e'&&Nat.beq t t'&&Nat.beq k 0
 | .vec e t ty ov,.vec e' t' ty' wY=>iE (r.se e) e'&&Nat.beq t t'&&Nat.beq ty ty'&&qZ r ov wY&&Nat.beq k 0
 |_,_=>false
theorem fQ.ren {E:En} {r:Ren} {h:Array Obj} (hl:r.ns.length<=900): ∀{xs ys:List (AV×AV×Nat)} {es:List MapEntry},VF r.bl.length xs=true->yM r xs ys=true->fQ E h ys es->fQ (E.ren r) h xs es
 |[],[],es,_,_,h=>by simp only [fQ] at *; exact h
 |[],_::_,_,_,hs,_=>by simp [yM] at hs
 |(_,_,_)::_,[],_,_,hs,_=>by simp [yM] at hs
 |(k,v,b)::xs,(k',v',b')::ys,es,hi,hs,h=>by
  simp only [VF,aHg] at hi;simp only [yM] at hs;simp only [fQ] at *;obtain⟨e,rr,rfl,h1,h2,_,h4⟩:=h;split at hs
  ·rename_i e1;split at hs
   ·rename_i e2;refine⟨e,rr,rfl,VR.ren hl k _ hi.1.1 (by rw [oJ _ _ e1]; exact h1),VR.ren hl v _ hi.1.2 (by rw [oJ _ _ e2]; exact h2),trivial,fQ.ren hl hi.2 hs h4⟩
   ·simp at hs
  ·simp at hs
theorem wQ {r:Ren}: ∀xs:List AV,(r.KJ xs).length=xs.length
 |[]=>rfl
 |_::xs=>by simp [Ren.KJ,wQ xs]
theorem RI {r:Ren} (hl:r.ns.length<=900) {ρ:Nat->Int} {i:Nat}: ∀{ov wY:List (SE×List AV)},qZ r ov wY=true->dX ρ i wY=(dX (r.env ρ) i ov).map r.KJ
 |[],[],_=>rfl
 |[],_::_,h=>by simp [qZ] at h
 |_::_,[],h=>by simp [qZ] at h
 |(j,a)::x,(k,b)::y,h=>by simp only [qZ,aHg] at h;have h1:=dD _ _ h.1.1;have h2:=iM _ _ h.1.2;simp only [dX];rw [<- h1,Ren.fB hl,<- h2,RI hl h.2];split<;>rfl
theorem RG {n:Nat}: ∀{ov:List (SE×List AV)},Xi n ov=true->∀p∈ov,uP n p.2=true
 |[],_,p,hp=>by simp at hp
 |(j,a)::x,h,p,hp=>by
  simp only [Xi,aHg] at h;rcases aHm.1 hp with rfl|hp
  ·exact h.1
  ·exact RG h.2 p hp
theorem Ht {E:En} {r:Ren} {h:Array Obj} (hl:r.ns.length<=900) {row:Row} {ov wY:List (SE×List AV)} (hs:qZ r ov wY=true) (hi:Xi r.bl.length ov=true): ∀(ds:List D) (i:Nat) {us:List Value},
 bT E h (aK E.ρ row wY ds i) us->bT (E.ren r) h (aK (E.ren r).ρ row ov ds i) us
 |[],_,us,hv=>by simp only [aK,bT] at *; exact hv
 |d::ds,i,us,hv=>by
  simp only [aK] at *;obtain⟨a,b,rfl,h1,h2⟩:=hv.split;refine bT.append ?_ (Ht hl hs hi ds (i+1) h2);rw [RI hl hs] at h1;show bT (E.ren r) h (match dX (r.env E.ρ) i ov with |some cs=>cs|none=>jP row (.dat d)) a
  cases ho:dX (r.env E.ρ) i ov with
  |none=> rw [ho] at h1;simp only [Option.map_none] at h1;exact (iO (E:=E.ren r)).2 (show Ep E.ro h row (dec (enc d)) a from (iO (E:=E)).1 h1)
  |some cs=> rw [ho] at h1;simp only [aHV] at h1;obtain⟨p,p1,p2,_⟩:=oK ho;exact bT.ren hl cs a (by rw [<- p2]; exact RG hi p p1) h1
theorem MQ {r:Ren} {row:Row}: ∀{ov wY:List (SE×List AV)},qZ r ov wY=true->BR row wY->BR row ov
 |[],[],_,h=>h
 |[],_::_,h,_=>by simp [qZ] at h
 |_::_,[],h,_=>by simp [qZ] at h
 |(j,a)::x,(k,b)::y,h,ho=>by
  simp only [qZ,aHg] at h;intro p hp;rcases aHm.1 hp with rfl|hp
  ·have:=congrArg List.length (iM _ _ h.1.2);rw [wQ] at this;simp only;rw [this];exact ho (k,b) (by simp)
  ·exact MQ h.2 (fun q hq=>ho q (by simp [hq])) p hp
theorem OR.ren {E:En} {r:Ren} {h:Array Obj} (hl:r.ns.length<=900) {id:Nat} {o o':eP} (hi:ahF r.bl.length o=true) (hs:iZ r (r.Bc id) o o'=true) (ho:OR E h (r.id id) o'):OR (E.ren r) h id o:=by
 cases o with
 |cells cs e=>
  cases o' with
  |cells ds f=>
   simp only [iZ] at hs;simp only [ahF] at hi;split at hs
   ·rename_i he;have he:=aHj he;subst he;split at hs
    ·rename_i ds' hdr;simp only [OR] at *;obtain⟨arr,lo,hi',us,h1,h2,h3,h4,h5,h6,h7⟩:=ho;obtain⟨g1,g2,g3⟩:=h2.fZ hdr;have hlen:=congrArg List.length (iM _ _ hs);rw [wQ] at hlen;refine⟨arr,lo,hi',us.drop (r.Bc id),h1,bT.ren hl cs _ hi (axZ hs g1),fun i u hu=>?_,?_,?_,h6,fun u hu=>h7 u (aHQ hu)⟩
     ·rw [aIq] at hu;have:=h3 _ u hu;show arr[(E.θ (r.id id)).2+r.Bc id+i]?=some u;rw [aHR];exact this
     ·show cs.length<=E.κ (r.id id)-r.Bc id;omega
     ·show (E.θ (r.id id)).2+r.Bc id+(E.κ (r.id id)-r.Bc id)=arr.size;omega
    ·simp at hs
   ·simp at hs
  |map _ _=>simp [iZ] at hs
  |oQ _ _=>simp [iZ] at hs
  |vec _ _ _ _=>simp [iZ] at hs
  |jF _ _=>simp [iZ] at hs
 |map es c=>
  cases o' with
  |map fs d=> simp only [iZ] at hs;simp only [ahF] at hi;simp only [OR] at *;obtain⟨ents,c',h1,h2⟩:=ho;exact⟨ents,c',h1,fQ.ren hl hi hs h2⟩
  |cells _ _=>simp [iZ] at hs
  |oQ _ _=>simp [iZ] at hs
  |vec _ _ _ _=>simp [iZ] at hs
  |jF _ _=>simp [iZ] at hs
 |oQ s p=>
  cases o' with
  |oQ t q=> simp only [iZ,aHg] at hs;have h1:=(qH _ _).1 hs.1.1;have h2:=aHj hs.1.2;have h3:=aHj hs.2;subst h1 h2;simp only [OR,En.ren,h3] at *;exact ho
  |cells _ _=>simp [iZ] at hs
  |map _ _=>simp [iZ] at hs
  |vec _ _ _ _=>simp [iZ] at hs
  |jF _ _=>simp [iZ] at hs
 |jF e t=>
  cases o' with
  |cells _ _=>simp [iZ] at hs
  |map _ _=>simp [iZ] at hs
  |oQ _ _=>simp [iZ] at hs
  |vec _ _ _ _=>simp [iZ] at hs
  |jF e' t'=> simp only [iZ,aHg] at hs;have h1:=dD _ _ hs.1.1;have h2:=aHj hs.1.2;subst h1 h2;simp only [OR] at *;have hden:e.den (E.ren r).ρ=(r.se e).den E.ρ:=(Ren.fB hl E.ρ e).symm;rw [hden];exact ho
 |vec e t ty ov=>
  cases o' with
  |cells _ _=>simp [iZ] at hs
  |map _ _=>simp [iZ] at hs
  |oQ _ _=>simp [iZ] at hs
  |jF _ _=>simp [iZ] at hs
  |vec e' t' ty' wY=>
   simp only [iZ,aHg] at hs;simp only [ahF] at hi;have h1:=dD _ _ hs.1.1.1.1;have h2:=aHj hs.1.1.1.2;have h3:=aHj hs.1.1.2;have h4:=aHj hs.2;have hov:=hs.1.2;subst h1 h2 h3;simp only [OR] at *;obtain⟨h0,arr,lo,hi',us,q1,q2,q3,q4,q5,q6,q7⟩:=ho;have hok:=MQ hov h0.1;have hden:e.den (E.ren r).ρ=(r.se e).den E.ρ:=(Ren.fB hl E.ρ e).symm;rw [hden];refine⟨⟨hok,h0.2⟩,arr,lo,hi',us,q1,Ht hl hov hi _ _ q2,?_,?_,?_,q6,q7⟩
   ·intro i u hu;show arr[(E.θ (r.id id)).2+r.Bc id+i]?=some u;rw [h4,aHJ];exact q3 i u hu
   ·show _<=E.κ (r.id id)-r.Bc id;rw [bP hok,h4,aIf,<- bP (ρ:=E.ρ) h0.1];exact q4
   ·show (E.θ (r.id id)).2+r.Bc id+(E.κ (r.id id)-r.Bc id)=arr.size;rw [h4,aHJ,aIf];exact q5
end
end Go.As
end
section
namespace Go.As
noncomputable section
open Go.RowKit
structure CS where
 k:Nat
 slots:List (Nat×AV)
 objs:List eP
 pc:List (SB×Bool)
 m:SE
def sO:List (Nat×AV)->Tr AV->Tr AV
 |[],t=>t
 |(i,v)::l,t=>sO l (t.put i (some v))
def wB:List eP->Nat->Tr eP->Tr eP
 |[],_,t=>t
 |o::os,i,t=>wB os (i+1) (t.put i (some o))
def CS.st (c:CS):St:=⟨sO c.slots .nil,⟨wB c.objs 0 .nil,c.objs.length,none⟩,c.pc⟩
structure Gs where
 ns:Tr SE
 bl:Tr (Nat×Nat)
def Gs.num (g:Gs) (i:Nat) (e:SE):Gs:=match g.ns.get i with
 |some _=>g
 |none=> ⟨g.ns.put i (some e),g.bl⟩
def Gs.blk (g:Gs) (i j k:Nat):Gs:=match g.bl.get i with
 |some _=>g
 |none=> ⟨g.ns,g.bl.put i (some (j,k))⟩
def Jh (x y:SE) (g:Gs):Gs:=match x with
 | .aO i=>g.num i y
 |_=>g
def aE4:SB->SB->Gs->Gs
 | .not a,.not b,g=>aE4 a b g
 | .eq a b,.eq c d,g=>Jh b d (Jh a c g)
 |_,_,g=>g
mutual
def aoM:AV->AV->Gs->Gs
 | .bool a,.bool b,g=>aE4 a b g
 | .int _ e,.int _ f,g=>Jh e f g
 | .ptr i o,.ptr j p,g=>g.blk i j (p-o)
 | .slice i o _ _,.slice j p _ _,g=>g.blk i j (p-o)
 | .map i,.map j,g=>g.blk i j 0
 | .agg a,.agg b,g=>GL a b g
 | .tuple a,.tuple b,g=>GL a b g
 | .iface _ a,.iface _ b,g=>aoM a b g
 | .func _ a b,.func _ c d,g=>GL b d (GL a c g)
 | .rY a,.rY b,g=>GL a b g
 | .ro a _ _,.ro b _ _,g=>GL a b g
 | .dat a _,.dat b _,g=>Jh a b g
 | .nC a,.nC b,g=>Jh a b g
 | .sN i a _,.sN j b _,g=>(Jh a b g).blk i j 0
 | .qV i _ a _,.qV j _ b _,g=>(Jh a b g).blk i j 0
 | .FP a _,.FP b _,g=>Jh a b g
 | .A8 i l a _,.A8 j k b _,g=>(Jh l k (Jh a b g)).blk i j 0
 |_,_,g=>g
def GL:List AV->List AV->Gs->Gs
 |x::xs,y::ys,g=>GL xs ys (aoM x y g)
 |_,_,g=>g
end
def aoL:List (AV×AV×Nat)->List (AV×AV×Nat)->Gs->Gs
 |(k,v,_)::xs,(k',v',_)::ys,g=>aoL xs ys (aoM v v' (aoM k k' g))
 |_,_,g=>g
def ayR:List (SE×List AV)->List (SE×List AV)->Gs->Gs
 |(i,a)::x,(j,b)::y,g=>ayR x y (GL a b (Jh i j g))
 |_,_,g=>g
def aGH (k:Nat) (o o':eP) (g:Gs):Gs:=match o,o' with
 | .cells a _,.cells b _=>match fZ k b with
   |some b=>GL a b g
   |none=>g
 | .map a _,.map b _=>aoL a b g
 | .vec a _ _ ov,.vec b _ _ wY=>ayR ov wY (Jh a b g)
 | .jF a _,.jF b _=>Jh a b g
 |_,_=>g
def Lp (s:Tr AV):List (Nat×AV)->Gs->Gs
 |[],g=>g
 |(t,v)::l,g=>match s.get t with
  |some v'=>Lp s l (aoM v v' g)
  |none=>Lp s l g
def Ji (h:Hp):List eP->Nat->Gs->Gs
 |[],_,g=>g
 |o::os,i,g=>match g.bl.get i with
  |some (j,k)=>match h.get j with
   |some o'=>Ji h os (i+1) (aGH k o o' g)
   |none=>Ji h os (i+1) g
  |none=>Ji h os (i+1) g
def Fb (g:Tr SE):Nat->Nat->List SE
 |0,_=>[]
 |n+1,i=>match g.get i with
  |some e=>e::Fb g n (i+1)
  |none=> .lit 0::Fb g n (i+1)
def UW (g:Tr (Nat×Nat)):Nat->Nat->List Nat
 |0,_=>[]
 |n+1,i=>match g.get i with
  |some (e,_)=>e::UW g n (i+1)
  |none=>0::UW g n (i+1)
def UU (g:Tr (Nat×Nat)):Nat->Nat->List Nat
 |0,_=>[]
 |n+1,i=>match g.get i with
  |some (_,e)=>e::UU g n (i+1)
  |none=>0::UU g n (i+1)
def CS.guess (c:CS) (s:St):Ren:=match Ji s.h c.objs 0 (Lp s.slots c.slots ⟨.nil,.nil⟩) with
 |⟨ns,bl⟩=> ⟨Fb ns c.k 0,UW bl c.objs.length 0,UU bl c.objs.length 0⟩
def adT (i:Nat):List Nat->Bool
 |[]=>true
 |j::l=>match Nat.beq i j with
  |true=>false
  |false=>adT i l
def D8:List Nat->Bool
 |[]=>true
 |i::l=>adT i l&&D8 l
def KU (r:Ren) (n:Nat) (s:Tr AV):List (Nat×AV)->Bool
 |[]=>true
 |(t,v)::l=>match s.get t with
  |some v'=>rF n v&&fK (r.av v) v'&&KU r n s l
  |none=>false
def IZ (r:Ren) (n:Nat) (h:Hp):List eP->Nat->Bool
 |[],_=>true
 |o::os,i=>match h.get (r.id i) with
  |some o'=>ahF n o&&iZ r (r.Bc i) o o'&&IZ r n h os (i+1)
  |none=>false
def Yk (pc:List (SB×Bool)) (e:SE):Option Int×Option Int:=match e with
 | .lit z=>(some z,some z)
 |e=>bounds e pc
def aeS (a b:Int):Bool:=decide (-9223372036854775808<=a)&&decide (b<=9223372036854775807)
def Pq (pc:List (SB×Bool)) (e:SE):Option Int×Option Int:=match e with
 | .wrap .i64 (.add a b)=>match Yk pc a,Yk pc b with
   |(some la,some ha),(some lb,some hb)=>if aeS (la+lb) (ha+hb) then (some (la+lb),some (ha+hb)) else bounds e pc
   |_,_=>bounds e pc
 | .wrap .i64 (.sub a b)=>match Yk pc a,Yk pc b with
   |(some la,some ha),(some lb,some hb)=>if aeS (la-hb) (ha-lb) then (some (la-hb),some (ha-lb)) else bounds e pc
   |_,_=>bounds e pc
 |e=>Yk pc e
def Py (a b:Option Int):Bool:=match a,b with
 |some x,some y=>decide (x<y)
 |_,_=>false
def V4 (a b:Option Int):Bool:=match a,b with
 |some x,some y=>decide (x<=y)
 |_,_=>false
def prv (pc:List (SB×Bool)) (c:SB) (v:Bool):Bool:=
 match nI pc c with
 |some b=>b == v
 |none=>match c with
  | .lt a b=>match v with
    |true=>Py (Pq pc a).2 (Pq pc b).1
    |false=>V4 (Pq pc b).2 (Pq pc a).1
  | .eq a b=>match v with
    |true=>false
    |false=>Py (Pq pc a).2 (Pq pc b).1||Py (Pq pc b).2 (Pq pc a).1
  |_=>false
def Lr (pv:List (SB×Bool)->SB->Bool->Bool) (r:Ren) (pc:List (SB×Bool)):List (SB×Bool)->Bool
 |[]=>true
 |(c,v)::l=>pv pc (r.sb c) v&&Lr pv r pc l
def CS.fits (pv:List (SB×Bool)->SB->Bool->Bool) (c:CS) (s:St) (r:Ren):Bool:=
 Nat.ble r.ns.length 900&&Nat.beq r.bl.length c.objs.length&&D8 r.bl&&KU r c.objs.length s.slots c.slots&&IZ r c.objs.length s.h c.objs 0&&Lr pv r s.pc c.pc
theorem BH: ∀{l:List (Nat×AV)} {t:Tr AV} {i:Nat} {v:AV},(sO l t).get i=some v->(i,v)∈l\/t.get i=some v
 |[],t,i,v,h=> .inr h
 |(j,x)::l,t,i,v,h=>by
  simp only [sO] at h;rcases BH h with h|h
  ·exact .inl (by simp [h])
  ·rw [Tr.get_put] at h;split at h
   ·rename_i e;simp only [aHe] at h;exact .inl (by rw [e,h]; simp)
   ·exact .inr h
theorem nX: ∀{l:List eP} {i:Nat} {t:Tr eP} {j:Nat},(wB l i t).get j=if i<=j/\j<i+l.length then l[j-i]? else t.get j
 |[],i,t,j=>by rw [aHc (by simp)];rfl
 |o::os,i,t,j=>by
  simp only [wB];rw [nX,Tr.get_put];simp only [aHq];by_cases h1:i+1<=j/\j<i+1+os.length
  ·rw [aHd h1,aHd (by omega)];have:j-i=(j-(i+1))+1:=by omega
   rw [this,aHp]
  ·rw [aHc h1];by_cases h3:j=i
   ·subst h3;rw [aHd rfl,aHd (by omega)];simp
   ·rw [aHc h3,aHc (by omega)]
theorem Xn {i:Nat}: ∀{l:List Nat},adT i l=true->i∉l
 |[],_=>by simp
 |j::l,h=>by
  simp only [adT] at h;split at h
  ·simp at h
  ·rename_i hb;have:=aIQ hb;simp [this,Xn h]
theorem vF: ∀{l:List Nat},D8 l=true->∀{i j x:Nat},iH l i=some x->iH l j=some x->i=j
 |[],_,i,_,_,h,_=>by simp [iH] at h
 |y::l,hd,i,j,x,h1,h2=>by
  simp only [D8,aHg] at hd;have hn:=Xn hd.1
  have hm: ∀{i:Nat} {l:List Nat} {x:Nat},iH l i=some x->x∈l:=by intro i l x h;rw [dI] at h;exact aHK h
  cases i with
  |zero=>
   cases j with
   |zero=>rfl
   |succ j=> simp only [iH,aHe] at h1 h2;subst h1;exact absurd (hm h2) hn
  |succ i=>
   cases j with
   |zero=> simp only [iH,aHe] at h1 h2;subst h2;exact absurd (hm h1) hn
   |succ j=> simp only [iH] at h1 h2;rw [vF hd.2 h1 h2]
theorem JC {r:Ren} {n:Nat} {s:Tr AV}: ∀{l:List (Nat×AV)},KU r n s l=true->∀{t:Nat} {v:AV},(t,v)∈l->∃v',s.get t=some v'/\rF n v=true/\r.av v=v'
 |[],_,_,_,h=>by simp at h
 |(t0,v0)::l,hs,t,v,h=>by
  simp only [KU] at hs;split at hs
  ·rename_i v' hv;simp only [aHg] at hs;rcases aHm.1 h with h|h
   ·simp only [aHf] at h;obtain⟨rfl,rfl⟩:=h;exact⟨v',hv,hs.1.1,oJ _ _ hs.1.2⟩
   ·exact JC hs.2 h
  ·simp at hs
theorem mD {r:Ren} {n:Nat} {h:Hp}: ∀{l:List eP} {i:Nat},IZ r n h l i=true->∀{j:Nat} {o:eP},l[j]?=some o->∃o',h.get (r.id (i+j))=some o'/\ahF n o=true/\iZ r (r.Bc (i+j)) o o'=true
 |[],_,_,_,_,h=>by simp at h
 |o0::os,i,hs,j,o,hj=>by
  simp only [IZ] at hs;split at hs
  ·rename_i o' ho;simp only [aHg] at hs
   cases j with
   |zero=> simp at hj;subst hj;exact⟨o',ho,hs.1.1,hs.1.2⟩
   |succ j=> have:=mD hs.2 (j:=j) (by simpa using hj);rw [show i+(j+1)=i+1+j by omega];exact this
  ·simp at hs
def asZ (pv:List (SB×Bool)->SB->Bool->Bool):Prop:= ∀(ρ:Nat->Int) (pc:List (SB×Bool)) (c:SB) (v:Bool),bK ρ pc->pv pc c v=true->c.den ρ=v
theorem Ia {ρ:Nat->Int} {pc:List (SB×Bool)} (hp:bK ρ pc) (e:SE):Within (Yk pc e).1 (Yk pc e).2 (e.den ρ):=by
 unfold Yk;split
 ·simp [Within,SE.den]
 ·exact qJ hp
theorem Oa {a b x:Int} (h:aeS a b=true) (h1:a<=x) (h2:x<=b):IntKind.i64.wrap x=x:=by simp only [aeS,aHg,decide_eq_true_eq] at h;rw [<- pW];simp only [AY];rw [aHd (by omega)]
theorem afZ {ρ:Nat->Int} {pc:List (SB×Bool)} (hp:bK ρ pc) (e:SE):Within (Pq pc e).1 (Pq pc e).2 (e.den ρ):=by
 unfold Pq;split
 ·rename_i a b;have ha:=Ia hp a;have hb:=Ia hp b;split
  ·rename_i la ha' lb hb' e1 e2;rw [e1] at ha;rw [e2] at hb;have a1:=ha.1 la rfl;have a2:=ha.2 ha' rfl;have b1:=hb.1 lb rfl;have b2:=hb.2 hb' rfl;split
   ·rename_i hi;simp only [SE.den];rw [Oa hi (by omega) (by omega)];constructor<;>intro l hl<;>simp at hl<;>omega
   ·exact qJ hp
  ·exact qJ hp
 ·rename_i a b;have ha:=Ia hp a;have hb:=Ia hp b;split
  ·rename_i la ha' lb hb' e1 e2;rw [e1] at ha;rw [e2] at hb;have a1:=ha.1 la rfl;have a2:=ha.2 ha' rfl;have b1:=hb.1 lb rfl;have b2:=hb.2 hb' rfl;split
   ·rename_i hi;simp only [SE.den];rw [Oa hi (by omega) (by omega)];constructor<;>intro l hl<;>simp at hl<;>omega
   ·exact qJ hp
  ·exact qJ hp
 ·exact Ia hp e
theorem Js {a b:Option Int} {x y:Int} (h:Py a b=true) (h1: ∀z,a=some z->x<=z) (h2: ∀z,b=some z->z<=y):x<y:=by
 unfold Py at h;split at h
 ·have:=h1 _ rfl;have:=h2 _ rfl;simp at h;omega
 ·simp at h
theorem abM {a b:Option Int} {x y:Int} (h:V4 a b=true) (h1: ∀z,a=some z->x<=z) (h2: ∀z,b=some z->z<=y):x<=y:=by
 unfold V4 at h;split at h
 ·have:=h1 _ rfl;have:=h2 _ rfl;simp at h;omega
 ·simp at h
theorem ZB:asZ prv:=by
 intro ρ pc c v hp h;unfold prv at h;split at h
 ·rename_i b hb;rw [jL hp hb];simpa using h
 ·split at h
  ·have ha:=fun a=>afZ hp a;split at h
   ·have:=Js h (ha _).2 (ha _).1;simp [SB.den,this]
   ·have:=abM h (ha _).2 (ha _).1;simp [SB.den]; omega
  ·have ha:=fun a=>afZ hp a;split at h
   ·simp at h
   ·simp only [aIh] at h;simp only [SB.den,beq_eq_false_iff_ne,ne_eq];rcases h with h|h
    ·have:=Js h (ha _).2 (ha _).1;omega
    ·have:=Js h (ha _).2 (ha _).1;omega
  ·simp at h
theorem Ov {pv:List (SB×Bool)->SB->Bool->Bool} (hpv:asZ pv) {r:Ren} (hl:r.ns.length<=900) {ρ:Nat->Int} {pc:List (SB×Bool)} (hp:bK ρ pc): ∀{l:List (SB×Bool)},Lr pv r pc l=true->bK (r.env ρ) l
 |[],_=>by intro c b h; simp at h
 |(c0,v0)::l,h=>by
  simp only [Lr,aHg] at h;intro c b hm;rcases aHm.1 hm with hm|hm
  ·simp only [aHf] at hm;obtain⟨rfl,rfl⟩:=hm;rw [<- Ren.IK hl];exact hpv ρ pc _ _ hp h.1
  ·exact Ov hpv hl hp h.2 c b hm
theorem GV [Glob] {pv:List (SB×Bool)->SB->Bool->Bool} (hpv:asZ pv) {E:En} {c:CS} {s:St} {r:Ren} {a:Act} {w:World} (f:Fit E s a w) (h:c.fits pv s r=true):r.ns.length<=900/\Fit (E.ren r) c.st a w/\
 ∀id o,c.st.h.get id=some o->∃o',s.h.get (r.id id)=some o':=by
 unfold CS.fits at h;simp only [aHg] at h;obtain⟨⟨⟨⟨⟨h1,h2⟩,h3⟩,h4⟩,h5⟩,h6⟩:=h;have hl:=aHW h1;have hn:=aHj h2
 have hget: ∀id o,c.st.h.get id=some o->c.objs[id]?=some o:=by
  intro id o ho;have:(wB c.objs 0 .nil).get id=some o:=ho;rw [nX] at this;split at this
  ·simpa using this
  ·simp [Tr.get] at this
 refine⟨hl,⟨⟨?_,?_,?_,?_,f.rel.BO,Glob.ren f.rel.glob fun i hi=>Ren.pX hl hi⟩,?_,Ov hpv hl f.pc h6⟩,?_⟩
 ·intro id hid hd;have:id<r.bl.length:=hd.1;have hid:c.objs.length<=id:=hid;omega
 ·intro x hx;simp [CS.st] at hx
 ·intro id o ho;obtain⟨o',g1,g2,g3⟩:=mD h5 (hget id o ho);rw [aHn] at g1 g3;obtain⟨q1,q2,q3⟩:=f.rel.live _ _ g1;have hlt:=(aHB.1 (hget id o ho)).1;exact⟨⟨by omega,q1⟩,OR.ren hl (by rw [hn]; exact g2) g3 q2,q3⟩
 ·intro id id' o o' ho ho' he;obtain⟨p,g1,_⟩:=mD h5 (hget id o ho);obtain⟨p',g1',_⟩:=mD h5 (hget id' o' ho');rw [aHn] at g1 g1';have heq:=f.rel.inj _ _ _ _ g1 g1' he;have hlt:=(aHB.1 (hget id o ho)).1;have hlt':=(aHB.1 (hget id' o' ho')).1;unfold Ren.id at heq
  cases e1:iH r.bl id with
  |none=>rw [dI,aIU] at e1; omega
  |some x=>
   cases e2:iH r.bl id' with
   |none=>rw [dI,aIU] at e2; omega
   |some y=> rw [e1,e2] at heq;simp only at heq;subst heq;exact vF h3 e1 e2
 ·intro t v ht;have:(sO c.slots .nil).get t=some v:=ht;rcases BH this with h|h
  ·obtain⟨v',g1,g2,g3⟩:=JC h4 h;obtain⟨u,q1,q2⟩:=f.sr t v' g1;exact⟨u,q1,VR.ren hl v u (by rw [hn]; exact g2) (by rw [g3]; exact q2)⟩
  ·simp [Tr.get] at h
 ·intro id o ho;obtain⟨o',g1,_⟩:=mD h5 (hget id o ho);rw [aHn] at g1;exact⟨o',g1⟩
end
end Go.As
end
section
namespace Go.As
noncomputable section
open Go.RowKit
structure Base where
 w0:World
 ro:Nat->Prop
 ρ0:Nat->Int
structure Top [Glob] (B:Base) (E:En) (s:St) (a:Act) (w:World):Prop where
 fit:Fit E s a w
 hi: ∀i,900<=i->E.ρ i=B.ρ0 i
 ro: ∀b,B.ro b->E.ro b
 below:Below B.w0.heap.size B.w0 w
 own: ∀id o,s.h.get id=some o->B.w0.heap.size<=(E.θ id).1
theorem Top.then [Glob] {B:Base} {E:En} {s s':St} {a a':Act} {w w':World} (t:Top B E s a w) (h:Then E s a w s' a' w'): ∃E',Top B E' s' a' w'/\E'.ρ=E.ρ:=by
 obtain⟨_,_,E',st,f'⟩:=h;refine⟨E',⟨f',fun i hi=>by rw [st.ρ]; exact t.hi i hi,fun b hb=>st.ro b (t.ro b hb),?_,?_⟩,st.ρ⟩
 ·refine t.below.trans ⟨st.os,st.tape,st.output,st.size,fun k hk=>?_⟩
  exact st.keep k (aIe hk t.below.size) fun id o ho he=>by have:=t.own id o ho;omega
 ·intro id o ho;rcases aHw (E'.θ id).1 w.heap.size with h|h
  ·obtain⟨Ej,o0,h0,he⟩:=st.own id o ho h;rw [<- he];exact t.own Ej o0 h0
  ·exact aHP t.below.size h
theorem Top.fits [Glob] {pv:List (SB×Bool)->SB->Bool->Bool} (hpv:asZ pv) {B:Base} {E:En} {c:CS} {s:St} {r:Ren} {a:Act} {w:World} (t:Top B E s a w) (h:c.fits pv s r=true):r.ns.length<=900/\Top B (E.ren r) c.st a w:=by
 obtain⟨hl,f,ho⟩:=GV hpv t.fit h;refine⟨hl,f,fun i hi=>?_,t.ro,t.below,fun id o hid=>?_⟩
 ·show r.env E.ρ i=_;rw [Ren.pX hl hi];exact t.hi i hi
 ·obtain⟨o',h'⟩:=ho id o hid;exact t.own _ _ h'
inductive Fr where
 |seq (p:List Nat) (c:Code)
 |block (id:Nat)
def U1 {α:Type}:T α->(α->Bool)->Bool
 | .fail,_=>false
 | .ret a,f=>f a
 | .split _ x y,f=>U1 x f&&U1 y f
structure Cfg where
 tt:TT
 call:eF
 draw:Nat->List Oper->St->T St
 lf:Nat
 pv:List (SB×Bool)->SB->Bool->Bool
 res:List ResultVar
def Cfg.ev (g:Cfg) (c:Code) (s:St):T (Ex×St):=lT g.tt g.call g.draw g.lf c s
def isTrue:Option (List AV)->Bool
 |some [.bool (.lit b)]=>b
 |_=>false
def apD (g:Cfg) (e:Ex) (s:St):Bool:=match e with
 | .exit _=>false
 |_=>isTrue (oN g.tt s g.res)
def aBF:AV->AV->Bool
 | .int _ (.lit a),.int _ (.lit b)=>a == b
 | .int _ (.lit _),.int _ _=>false
 | .slice _ _ n _,.slice _ _ m _=>Nat.beq n m
 | .slice _ _ _ _,_=>false
 | .aY,.aY=>true
 | .aY,_=>false
 |_,_=>true
def quick (s:Tr AV):List (Nat×AV)->Bool
 |[]=>true
 |(t,v)::l=>match s.get t with
  |some v'=>match aBF v v' with
   |true=>quick s l
   |false=>false
  |none=>false
def V6 (pv:List (SB×Bool)->SB->Bool->Bool) (s:St):List CS->Bool
 |[]=>false
 |c::cs=>match quick s.slots c.slots with
  |false=>V6 pv s cs
  |true=>match c.fits pv s (c.guess s) with
   |true=>true
   |false=>V6 pv s cs
abbrev Tabs:=List Nat->Option (List CS)
mutual
def go (g:Cfg) (tabs:Tabs):Nat->List Nat->Code->List Fr->St->Bool
 |0,_,_,_,_=>false
 |n+1,p,c,fr,s=>match tabs p with
  |some cs=>V6 g.pv s cs
  |none=>match c with
   | .seq a b=>go g tabs n (0::p) a (.seq (1::p) b::fr) s
   | .block id b=>go g tabs n (0::p) b (.block id::fr) s
   |c=>U1 (g.ev c s) fun (e,s')=>cont g tabs n fr e s'
def cont (g:Cfg) (tabs:Tabs):Nat->List Fr->Ex->St->Bool
 |0,_,_,_=>false
 |n+1,fr,e,s=>match fr with
  |[]=>apD g e s
  | .seq p c::fr=>match e with
    | .normal=>go g tabs n p c fr s
    |e=>cont g tabs n fr e s
  | .block id::fr=>match e with
    | .exit j=>match Nat.beq j id with
      |true=>cont g tabs n fr .normal s
      |false=>cont g tabs n fr (.exit j) s
    |e=>cont g tabs n fr e s
end
def apart (pc:List (SB×Bool)) (x:SE):List SE->Bool
 |[]=>true
 |y::l=>match decEq pc x y with
  |some false=>apart pc x l
  |_=>false
structure Hint where
 ts:List (SB×Bool):=[]
 xs:List SE:=[]
 n:Nat:=0
section
variable {P:Program} {g:Cfg} {chk:Nat->List Oper->Bool} {N:Nat} {body:Code} {B:Base} {Q:Exit->Act->World->Prop}
structure aG5 [Glob] (P:Program) (g:Cfg) (chk:Nat->List Oper->Bool):Prop where
 tt:fE P g.tt
 call:kP P g.call
 draw:Dq P chk g.draw
 pv:asZ g.pv
theorem Top.pc [Glob] {B:Base} {E:En} {s:St} {a:Act} {w:World} {pc:List (SB×Bool)} (t:Top B E s a w) (hp:bK E.ρ pc):Top B E { s with pc:=pc } a w:=
 ⟨⟨t.fit.rel,t.fit.sr,hp⟩,t.hi,t.ro,t.below,t.own⟩
end
end
end Go.As
end
section
namespace Go.As
noncomputable section
open Go.RowKit
section
variable {P:Program} {c:Code} {Q:Exit->Act->World->Prop} {a:Act} {w:World}
def PN (P:Program) (c:Code) (Q:Exit->Act->World->Prop) (a:Act) (w:World):Prop:=
 ∀b k cs,∃e a' w',Q e a' w'/\Arrives P (lone (b.at a (.code c::.inLoop c::k)) cs w) b k cs e a' w'
theorem ZM (h:c.wp P (Exit.then (PN P c Q) Q) a w):PN P c Q a w:=by
 intro b k cs;obtain⟨e,a₁,w₁,hq,harr⟩:=h b (.inLoop c::k) cs
 cases e with
 |normal=> obtain⟨e₂,a₂,w₂,hq₂,harr₂⟩:=hq b k cs;exact⟨e₂,a₂,w₂,hq₂,.of_steps (Steps.trans harr (.one step_inLoop)) harr₂⟩
 |exit id=>exact⟨_,a₁,w₁,hq,.pass (x:=.inLoop c) rfl (fun _ _=> .inl (by simp)) harr⟩
 |goto l=>exact⟨_,a₁,w₁,hq,.pass (x:=.inLoop c) rfl (fun _ _=> .inl (by simp)) harr⟩
 |ret=>exact⟨_,a₁,w₁,hq,.pass (x:=.inLoop c) rfl (fun _ _=> .inl (by simp)) harr⟩
 |panic ch=>exact⟨_,a₁,w₁,hq,.pass (x:=.inLoop c) rfl (fun _ _=> .inl (by simp)) harr⟩
 |outgrown=>exact⟨_,a₁,w₁,hq,.pass (x:=.inLoop c) rfl (fun _ _=> .inl (by simp)) harr⟩
theorem ZN (h:PN P c Q a w):(Code.loop c).wp P Q a w:=by intro b k cs;obtain⟨e,a',w',hq,harr⟩:=h b k cs;exact⟨e,a',w',hq,.of_steps (.one step_loop) harr⟩
end
inductive FrE where
 |seq (p:List Nat) (c:Code)
 |block (id:Nat)
 |loop (p:List Nat) (b:Code)
 |scope
def uZ (body:Code):List Nat->Option (Code×List FrE)
 |[]=>some (body,[])
 |d::p=>match uZ body p with
  |some (.seq a b,fr)=>match d with
   |0=>some (a,.seq (1::p) b::fr)
   |_=>some (b,fr)
  |some (.block id b,fr)=>some (b,.block id::fr)
  |some (.cond _ a b,fr)=>match d with
   |0=>some (a,fr)
   |_=>some (b,fr)
  |some (.loop b,fr)=>some (b,.loop p b::fr)
  |some (.scope b,fr)=>some (b,.scope::fr)
  |_=>none
def PO (body:Code):List FrE->Prop
 |[]=>True
 | .seq p c::fr=>uZ body p=some (c,fr)/\PO body fr
 | .block _::fr=>PO body fr
 | .loop p b::fr=>uZ body p=some (.loop b,fr)/\PO body fr
 | .scope::fr=>PO body fr
def KE (P:Program) (Q:Exit->Act->World->Prop):List FrE->Exit->Act->World->Prop
 |[]=>Q
 | .seq _ c::fr=>Exit.then (fun a w=>c.wp P (KE P Q fr) a w) (KE P Q fr)
 | .block id::fr=>Exit.inBlock id (KE P Q fr)
 | .loop _ b::fr=>Exit.then (PN P b (KE P Q fr)) (KE P Q fr)
 | .scope::fr=>Exit.noGoto (KE P Q fr)
inductive RK where
 |one (c:CK)
 |agg (cs:List CK)
 deriving DecidableEq,Inhabited
def RK.flat:RK->List CK
 | .one c=>[c]
 | .agg cs=>cs
def uU:List RK->List CK
 |[]=>[]
 |r::rs=>r.flat++uU rs
def afY (c:CK) (t:SE):AV:=match c with
 | .int k=> .int k t
 | .bool=> .bool (.not (.eq t (.lit 0)))
 | .str=> .nC t
 | .sl ty=> .dat t ty
def Po:List CK->(Nat->SE)->Nat->List AV
 |[],_,_=>[]
 |c::cs,f,i=>afY c (f i)::Po cs f (i+1)
def wC:List RK->(Nat->SE)->Nat->List AV
 |[],_,_=>[]
 | .one c::r,f,i=>afY c (f i)::wC r f (i+1)
 | .agg cs::r,f,i=> .agg (Po cs f i)::wC r f (i+cs.length)
def amW (c:CK) (v:AV):Option SE:=match c with
 | .int k=>match v with
   | .int k' e=>if k=k' then some e else none
   |_=>none
 | .bool=>none
 | .str=>AU v
 | .sl t=>sJ (.sl t) v
def avX:AV->Bool
 | .agg _=>false
 | .tuple _=>false
 |_=>true
def cellsOf:List RK->List AV->Option (List AV)
 |[],[]=>some []
 | .one _::rs,v::vs=>match avX v with
   |true=>match cellsOf rs vs with
    |some l=>some (v::l)
    |none=>none
   |false=>none
 | .agg cs::rs,v::vs=>match v with
   | .agg xs=>match Nat.beq xs.length cs.length with
     |true=>match cellsOf rs vs with
      |some l=>some (xs++l)
      |none=>none
     |false=>none
   |_=>none
 |_,_=>none
def outs {α:Type}:List CK->List AV->St->(List SE->St->T α)->T α
 |[],[],s,k=>k [] s
 |c::cs,v::vs,s,k=>match c with
  | .bool=>match v with
    | .bool b=>pV s b fun s b=>outs cs vs s fun es s=>k (.lit (if b then 1 else 0)::es) s
    |_=> .fail
  |c=>match amW c v with
   |some e=>outs cs vs s fun es s=>k (e::es) s
   |none=> .fail
 |_,_,_,_=> .fail
def iY:List SE->SE
 |[]=> .dat (.i 0)
 |e::es=>iL (II e) (iY es)
def uS (r:SE) (i:Nat):SE:=.op .num (.op (.cell i) r (.lit 0)) (.lit 0)
inductive Lf where
 |out (es:List SE)
 |jump (j:Nat) (es:List SE)
 deriving Inhabited
structure Jy where
 tt:TT
 call:eF
 draw:Nat->List Oper->St->T St
 lf:Nat
 res:List ResultVar
 pK:List RK
 eX:List eP:=[]
 ko:Nat:=0
 wX:List CS:=[]
 kQ:Nat:=0
 fz:List (Nat×Nat×Nat):=[]
def Jy.ev (g:Jy) (c:Code) (s:St):T (Ex×St):=lT g.tt g.call g.draw g.lf c s
abbrev KL:=List Nat->Option (List (Nat×CS))
def aB2:Nat->Tr (Nat×Nat)
 |0=> .nil
 |n+1=>(aB2 n).put n (some (n,0))
def jQ (g:Jy) (h:Hp):Ren:=match Ji h g.eX 0 ⟨.nil,aB2 g.eX.length⟩ with
 |⟨ns,_⟩=> ⟨Fb ns g.ko 0,List.range g.eX.length,[]⟩
def CS.mG (m:Nat) (c:CS) (s:St):Ren:=match Ji s.h c.objs 0 (Lp s.slots c.slots ⟨.nil,aB2 m⟩) with
 |⟨ns,bl⟩=> ⟨Fb ns c.k 0,UW bl c.objs.length 0,UU bl c.objs.length 0⟩
def Oe (m:Nat) (r:Ren):Bool:=match m with
 |0=>true
 |n+1=>(match iH r.bl n with |some j=>Nat.beq j n|none=>false)&&Nat.beq (r.Bc n) 0&&Oe n r
def JW:Nat->Nat->List SE->List SE
 |0,_,ns=>ns
 |_+1,_,[]=>[]
 |n+1,i,_::ns=> .aO i::JW n (i+1) ns
def xW (kQ:Nat) (r:Ren):Ren:=match kQ with
 |0=>r
 |n+1=>{ r with ns:=JW (n+1) 0 r.ns }
def X4 (n m kQ:Nat) (s:St):List CS->Nat->T Lf
 |[],_=> .fail
 |c::l,i=>match quick s.slots c.slots&&Nat.beq n c.slots.length with
  |false=>X4 n m kQ s l (i+1)
  |true=>match c.fits prv s (xW kQ (c.mG m s))&&Oe m (xW kQ (c.mG m s)) with
   |true=> .ret (.out (.lit (Int.ofNat i)::(xW kQ (c.mG m s)).ns))
   |false=>X4 n m kQ s l (i+1)
def Z4 {α:Type}:List (Nat×Nat×Nat)->List AV->St->(List AV->St->T α)->T α
 |[],vs,s,k=>k vs s
 |(r,f,t)::l,vs,s,k=>match iH vs r with
  |some (.agg xs)=>match iH xs f with
   |some x=>ahW x s fun x s=>match sJ (.sl t) x with
    |some e=>Z4 l (vs.set r (.agg (xs.set f (.dat e t)))) s k
    |none=> .fail
   |none=> .fail
  |_=> .fail
def apG (g:Jy) (e:Ex) (s:St):T Lf:=match e with
 | .exit _=> .fail
 |_=>match oN g.tt s g.res with
  |none=> .fail
  |some vs=>match g.wX with
   |[]=>match cellsOf g.pK vs with
    |none=> .fail
    |some cells=>ED cells s fun cells s=>match IZ (jQ g s.h) g.eX.length s.h g.eX 0 with
     |true=>outs (uU g.pK) cells s fun es _=> .ret (.out ((jQ g s.h).ns++es))
     |false=> .fail
   |c::l=>Z4 g.fz vs s fun vs s=>X4 vs.length g.eX.length g.kQ ⟨bI vs 0 .nil,s.h,s.pc⟩ (c::l) 0
def xR (m kQ:Nat) (s:St):List (Nat×CS)->T Lf
 |[]=> .fail
 |(j,c)::l=>match quick s.slots c.slots with
  |false=>xR m kQ s l
  |true=>match c.fits prv s (xW kQ (c.mG m s))&&Oe m (xW kQ (c.mG m s)) with
   |true=> .ret (.jump j (xW kQ (c.mG m s)).ns)
   |false=>xR m kQ s l
def YU {α:Type} (k:St->T α):List (Nat×Nat)->St->T α
 |[],s=>k s
 |(t,g)::l,s=>match s.slots.get t with
  |some (.int _ e)=>pV s (.eq e (.aO g)) fun s _=>YU k l s
  |_=>YU k l s
def C9 {α:Type} (k:St->T α):List Nat->St->T α
 |[],s=>k s
 |t::ts,s=>match s.slots.get t with
  |some (.bool c)=>pV s c fun s b=>C9 k ts { s with slots:=s.slots.put t (some (.bool (.lit b))) }
  |_=>C9 k ts s
def asQ:List (Nat×AV)->List Nat->List Nat
 |[],acc=>acc
 |(t,.bool _)::l,acc=>asQ l (t::acc)
 |_::l,acc=>asQ l acc
def asR:List (Nat×CS)->List Nat->List Nat
 |[],acc=>acc
 |(_,c)::l,acc=>asR l (asQ c.slots acc)
mutual
def Em (g:Jy) (tabs:KL):Nat->List Nat->Code->List FrE->St->T Lf
 |0,_,_,_,_=> .fail
 |n+1,p,c,fr,s=>match tabs p with
  |some l=>C9 (fun s=>xR g.eX.length g.kQ s l) (asR l []) s
  |none=>match c with
   | .seq a b=>Em g tabs n (0::p) a (.seq (1::p) b::fr) s
   | .block id b=>Em g tabs n (0::p) b (.block id::fr) s
   | .scope b=>Em g tabs n (0::p) b (.scope::fr) s
   | .cond v a b=>match As.ev s v with
     |some (.bool c)=>pV s c fun s t=>match t with
      |true=>Em g tabs n (0::p) a fr s
      |false=>Em g tabs n (1::p) b fr s
     |_=> .fail
   |c=>(g.ev c s).bind fun (e,s')=>Ah g tabs n fr e s'
def Ah (g:Jy) (tabs:KL):Nat->List FrE->Ex->St->T Lf
 |0,_,_,_=> .fail
 |n+1,fr,e,s=>match fr with
  |[]=>apG g e s
  | .seq p c::fr=>match e with
    | .normal=>Em g tabs n p c fr s
    |e=>Ah g tabs n fr e s
  | .block id::fr=>match e with
    | .exit j=>match Nat.beq j id with
      |true=>Ah g tabs n fr .normal s
      |false=>Ah g tabs n fr (.exit j) s
    |e=>Ah g tabs n fr e s
  | .loop p _::fr=>match e with
    | .normal=>match tabs p with
      |some l=>C9 (fun s=>xR g.eX.length g.kQ s l) (asR l []) s
      |none=> .fail
    |e=>Ah g tabs n fr e s
  | .scope::fr=>Ah g tabs n fr e s
end
abbrev uN:=Nat->List Int->Option (List Int)
def qU (xs:List Int):Int:=enc (dL (xs.map .i))
def Good (F:uN) (ρ:Nat->Int):Prop:= ∀j xs,ρ (kZ (2*j) (qU xs))=(if (F j xs).isSome then 1 else 0)/\ρ (kZ (2*j+1) (qU xs))=qU ((F j xs).getD [])
def low (xs:List Int) (i:Nat):Int:=xs.getD i 0
open Classical in
def bZ (F:uN) (lo:Nat->Int) (i:Nat):Int:=if i<900 then lo i else
 if h: ∃p:Nat×List Int,i=kZ (2*p.1) (qU p.2) then (if (F h.choose.1 h.choose.2).isSome then 1 else 0) else
 if h: ∃p:Nat×List Int,i=kZ (2*p.1+1) (qU p.2) then qU ((F h.choose.1 h.choose.2).getD []) else 0
theorem Yn {a b:List Int} (h:qU a=qU b):a=b:=by
 unfold qU at h;have:=O6 (gI h)
 have hinj: ∀{x y:List Int},x.map D.i=y.map D.i->x=y:=by
  intro x
  induction x with
  |nil=>intro y h; cases y with |nil=>rfl|cons z y=>simp at h
  |cons z x ih=>
   intro y h
   cases y with
   |nil=>simp at h
   |cons q y=> simp only [aHo,List.cons.injEq,D.i.injEq] at h;rw [h.1,ih h.2]
 exact hinj this
theorem zA {f g:Nat} {a b:Int} (h:kZ f a=kZ g b):f=g/\a=b:=by unfold kZ at h;obtain⟨h1,h2⟩:=I5 (a:=f) (b:=zN a) (a':=g) (b':=zN b) (by omega);exact⟨h1,aiY h2⟩
theorem Di (f:Nat) (a:Int):1000<=kZ f a:=by unfold kZ; omega
theorem wJ {F:uN} {lo:Nat->Int} {i:Nat} (h:i<900):bZ F lo i=lo i:=by unfold bZ; rw [aHd h]
theorem oP (F:uN) (lo:Nat->Int):Good F (bZ F lo):=by
 intro j xs;have h1:=Di (2*j) (qU xs);have h2:=Di (2*j+1) (qU xs);constructor
 ·unfold bZ;rw [aHc (by omega)];have h: ∃p:Nat×List Int,kZ (2*j) (qU xs)=kZ (2*p.1) (qU p.2):=⟨(j,xs),rfl⟩;rw [dif_pos h];obtain⟨q1,q2⟩:=zA h.choose_spec;have q2:=Yn q2;have q1:h.choose.1=j:=by omega
  rw [<- q2,q1]
 ·unfold bZ;rw [aHc (by omega)]
  have hn: ¬∃p:Nat×List Int,kZ (2*j+1) (qU xs)=kZ (2*p.1) (qU p.2):=by rintro⟨p,hp⟩;have:=(zA hp).1;omega
  rw [dif_neg hn];have h: ∃p:Nat×List Int,kZ (2*j+1) (qU xs)=kZ (2*p.1+1) (qU p.2):=⟨(j,xs),rfl⟩;rw [dif_pos h];obtain⟨q1,q2⟩:=zA h.choose_spec;have q2:=Yn q2;have q1:h.choose.1=j:=by omega
  rw [<- q2,q1]
theorem Good.ren {F:uN} {ρ ρ':Nat->Int} (g:Good F ρ) (h: ∀i,900<=i->ρ' i=ρ i):Good F ρ':=by intro j xs;have h1:=Di (2*j) (qU xs);have h2:=Di (2*j+1) (qU xs);rw [h _ (by omega),h _ (by omega)];exact g j xs
def fP (tree:Nat->T Lf):Nat->uN
 |0,_,_=>none
 |n+1,j,xs=>match (tree j).leaf (bZ (fP tree n) (low xs)) with
  |none=>none
  |some (.out es)=>some (es.map (SE.den (bZ (fP tree n) (low xs))))
  |some (.jump j' es)=>fP tree n j' (es.map (SE.den (bZ (fP tree n) (low xs))))
def Rh:List CK->Bool
 |[]=>true
 |c::l=>match c with
  | .int _=>Rh l
  | .bool=>Rh l
  |_=>false
def aoC (j:Nat) (PE pK:List RK):List AV->St->T (AV×St):=fun args s=>match cellsOf PE args with
 |none=> .fail
 |some cells=>ED cells s fun cells s1=>outs (uU PE) cells s1 fun es s2=>
  pV s2 (.eq (.ap (2*j) (iY es)) (.lit 1)) fun s3 b=>match b with
   |true=> .ret (match wC pK (uS (.ap (2*j+1) (iY es))) 0 with |[v]=>v|vs=> .tuple vs,match Rh (uU pK) with
    |true=>{ s3 with h:=s.h }
    |false=>s3)
   |false=> .fail
end
end Go.As
end
section
namespace Go.As
open Go.RowKit
def iF (K:Nat):SE->Bool
 | .lit _=>true
 | .aO i=>Nat.blt i K
 | .add a b=>iF K a&&iF K b
 | .sub a b=>iF K a&&iF K b
 | .mul a b=>iF K a&&iF K b
 | .quo a b=>iF K a&&iF K b
 | .rem a b=>iF K a&&iF K b
 | .wrap _ a=>iF K a
 | .inp _ _=>false
 | .dat _=>true
 | .op _ a b=>iF K a&&iF K b
 | .ap _ _=>false
def BK (K:Nat):SB->Bool
 | .lit _=>true
 | .lt a b=>iF K a&&iF K b
 | .le a b=>iF K a&&iF K b
 | .eq a b=>iF K a&&iF K b
 | .not s=>BK K s
 | .and a b=>BK K a&&BK K b
mutual
def oZ (K:Nat):AV->Bool
 | .bool b=>BK K b
 | .int _ e=>iF K e
 | .rY cs=>qI K cs
 | .ro cs _ _=>qI K cs
 | .func _ a b=>qI K a&&qI K b
 | .iface _ v=>oZ K v
 | .agg cs=>qI K cs
 | .tuple cs=>qI K cs
 | .inp _ _=>false
 | .dat e _=>iF K e
 | .nC e=>iF K e
 | .sN _ n _=>iF K n
 | .qV _ _ i _=>iF K i
 | .A8 _ l n _=>iF K l&&iF K n
 | .FP z _=>iF K z
 |_=>true
def qI (K:Nat):List AV->Bool
 |[]=>true
 |x::xs=>oZ K x&&qI K xs
end
def LH (K:Nat):List (AV×AV×Nat)->Bool
 |[]=>true
 |(k,v,_)::l=>oZ K k&&oZ K v&&LH K l
def Ny (K:Nat):List (SE×List AV)->Bool
 |[]=>true
 |(i,cs)::l=>iF K i&&qI K cs&&Ny K l
def Gn (K:Nat):eP->Bool
 | .cells cs _=>qI K cs
 | .map es _=>LH K es
 | .oQ _ _=>true
 | .vec e _ _ ov=>iF K e&&Ny K ov
 | .jF e _=>iF K e
def adN (K:Nat):List (SB×Bool)->Bool
 |[]=>true
 |(c,_)::l=>BK K c&&adN K l
def yI (K:Nat):List (Nat×AV)->Bool
 |[]=>true
 |(_,v)::l=>oZ K v&&yI K l
def Ld (K:Nat):List eP->Bool
 |[]=>true
 |o::l=>Gn K o&&Ld K l
def CW (K:Nat) (c:CS):Bool:=yI K c.slots&&Ld K c.objs&&adN K c.pc
section
variable {K:Nat} {ρ ρ':Nat->Int} (hρ: ∀i,i<K->ρ' i=ρ i)
include hρ
theorem dN: ∀e:SE,iF K e=true->e.den ρ'=e.den ρ
 | .lit _,_=>rfl
 | .aO i,h=>by simp only [iF] at h; exact hρ i (FI h)
 | .add a b,h=>by simp only [iF,aHg] at h; simp only [SE.den,dN a h.1,dN b h.2]
 | .sub a b,h=>by simp only [iF,aHg] at h; simp only [SE.den,dN a h.1,dN b h.2]
 | .mul a b,h=>by simp only [iF,aHg] at h; simp only [SE.den,dN a h.1,dN b h.2]
 | .quo a b,h=>by simp only [iF,aHg] at h; simp only [SE.den,dN a h.1,dN b h.2]
 | .rem a b,h=>by simp only [iF,aHg] at h; simp only [SE.den,dN a h.1,dN b h.2]
 | .wrap _ a,h=>by simp only [iF] at h; simp only [SE.den,dN a h]
 | .inp _ _,h=>by simp [iF] at h
 | .dat _,_=>rfl
 | .op _ a b,h=>by simp only [iF,aHg] at h; simp only [SE.den,dN a h.1,dN b h.2]
 | .ap _ _,h=>by simp [iF] at h
theorem yL: ∀c:SB,BK K c=true->c.den ρ'=c.den ρ
 | .lit _,_=>rfl
 | .lt a b,h=>by simp only [BK,aHg] at h; simp only [SB.den,dN hρ a h.1,dN hρ b h.2]
 | .le a b,h=>by simp only [BK,aHg] at h; simp only [SB.den,dN hρ a h.1,dN hρ b h.2]
 | .eq a b,h=>by simp only [BK,aHg] at h; simp only [SB.den,dN hρ a h.1,dN hρ b h.2]
 | .not s,h=>by simp only [BK] at h; simp only [SB.den,yL s h]
 | .and a b,h=>by simp only [BK,aHg] at h; simp only [SB.den,yL a h.1,yL b h.2]
end
section
variable {K:Nat} {E E':En} (hρ: ∀i,i<K->E'.ρ i=E.ρ i) (hθ:E'.θ=E.θ) (hκ:E'.κ=E.κ) (hdm:E'.dm=E.dm) (hro:E'.ro=E.ro) {h:Array Obj}
include hρ hθ hκ hdm hro
theorem gJ.low {id off len:Nat} {a:Addr} {cap:Nat} {c:YI} (hc:gJ E id off len a cap c):gJ E' id off len a cap c:=by
 cases c<;>simp only [gJ] at*<;>rw [hθ]
 ·exact hc
 ·rw [hκ]; exact hc
mutual
theorem VR.low: ∀(x:AV) (u:Value),oZ K x=true->VR E h x u->VR E' h x u
 | .bool b,u,hl,hv=>by simp only [VR,oZ] at *; rw [yL hρ b hl]; exact hv
 | .int _ e,u,hl,hv=>by simp only [VR,oZ] at *; rw [dN hρ e hl]; exact hv
 | .str s,u,_,hv=>by simp only [VR] at *; exact hv
 | .ptr id off,u,_,hv=>by simp only [VR] at *; rw [hθ,hdm]; exact hv
 | .lH,u,_,hv=>by simp only [VR] at *; exact hv
 | .rY cs,u,hl,hv=>by simp only [VR,oZ] at *;obtain⟨b,o,us,h1,h2,h3,h4,h5⟩:=hv;exact⟨b,o,us,h1,by rw [hro]; exact h2,bT.low cs us hl h3,h4,h5⟩
 | .slice id off len c,u,_,hv=>by simp only [VR] at *;obtain⟨h1,a,cap,h2,h3,h4⟩:=hv;exact⟨by rw [hdm]; exact h1,a,cap,h2,h3,gJ.low hρ hθ hκ hdm hro h4⟩
 | .aY,u,_,hv=>by simp only [VR] at *; exact hv
 | .ro cs n full,u,hl,hv=>by simp only [VR,oZ] at *;obtain⟨b,o,cap,us,h1,h2,h3,h4,h5,h6,h7⟩:=hv;exact⟨b,o,cap,us,h1,h2,h3,by rw [hro]; exact h4,bT.low cs us hl h5,h6,h7⟩
 | .map id,u,_,hv=>by simp only [VR] at *; rw [hθ,hdm]; exact hv
 | .rO,u,_,hv=>by simp only [VR] at *; exact hv
 | .func fn fs cs,u,hl,hv=>by simp only [VR,oZ,aHg] at *;obtain⟨us,ws,h1,h2,h3⟩:=hv;exact⟨us,ws,h1,bT.low fs us hl.1 h2,bT.low cs ws hl.2 h3⟩
 | .Cb,u,_,hv=>by simp only [VR] at *; exact hv
 | .iface t x,u,hl,hv=>by simp only [VR,oZ] at *;obtain⟨y,h1,h2⟩:=hv;exact⟨y,h1,VR.low x y hl h2⟩
 | .E5,u,_,hv=>by simp only [VR] at *; exact hv
 | .agg cs,u,hl,hv=>by simp only [VR,oZ] at *;obtain⟨us,h1,h2⟩:=hv;exact⟨us,h1,bT.low cs us hl h2⟩
 | .tuple cs,u,hl,hv=>by simp only [VR,oZ] at *;obtain⟨us,h1,h2⟩:=hv;exact⟨us,h1,bT.low cs us hl h2⟩
 | .opq _,u,_,hv=>by simp only [VR] at hv
 | .inp _ _,u,hl,_=>by simp [oZ] at hl
 | .emp,u,_,hv=>by simp only [VR] at *; exact hv
 | .dat e t,u,hl,hv=>by simp only [VR,oZ] at *; rw [dN hρ e hl,hro]; exact hv
 | .nC e,u,hl,hv=>by simp only [VR,oZ] at *; rw [dN hρ e hl,hro]; exact hv
 | .sN id n t,u,hl,hv=>by simp only [VR,oZ] at *;obtain⟨h1,k,a,cap,h2,h3,h4,h5⟩:=hv;exact⟨by rw [hdm]; exact h1,k,a,cap,by rw [dN hρ n hl]; exact h2,h3,h4,gJ.low hρ hθ hκ hdm hro h5⟩
 | .qV id es i off,u,hl,hv=>by simp only [VR,oZ] at *;obtain⟨h1,k,h2,h3⟩:=hv;exact⟨by rw [hdm]; exact h1,k,by rw [dN hρ i hl]; exact h2,by rw [hθ]; exact h3⟩
 | .any,u,_,_=>by simp only [VR]
 | .FP z t,u,hl,hv=>by simp only [VR,oZ] at *; rw [dN hρ z hl,hro]; exact hv
 | .A8 id lo n t,u,hl,hv=>by simp only [VR,oZ,aHg] at *;obtain⟨h1,l,k,a,cap,h2,h3,h4,h5,h6⟩:=hv;exact⟨by rw [hdm]; exact h1,l,k,a,cap,by rw [dN hρ lo hl.1]; exact h2,by rw [dN hρ n hl.2]; exact h3,h4,h5,gJ.low hρ hθ hκ hdm hro h6⟩
theorem bT.low: ∀(xs:List AV) (us:List Value),qI K xs=true->bT E h xs us->bT E' h xs us
 |[],us,_,hv=>by simp only [bT] at *; exact hv
 |x::xs,us,hl,hv=>by simp only [bT,qI,aHg] at *;obtain⟨u,vs,h1,h2,h3⟩:=hv;exact⟨u,vs,h1,VR.low x u hl.1 h2,bT.low xs vs hl.2 h3⟩
end
theorem fQ.low: ∀{es:List (AV×AV×Nat)} {ents:List MapEntry},LH K es=true->fQ E h es ents->fQ E' h es ents
 |[],_,_,hv=>by simp only [fQ] at *; exact hv
 |(k,v,b)::es,ents,hl,hv=>by simp only [fQ,LH,aHg] at *;obtain⟨e,r,h1,h2,h3,h4,h5⟩:=hv;exact⟨e,r,h1,VR.low hρ hθ hκ hdm hro k _ hl.1.1 h2,VR.low hρ hθ hκ hdm hro v _ hl.1.2 h3,h4,fQ.low hl.2 h5⟩
theorem RJ {i:Nat}: ∀{ov:List (SE×List AV)},Ny K ov=true->dX E'.ρ i ov=dX E.ρ i ov
 |[],_=>rfl
 |(j,cs)::l,hl=>by simp only [Ny,aHg] at hl;simp only [dX];rw [dN hρ j hl.1.1,RJ hl.2]
theorem RP: ∀{ov:List (SE×List AV)},Ny K ov=true->∀p∈ov,qI K p.2=true
 |[],_,p,hp=>by simp at hp
 |(j,cs)::l,hl,p,hp=>by
  simp only [Ny,aHg] at hl;rcases aHm.1 hp with rfl|hp
  ·exact hl.1.2
  ·exact RP hl.2 p hp
theorem Hu {r:Row} {ov:List (SE×List AV)} (hl:Ny K ov=true): ∀(ds:List D) (i:Nat) {us:List Value},bT E h (aK E.ρ r ov ds i) us->bT E' h (aK E'.ρ r ov ds i) us
 |[],_,us,hv=>by simp only [aK,bT] at *; exact hv
 |d::ds,i,us,hv=>by
  simp only [aK] at *;obtain⟨a,b,rfl,h1,h2⟩:=hv.split;refine bT.append ?_ (Hu hl ds (i+1) h2);rw [RJ hρ hθ hκ hdm hro hl]
  cases ho:dX E.ρ i ov with
  |none=> rw [ho] at h1;rw [iO] at h1 ⊢;rw [hro];exact h1
  |some cs=> rw [ho] at h1;obtain⟨p,p1,p2,_⟩:=oK ho;exact bT.low hρ hθ hκ hdm hro cs a (by rw [<- p2]; exact RP hρ hθ hκ hdm hro hl p p1) h1
theorem OR.low {id:Nat} {o:eP} (hl:Gn K o=true) (ho:OR E h id o):OR E' h id o:=by
 cases o with
 |cells cs e=> simp only [OR,Gn] at *;obtain⟨arr,lo,hi,us,h1,h2,h3,h4,h5,h6,h7⟩:=ho;rw [hθ,hκ];exact⟨arr,lo,hi,us,h1,bT.low hρ hθ hκ hdm hro cs us hl h2,h3,h4,h5,h6,h7⟩
 |map es c=> simp only [OR,Gn] at *;obtain⟨ents,c',h1,h2⟩:=ho;rw [hθ];exact⟨ents,c',h1,fQ.low hρ hθ hκ hdm hro hl h2⟩
 |oQ s p=>simp only [OR] at *; rw [hθ]; exact ho
 |jF e t=> simp only [OR,Gn] at *;obtain⟨ents,c',h1,h2⟩:=ho;rw [hθ,dN hρ e hl,hro];exact⟨ents,c',h1,h2⟩
 |vec e t ty ov=> simp only [OR,Gn,aHg] at *;obtain⟨⟨h0,hw⟩,arr,lo,hi,us,h1,h2,h3,h4,h5,h6,h7⟩:=ho;have he:=dN hρ e hl.1;rw [hθ,hκ,he];refine⟨⟨h0,hw⟩,arr,lo,hi,us,h1,Hu hρ hθ hκ hdm hro hl.2 _ _ h2,h3,?_,h5,h6,h7⟩;rw [bP h0] at h4 ⊢;exact h4
end
theorem Xf {K:Nat} {ρ ρ':Nat->Int} (hρ: ∀i,i<K->ρ' i=ρ i): ∀{pc:List (SB×Bool)},adN K pc=true->bK ρ pc->bK ρ' pc
 |[],_,_=>by intro c b h; simp at h
 |(c0,b0)::l,hl,hp=>by
  simp only [adN,aHg] at hl;intro c b hm;rcases aHm.1 hm with hm|hm
  ·simp only [aHf] at hm;obtain⟨rfl,rfl⟩:=hm;rw [yL hρ c hl.1];exact hp c b (by simp)
  ·exact Xf hρ hl.2 (fun c b h=>hp c b (by simp [h])) c b hm
theorem F5 {K:Nat}: ∀{l:List (Nat×AV)},yI K l=true->∀{t:Nat} {v:AV},(t,v)∈l->oZ K v=true
 |[],_,_,_,h=>by simp at h
 |(t0,v0)::l,hs,t,v,h=>by
  simp only [yI,aHg] at hs;rcases aHm.1 h with h|h
  ·simp only [aHf] at h;rw [h.2]; exact hs.1
  ·exact F5 hs.2 h
theorem BZ {K:Nat}: ∀{l:List eP},Ld K l=true->∀{i:Nat} {o:eP},l[i]?=some o->Gn K o=true
 |[],_,_,_,h=>by simp at h
 |o0::l,hs,i,o,h=>by
  simp only [Ld,aHg] at hs
  cases i with
  |zero=>simp at h; rw [<- h]; exact hs.1
  |succ i=>exact BZ hs.2 (by simpa using h)
structure Ig (E:En) (s:St) (a:Act) (w:World):Prop where
 fresh: ∀id,s.h.next<=id->¬E.dm id
 res: ∀r,s.h.res=some r->r<s.h.next/\¬E.dm r
 live: ∀id o,s.h.get id=some o->E.dm id/\OR E w.heap id o/\¬E.ro (E.θ id).1
 inj: ∀id id' o o',s.h.get id=some o->s.h.get id'=some o'->(E.θ id).1=(E.θ id').1->id=id'
 BO: ∀b,E.ro b->b<w.heap.size
 sr:SR E w.heap s.slots a
 pc:bK E.ρ s.pc
theorem Fit.x [Glob] {E:En} {s:St} {a:Act} {w:World} (f:Fit E s a w):Ig E s a w:=⟨f.rel.fresh,f.rel.res,f.rel.live,f.rel.inj,f.rel.BO,f.sr,f.pc⟩
theorem Ig.fit [Glob] {E:En} {s:St} {a:Act} {w:World} (f:Ig E s a w) (hg:Glob.ok E.ρ E.ro w.heap):Fit E s a w:=⟨⟨f.fresh,f.res,f.live,f.inj,f.BO,hg⟩,f.sr,f.pc⟩
theorem Ig.low {K:Nat} {E:En} {c:CS} {a:Act} {w:World} {ρ':Nat->Int} (hc:CW K c=true) (hρ: ∀i,i<K->ρ' i=E.ρ i) (f:Ig E c.st a w):Ig { E with ρ:=ρ' } c.st a w:=by
 unfold CW at hc;simp only [aHg] at hc;obtain⟨⟨h1,h2⟩,h3⟩:=hc;refine⟨f.fresh,f.res,fun id o ho=>?_,f.inj,f.BO,fun t v ht=>?_,Xf hρ h3 f.pc⟩
 ·obtain⟨q1,q2,q3⟩:=f.live id o ho;refine⟨q1,OR.low (E:=E) (E':={ E with ρ:=ρ' }) hρ rfl rfl rfl rfl ?_ q2,q3⟩;have:(wB c.objs 0 .nil).get id=some o:=ho;rw [nX] at this;split at this
  ·exact BZ h2 this
  ·simp [Tr.get] at this
 ·obtain⟨u,q1,q2⟩:=f.sr t v ht;refine⟨u,q1,VR.low (E:=E) (E':={ E with ρ:=ρ' }) hρ rfl rfl rfl rfl v u ?_ q2⟩;have:(sO c.slots .nil).get t=some v:=ht;rcases BH this with h|h
  ·exact F5 h1 h
  ·simp [Tr.get] at h
end Go.As
end
section
namespace Go.As
open Go.RowKit
def Dt (ro:Nat->Prop) (h:Array Obj) (c:CK) (n:Int) (u:Value):Prop:=match c with
 | .int k=>u= .int k n
 | .bool=>u= .bool (!(n == 0))
 |c=>Rd ro h c (dec n) u
def jU (ro:Nat->Prop) (h:Array Obj):List CK->List Int->List Value->Prop
 |[],ns,us=>ns= []/\us= []
 |c::cs,ns,us=> ∃n ns' u us',ns=n::ns'/\us=u::us'/\Dt ro h c n u/\jU ro h cs ns' us'
theorem Yj {E:En} {h:Array Obj} {c:CK} {t:SE} {u:Value}:VR E h (afY c t) u↔Dt E.ro h c (t.den E.ρ) u:=by cases c<;>simp only [afY,Dt,VR,SB.den,SE.den]
theorem amV {E:En} {h:Array Obj} {c:CK} {v:AV} {u:Value} {e:SE} (hv:VR E h v u) (hn:amW c v=some e):Dt E.ro h c (e.den E.ρ) u:=by
 unfold amW at hn;split at hn
 ·split at hn
  ·split at hn
   ·rename_i hk;subst hk;simp only [aHe] at hn;subst hn;simpa only [Dt,VR] using hv
   ·simp at hn
  ·simp at hn
 ·simp at hn
 ·obtain⟨s,rfl,hs⟩:=FX hv hn;simp only [Dt,hs];exact .str s
 ·exact qQ hv hn
theorem jU.length {ro:Nat->Prop} {h:Array Obj}: ∀{cs:List CK} {ns:List Int} {us:List Value},jU ro h cs ns us->ns.length=cs.length/\us.length=cs.length
 |[],ns,us,hh=>by simp only [jU] at hh; simp [hh.1,hh.2]
 |c::cs,ns,us,hh=>by obtain⟨n,ns',u,us',rfl,rfl,_,h2⟩:=hh;have:=h2.length;simp [this.1,this.2]
theorem Dt.keep {ro ro':Nat->Prop} {h h':Array Obj} (k1: ∀b,ro b->ro' b) (k2: ∀b,ro b->h'[b]?=h[b]?) {c:CK} {n:Int} {u:Value} (r:Dt ro h c n u):Dt ro' h' c n u:=by
 cases c with
 |int k=>exact r
 |bool=>exact r
 |str=>exact Rd.keep k1 k2 r
 |sl t=>exact Rd.keep k1 k2 r
theorem Pn {E:En} {h:Array Obj} {f:Nat->SE}: ∀{cs:List CK} {i:Nat} {ns:List Int} {us:List Value},jU E.ro h cs ns us->(∀k n,ns[k]?=some n->(f (i+k)).den E.ρ=n)->bT E h (Po cs f i) us
 |[],_,_,us,hh,_=>by simp only [jU] at hh; rw [hh.2]; simp [Po,bT]
 |c::cs,i,ns,us,hh,hf=>by
  obtain⟨n,ns',u,us',rfl,rfl,h1,h2⟩:=hh;simp only [Po,bC];refine⟨u,us',rfl,?_,Pn h2 fun k m hk=>?_⟩
  ·rw [Yj];have:=hf 0 n rfl;rw [aHJ] at this;rw [this];exact h1
  ·have:=hf (k+1) m (by simpa using hk);rw [show i+1+k=i+(k+1) by omega];exact this
inductive Shape:List RK->List Value->List Value->Prop where
 |nil:Shape [] [] []
 |one (c:CK) {rs:List RK} {us fl:List Value} (u:Value):Shape rs us fl->Shape (.one c::rs) (u::us) (u::fl)
 |agg (cs:List CK) {rs:List RK} {us fl:List Value} (xs:List Value) (h:xs.length=cs.length):Shape rs us fl->Shape (.agg cs::rs) (.agg xs.toArray::us) (xs++fl)
theorem sW {E:En} {h:Array Obj}: ∀{pK:List RK} {vs cells:List AV} {us:List Value},bT E h vs us->cellsOf pK vs=some cells->∃fl,Shape pK us fl/\bT E h cells fl
 |[],[],cells,us,hv,hc=>by simp only [cellsOf,aHe] at hc;subst hc;simp only [bT] at hv;subst hv;exact⟨[],.nil,by simp [bT]⟩
 |[],_::_,cells,us,hv,hc=>by simp [cellsOf] at hc
 | .one _::_,[],cells,us,hv,hc=>by simp [cellsOf] at hc
 | .agg _::_,[],cells,us,hv,hc=>by simp [cellsOf] at hc
 | .one c::rs,v::vs,cells,us,hv,hc=>by
   rw [bC] at hv;obtain⟨u,us',rfl,h1,h2⟩:=hv;simp only [cellsOf] at hc;split at hc
   ·split at hc
    ·rename_i l hl;simp only [aHe] at hc;subst hc;obtain⟨fl,s,v2⟩:=sW h2 hl;exact⟨u::fl,.one c u s,by rw [bC]; exact⟨u,fl,rfl,h1,v2⟩⟩
    ·simp at hc
   ·simp at hc
 | .agg cs::rs,v::vs,cells,us,hv,hc=>by
   rw [bC] at hv;obtain⟨u,us',rfl,h1,h2⟩:=hv;simp only [cellsOf] at hc;split at hc
   ·rename_i xs;split at hc
    ·rename_i hlen;have hlen:=aHj hlen;split at hc
     ·rename_i l hl;simp only [aHe] at hc;subst hc;obtain⟨fl,s,v2⟩:=sW h2 hl;simp only [VR] at h1;obtain⟨ws,rfl,h3⟩:=h1;exact⟨ws++fl,.agg cs ws (by rw [h3.length,hlen]) s,h3.append v2⟩
     ·simp at hc
    ·simp at hc
   ·simp at hc
theorem EK {ro:Nat->Prop} {h:Array Obj}: ∀{cs ds:List CK} {ns:List Int} {us vs:List Value},us.length=cs.length->jU ro h (cs++ds) ns (us++vs)->∃a b,ns=a++b/\jU ro h cs a us/\jU ro h ds b vs
 |[],ds,ns,us,vs,hl,hh=>by have:us= []:=aH6 hl;subst this;exact⟨[],ns,rfl,by simp [jU],hh⟩
 |c::cs,ds,ns,us,vs,hl,hh=>by
  simp only [aHM,jU] at hh;obtain⟨n,ns',u,us',rfl,he,h1,h2⟩:=hh
  cases us with
  |nil=>simp at hl
  |cons x us=> simp only [aHM,List.cons.injEq] at he;obtain⟨rfl,rfl⟩:=he;obtain⟨a,b,rfl,h3,h4⟩:=EK (by simpa using hl) h2;exact⟨n::a,b,rfl,⟨n,a,x,us,rfl,rfl,h1,h3⟩,h4⟩
theorem yS {E:En} {h:Array Obj} {f:Nat->SE}: ∀{pK:List RK} {us fl:List Value} {ns:List Int} {i:Nat},Shape pK us fl->jU E.ro h (uU pK) ns fl->(∀k n,ns[k]?=some n->(f (i+k)).den E.ρ=n)->bT E h (wC pK f i) us
 |[],us,fl,ns,i,s,_,_=>by cases s; simp [wC,bT]
 | .one c::rs,us,fl,ns,i,s,hc,hf=>by
   cases s with
   |one _ u s=>
    simp only [uU,RK.flat,aHM,aHx,jU] at hc;obtain⟨n,ns',u',us',rfl,he,h1,h2⟩:=hc;simp only [List.cons.injEq] at he;obtain⟨rfl,rfl⟩:=he;simp only [wC,bC];refine⟨_,_,rfl,?_,yS s h2 fun k m hk=>?_⟩
    ·rw [Yj];have:=hf 0 n rfl;rw [aHJ] at this;rw [this]; exact h1
    ·have:=hf (k+1) m (by simpa using hk);rw [show i+1+k=i+(k+1) by omega];exact this
 | .agg cs::rs,us,fl,ns,i,s,hc,hf=>by
   cases s with
   |agg _ xs hl s=>
    simp only [uU,RK.flat] at hc;obtain⟨a,b,rfl,h1,h2⟩:=EK hl hc;have hal:=h1.length.1;simp only [wC,bC,VR];refine⟨_,_,rfl,⟨xs,rfl,Pn h1 fun k m hk=>hf k m ?_⟩,yS s h2 fun k m hk=>?_⟩
    ·rw [aJi (aHB.1 hk).1]; exact hk
    ·have:=hf (cs.length+k) m (by rw [aJh (by omega),show cs.length+k-a.length=k by omega]; exact hk);rw [show i+cs.length+k=i+(cs.length+k) by omega];exact this
section
variable {P:Program} {E:En} {w:World}
theorem La {α:Type} {r:α} {h:Array Obj}: ∀{cs:List CK} {vs:List AV} {s:St} {k:List SE->St->T α} {us:List Value},bK E.ρ s.pc->bT E h vs us->(outs cs vs s k).leaf E.ρ=some r->
 ∃es pc',bK E.ρ pc'/\jU E.ro h cs (es.map (SE.den E.ρ)) us/\(k es { s with pc:=pc' }).leaf E.ρ=some r
 |[],[],s,k,us,hp,hv,hl=>by simp only [outs] at hl;simp only [bT] at hv;exact⟨[],s.pc,hp,by simp [jU,hv],hl⟩
 |[],_::_,s,k,us,hp,hv,hl=>by simp [outs,T.leaf] at hl
 |_::_,[],s,k,us,hp,hv,hl=>by simp [outs,T.leaf] at hl
 |c::cs,v::vs,s,k,us,hp,hv,hl=>by
  rw [bC] at hv;obtain⟨u,us',rfl,h1,h2⟩:=hv;simp only [outs] at hl;split at hl
  ·split at hl
   ·rename_i b;obtain⟨pc1,hp1,hl1⟩:=dB hp hl;obtain⟨es,pc2,hp2,q1,q2⟩:=La (s:={ s with pc:=pc1 }) hp1 h2 hl1;refine⟨_::es,pc2,hp2,?_,q2⟩;simp only [aHo,jU];refine⟨_,_,u,us',rfl,rfl,?_,q1⟩;simp only [VR] at h1;subst h1;simp only [Dt,SE.den];cases b.den E.ρ<;>rfl
   ·simp [T.leaf] at hl
  ·split at hl
   ·rename_i e he;obtain⟨es,pc2,hp2,q1,q2⟩:=La hp h2 hl;refine⟨_::es,pc2,hp2,?_,q2⟩;simp only [aHo,jU];exact⟨_,_,u,us',rfl,rfl,amV h1 he,q1⟩
   ·simp [T.leaf] at hl
theorem ER (ρ:Nat->Int): ∀es:List SE,dec ((iY es).den ρ)=dL ((es.map (SE.den ρ)).map .i)
 |[]=>by simp only [iY,SE.den,aC]; rfl
 |e::es=>by simp only [iY,iL,SE.den,jC.den,aC,pU,ER ρ es,aHo,dL]
theorem lX (ρ:Nat->Int): ∀es:List SE,(iY es).den ρ=qU (es.map (SE.den ρ))
 |[]=>rfl
 |e::es=>by have:=ER ρ (e::es);simp only [iY,iL,SE.den,jC.den,aC,pU,ER ρ es,aHo,qU,dL]
theorem DC {ρ:Nat->Int} {r:SE} {ys:List Int} (h:r.den ρ=qU ys) {i:Nat} {y:Int} (hi:ys[i]?=some y):(uS r i).den ρ=y:=by simp only [uS,SE.den,jC.den,h,qU,aC,D.hd,aA,aHG,hi,aHV,aHl,D.n]
def ayB (pK:List RK) (ys:List Int) (ro:Nat->Prop) (h:Array Obj) (u:Value):Prop:= ∃us fl,Shape pK us fl/\jU ro h (uU pK) ys fl/\u=if hh:us.toArray.size=1 then us.toArray[0] else .tuple us.toArray
def asY (P:Program) (GB:(Nat->Prop)->Array Obj->Prop) (g:FuncId) (PE pK:List RK) (f:List Int->Option (List Int)):Prop:=
 ∀xs ys,f xs=some ys->∀(ro:Nat->Prop) (w:World) (vals fl:List Value),(∀b,ro b->b<w.heap.size)->GB ro w.heap->Shape PE vals fl->jU ro w.heap (uU PE) xs fl->
  Calls P g vals.toArray w fun e w'=> ∃u,e= .returned u/\Below w.heap.size w w'/\∃ro':Nat->Prop,(∀b,ro b->ro' b)/\(∀b,ro' b->ro b\/w.heap.size<=b)/\(∀b,ro' b->b<w'.heap.size)/\ayB pK ys ro' w'.heap u
theorem jU.aBz {ro ro':Nat->Prop} {h h':Array Obj}: ∀{cs:List CK} {ns:List Int} {us:List Value},jU ro h cs ns us->Rh cs=true->jU ro' h' cs ns us
 |[],ns,us,hh,_=>hh
 |c::cs,ns,us,hh,hs=>by
  obtain⟨n,ns',u,us',rfl,rfl,h1,h2⟩:=hh;simp only [Rh] at hs;split at hs
  ·exact⟨n,ns',u,us',rfl,rfl,h1,h2.aBz hs⟩
  ·exact⟨n,ns',u,us',rfl,rfl,h1,h2.aBz hs⟩
  ·simp at hs
theorem aoB [Glob] {GB:(Nat->Prop)->Array Obj->Prop} (hgb: ∀ρ ro h,Glob.ok ρ ro h->GB ro h) {F:uN} (hgood: ∀ρ ro h,Glob.ok ρ ro h->Good F ρ) {g:FuncId} {j:Nat} {PE pK:List RK} (hs:asY P GB g PE pK (F j))
 (hrun: ∀(args:Array Value) (w:World),(callFunc g args).run P w= .ok (.enter g args) w):nK P g (aoC j PE pK):=by
 intro aHb s E w vals v s' r hv hp hl;unfold aoC at hl;split at hl
 ·simp [T.leaf] at hl
 ·rename_i cells hc;obtain⟨fl,sh,hv2⟩:=sW hv hc;obtain⟨cells',h1,pcF,E1,hpF,f,hfr,hl⟩:=wE rfl r hp hl;have hv3:=hfr _ hv2;have s1:=f.fD;have r1:=f.rel;have hρ:=f.ρ;rw [<- hρ] at hl hpF;obtain⟨es,pc1,hp1,q1,q2⟩:=La (s:={ s with h:=h1,pc:=pcF }) hpF hv3 hl;obtain⟨pc2,hp2,q3⟩:=dB (s:={ s with h:=h1,pc:=pc1 }) hp1 q2;split at q3
  ·rename_i ht;have hg:=hgood _ _ _ r1.glob;have hg1:=(hg j (es.map (SE.den E1.ρ))).1;have hg2:=(hg j (es.map (SE.den E1.ρ))).2;simp only [SB.den,SE.den,lX,hg1,beq_iff_eq] at ht
   have hsome:(F j (es.map (SE.den E1.ρ))).isSome=true:=by
    cases hh:(F j (es.map (SE.den E1.ρ))).isSome with
    |true=>rfl
    |false=>rw [hh] at ht; simp at ht
   obtain⟨ys,hys⟩:=aIu.1 hsome;have hres:=aF q3;simp only [aHf] at hres;obtain⟨rfl,hs'⟩:=hres;have hrun':=hs _ ys hys E1.ro w vals fl r1.BO (hgb _ _ _ r1.glob) sh q1
   have hval: ∀(E2:En) (h2:Array Obj) (us fl':List Value),E2.ρ=E1.ρ->Shape pK us fl'->jU E2.ro h2 (uU pK) ys fl'->
    VR E2 h2 (match wC pK (uS (.ap (2*j+1) (iY es))) 0 with |[v]=>v|vs=> .tuple vs) (if hh:us.toArray.size=1 then us.toArray[0] else .tuple us.toArray):=by
    intro E2 h2 us fl' hE2 sh' c1
    have hvr:bT E2 h2 (wC pK (uS (.ap (2*j+1) (iY es))) 0) us:=by refine yS sh' c1 fun k n hk=>?_;rw [aHn];refine DC (ys:=ys) ?_ hk;show E2.ρ _=_;rw [hE2,lX,hg2,hys];rfl
    have:=KW hvr;unfold resV at this;exact this
   cases hsc:Rh (uU pK) with
   |true=>
    rw [hsc] at hs';simp only at hs';subst hs';refine⟨rfl,by rw [<- hρ]; exact hp2,?_⟩;unfold uY uX;rw [hrun];refine Calls.mono hrun' fun e w' ⟨u,he,hb,ro',k1,k2,k3,k4⟩=> ⟨u,he,?_⟩;have hkeep:Keeps E w.heap E w'.heap:=⟨rfl,fun _ h=>h,fun _ _=>rfl,fun _ _=>rfl,fun _ h=>h,fun b hbr=>hb.block b (r.BO b hbr)⟩
    have st2:Stp E s.h w E s.h w':=
     ⟨rfl,fun _ h=>h,fun _ _=>rfl,fun _ _=>rfl,fun _ h=>h,fun b hbr=> .inl hbr,aHh _,.inr rfl,fun _ h=> .inl h,hb.os,hb.tape,hb.output,hb.size,fun b hbl _=>hb.block b hbl,fun id o h _=> ⟨id,o,h,rfl⟩⟩
    have r2:bG E s.h w':=by refine⟨r.fresh,r.res,fun id o h=>?_,r.inj,fun b hbr=>aIe (r.BO b hbr) hb.size,Glob.keep r.glob (fun _ h=>h) hkeep.MW⟩;obtain⟨g1,g2,g3⟩:=r.live id o h;exact⟨g1,g2.keep hkeep g1 (hb.block _ (jS r h)),g3⟩
    obtain⟨us,fl',sh',c1,rfl⟩:=k4;exact⟨E,st2,r2,hval E w'.heap us fl' hρ.symm sh' (c1.aBz hsc)⟩
   |false=>
    rw [hsc] at hs';simp only at hs';subst hs';refine⟨rfl,by rw [<- hρ]; exact hp2,?_⟩;unfold uY uX;rw [hrun];refine Calls.mono hrun' fun e w' ⟨u,he,hb,ro',k1,k2,k3,k4⟩=> ⟨u,he,?_⟩;have hkeep:Keeps E1 w.heap { E1 with ro:=ro' } w'.heap:=⟨rfl,fun _ h=>h,fun _ _=>rfl,fun _ _=>rfl,k1,fun b hbr=>hb.block b (r1.BO b hbr)⟩
    have st2:Stp E1 h1 w { E1 with ro:=ro' } h1 w':=
     ⟨rfl,fun _ h=>h,fun _ _=>rfl,fun _ _=>rfl,k1,fun b hbr=>(k2 b hbr).imp id .inr,aHh _,.inr rfl,fun _ h=> .inl h,hb.os,hb.tape,hb.output,hb.size,fun b hbl _=>hb.block b hbl,fun id o h _=> ⟨id,o,h,rfl⟩⟩
    have r2:bG { E1 with ro:=ro' } h1 w':=by
     refine⟨r1.fresh,r1.res,fun id o h=>?_,r1.inj,k3,Glob.keep r1.glob k1 hkeep.MW⟩;obtain⟨g1,g2,g3⟩:=r1.live id o h;refine⟨g1,g2.keep hkeep g1 (hb.block _ (jS r1 h)),fun hr=>?_⟩;rcases k2 _ hr with hr|hr
     ·exact g3 hr
     ·have hlt:(E1.θ id).1<w.heap.size:=jS r1 h;have hge:w.heap.size<=(E1.θ id).1:=hr;omega
    obtain⟨us,fl',sh',c1,rfl⟩:=k4;exact⟨{ E1 with ro:=ro' },s1.trans st2,r2,hval { E1 with ro:=ro' } w'.heap us fl' rfl sh' c1⟩
  ·simp [T.leaf] at q3
end
structure rM where
 w0:World
 ro:Nat->Prop
 m:Nat
 θ:Nat->Nat×Nat
 κ:Nat->Nat
def rM.fp (B:rM) (b:Nat):Prop:= ∃i,i<B.m/\(B.θ i).1=b
structure Bel (B:rM) (w:World):Prop where
 os:w.os=B.w0.os
 tape:w.tape=B.w0.tape
 output:w.output=B.w0.output
 size:B.w0.heap.size<=w.heap.size
 blk: ∀k,k<B.w0.heap.size->¬B.fp k->w.heap[k]?=B.w0.heap[k]?
structure rH (B:rM) (E:En) (s:St) (a:Act) (w:World):Prop where
 fit:Ig E s a w
 ro: ∀b,B.ro b->E.ro b
 JF: ∀b,E.ro b->B.ro b\/B.w0.heap.size<=b\/B.fp b
 bel:Bel B w
 own: ∀id o,s.h.get id=some o->B.w0.heap.size<=(E.θ id).1\/B.fp (E.θ id).1
 inx: ∀i,i<B.m->E.dm i/\E.θ i=B.θ i/\E.κ i=B.κ i
section
variable {P:Program} {B:rM}
theorem rH.step [Glob] {E E':En} {s s':St} {a a':Act} {w w':World} (t:rH B E s a w) (st:Stp E s.h w E' s'.h w') (f':Fit E' s' a' w'):rH B E' s' a' w':=by
 have hown: ∀id o,s'.h.get id=some o->B.w0.heap.size<=(E'.θ id).1\/B.fp (E'.θ id).1:=by
  intro id o ho;rcases aHw (E'.θ id).1 w.heap.size with h|h
  ·obtain⟨Ej,o0,h0,he⟩:=st.own id o ho h;rw [<- he];exact t.own Ej o0 h0
  ·exact .inl (aHP t.bel.size h)
 refine⟨f'.x,fun b hb=>st.ro b (t.ro b hb),fun b hb=>?_,⟨st.os.trans t.bel.os,st.tape.trans t.bel.tape,st.output.trans t.bel.output,aHP t.bel.size st.size,fun k hk hn=>?_⟩,hown,fun i hi=>?_⟩
 ·rcases st.JF b hb with h|⟨id,o,h1,h2⟩|h
  ·exact t.JF b h
  ·rw [<- h2]; exact .inr (t.own id o h1)
  ·exact .inr (.inl (aHP t.bel.size h))
 ·rw [<- t.bel.blk k hk hn];refine st.keep k (aIe hk t.bel.size) fun id o ho he=>?_;rcases t.own id o ho with h|h
  ·omega
  ·rw [he] at h; exact hn h
 ·obtain⟨h1,h2,h3⟩:=t.inx i hi;exact⟨st.dm i h1,by rw [st.θ i h1]; exact h2,by rw [st.κ i h1]; exact h3⟩
theorem rH.then [Glob] {E:En} {s s':St} {a a':Act} {w w':World} (t:rH B E s a w) (h:Then E s a w s' a' w'): ∃E',rH B E' s' a' w'/\E'.ρ=E.ρ/\Glob.ok E'.ρ E'.ro w'.heap:=by obtain⟨_,_,E',st,f'⟩:=h;exact⟨E',t.step st f',st.ρ,f'.rel.glob⟩
theorem rH.pc {E:En} {s:St} {a:Act} {w:World} {pc:List (SB×Bool)} (t:rH B E s a w) (hp:bK E.ρ pc):rH B E { s with pc:=pc } a w:=
 ⟨⟨t.fit.fresh,t.fit.res,t.fit.live,t.fit.inj,t.fit.BO,t.fit.sr,hp⟩,t.ro,t.JF,t.bel,t.own,t.inx⟩
theorem Oc {r:Ren}: ∀{m:Nat},Oe m r=true->∀i,i<m->i<r.bl.length/\r.id i=i/\r.Bc i=0
 |0,_,i,hi=>by omega
 |n+1,h,i,hi=>by
  simp only [Oe,aHg] at h;obtain⟨⟨h1,h2⟩,h3⟩:=h;by_cases he:i=n
  ·subst he;split at h1
   ·rename_i j hj;have h1:=aHj h1;subst h1;refine⟨?_,?_,aHj h2⟩
    ·rw [dI] at hj;exact (aHB.1 hj).1
    ·unfold Ren.id; rw [hj]
   ·simp at h1
  ·exact Oc h3 i (by omega)
theorem rH.fits [Glob] {E:En} {c:CS} {s:St} {r:Ren} {a:Act} {w:World} (t:rH B E s a w) (hg:Glob.ok E.ρ E.ro w.heap) (h:c.fits prv s r=true) (hid:Oe B.m r=true):r.ns.length<=900/\rH B (E.ren r) c.st a w:=by
 obtain⟨hl,f,ho⟩:=GV ZB (t.fit.fit hg) h;refine⟨hl,f.x,t.ro,t.JF,t.bel,fun id o hid=>?_,fun i hi=>?_⟩
 ·obtain⟨o',h'⟩:=ho id o hid;exact t.own _ _ h'
 ·obtain⟨q1,q2,q3⟩:=Oc hid i hi;obtain⟨h1,h2,h3⟩:=t.inx i hi;refine⟨⟨q1,by rw [q2]; exact h1⟩,?_,?_⟩
  ·show ((E.θ (r.id i)).1,(E.θ (r.id i)).2+r.Bc i)=_;rw [q2,q3,aHJ];exact h2
  ·show E.κ (r.id i)-r.Bc i=_;rw [q2,q3,aIf];exact h3
theorem rH.low {K:Nat} {E:En} {c:CS} {a:Act} {w:World} {ρ':Nat->Int} (hc:CW K c=true) (hρ: ∀i,i<K->ρ' i=E.ρ i) (t:rH B E c.st a w):rH B { E with ρ:=ρ' } c.st a w:=
 ⟨t.fit.low hc hρ,t.ro,t.JF,t.bel,t.own,t.inx⟩
def rM.out (B:rM) (ys:List Int) (ro:Nat->Prop):En:={ ρ:=low ys,θ:=B.θ,κ:=B.κ,dm:=fun i=>i<B.m,ro:=ro }
def QE (B:rM) (pK:List RK) (eX:List eP) (ko:Nat) (ys:List Int) (e:Ending) (w':World):Prop:=
 ∃u,e= .returned u/\Bel B w'/\∃ro':Nat->Prop,(∀b,B.ro b->ro' b)/\(∀b,ro' b->B.ro b\/B.w0.heap.size<=b)/\(∀b,ro' b->b<w'.heap.size)/\(∀i,i<B.m->¬ro' (B.θ i).1)/\
  (∀i o,eX[i]?=some o->OR (B.out ys ro') w'.heap i o)/\ayB pK (ys.drop ko) ro' w'.heap u
def agT (us:List Value):Value:=if h:us.toArray.size=1 then us.toArray[0] else .tuple us.toArray
def QR (B:rM) (wX:List CS) (ys:List Int) (e:Ending) (w':World):Prop:=
 ∃(us:List Value) (i:Nat) (c:CS) (E':En),e= .returned (agT us)/\Bel B w'/\wX[i]?=some c/\ys[0]?=some (i:Int)/\ys.length=c.k+1/\(∀a x,ys[a+1]?=some x->E'.ρ a=x)/\us.length=c.slots.length/\
  Ig E' c.st { tmps:=us.toArray,defers:=[] } w'/\(∀b,B.ro b->E'.ro b)/\(∀b,E'.ro b->B.ro b\/B.w0.heap.size<=b)/\(∀i,i<B.m->i<c.objs.length/\E'.dm i/\E'.θ i=B.θ i/\E'.κ i=B.κ i)/\(∀id o,c.st.h.get id=some o->B.m<=id->B.w0.heap.size<=(E'.θ id).1)
def QX (B:rM) (pK:List RK) (eX:List eP) (ko:Nat) (wX:List CS) (ys:List Int):Ending->World->Prop:=match wX with
 |[]=>QE B pK eX ko ys
 |c::l=>QR B (c::l) ys
structure abQ [Glob] (P:Program) (g:Jy) (chk:Nat->List Oper->Bool):Prop where
 tt:fE P g.tt
 call:kP P g.call
 draw:Dq P chk g.draw
theorem yY {chk:Nat->List Oper->Bool} {N:Nat} {body:Code} (h:nH chk N body=true): ∀(p:List Nat) {c:Code} {fr:List FrE},uZ body p=some (c,fr)->nH chk N c=true
 |[],c,fr,hl=>by simp only [uZ,aHe,aHf] at hl;rw [<- hl.1]; exact h
 |d::p,c,fr,hl=>by
  simp only [uZ] at hl;split at hl
  ·rename_i a b fr' hp;have:=yY h p hp;simp only [nH,aHg] at this;split at hl
   ·simp only [aHe,aHf] at hl; rw [<- hl.1]; exact this.1
   ·simp only [aHe,aHf] at hl; rw [<- hl.1]; exact this.2
  ·rename_i id b fr' hp;have:=yY h p hp;simp only [nH] at this;simp only [aHe,aHf] at hl; rw [<- hl.1]; exact this
  ·rename_i v a b fr' hp;have:=yY h p hp;simp only [nH,aHg] at this;split at hl
   ·simp only [aHe,aHf] at hl; rw [<- hl.1]; exact this.1
   ·simp only [aHe,aHf] at hl; rw [<- hl.1]; exact this.2
  ·rename_i b fr' hp;have:=yY h p hp;simp only [nH] at this;simp only [aHe,aHf] at hl; rw [<- hl.1]; exact this
  ·rename_i b fr' hp;have:=yY h p hp;simp only [nH] at this;simp only [aHe,aHf] at hl; rw [<- hl.1]; exact this
  ·simp at hl
theorem DT {body:Code}: ∀(p:List Nat) {c:Code} {fr:List FrE},uZ body p=some (c,fr)->PO body fr
 |[],c,fr,h=>by simp only [uZ,aHe,aHf] at h;rw [<- h.2]; trivial
 |d::p,c,fr,h=>by
  have h0:=h;simp only [uZ] at h;split at h
  ·rename_i a b fr' hp;have ih:=DT p hp;split at h
   ·simp only [aHe,aHf] at h;obtain⟨rfl,rfl⟩:=h;refine⟨?_,ih⟩;simp only [uZ,hp]
   ·simp only [aHe,aHf] at h;rw [<- h.2]; exact ih
  ·rename_i id b fr' hp;have ih:=DT p hp;simp only [aHe,aHf] at h;rw [<- h.2]; exact ih
  ·rename_i v a b fr' hp;have ih:=DT p hp;split at h
   ·simp only [aHe,aHf] at h; rw [<- h.2]; exact ih
   ·simp only [aHe,aHf] at h; rw [<- h.2]; exact ih
  ·rename_i b fr' hp;have ih:=DT p hp;simp only [aHe,aHf] at h;rw [<- h.2];exact⟨hp,ih⟩
  ·rename_i b fr' hp;have ih:=DT p hp;simp only [aHe,aHf] at h;rw [<- h.2]; exact ih
  ·simp at h
def YA (F:uN) (ρ:Nat->Int) (ys:List Int):Lf->Prop
 | .out es=>es.map (SE.den ρ)=ys
 | .jump j es=>F j (es.map (SE.den ρ))=some ys
def atD [Glob] (P:Program) (body:Code) (N:Nat) (B:rM) (Q:Exit->Act->World->Prop) (F:uN) (ys:List Int) (tabs:KL):Prop:=
 ∀p l,tabs p=some l->∃b fr,uZ body p=some (.loop b,fr)/\∀j c,(j,c)∈l->∀E a w,rH B E c.st a w->Glob.ok E.ρ E.ro w.heap->(∃xs:List Int,(∀i x,xs[i]?=some x->E.ρ i=x)/\xs.length=c.k/\c.k<=900/\F j xs=some ys)->N<=a.tmps.size->a.defers= []->PN P b (KE P Q fr) a w
theorem sS (g:Tr SE): ∀(n i:Nat),(Fb g n i).length=n
 |0,_=>rfl
 |n+1,i=>by simp only [Fb];split<;>simp [sS g n (i+1)]
theorem Ag (m:Nat) (c:CS) (s:St):(c.mG m s).ns.length=c.k:=by unfold CS.mG;split;exact sS _ _ _
theorem GU: ∀(n i:Nat) (ns:List SE),(JW n i ns).length=ns.length
 |0,_,_=>rfl
 |_+1,_,[]=>rfl
 |n+1,i,_::ns=>by simp only [JW,aHq,GU n (i+1) ns]
theorem CG (kQ:Nat) (r:Ren):(xW kQ r).ns.length=r.ns.length:=by
 unfold xW;split
 ·rfl
 ·exact GU _ _ _
theorem Uc {α:Type} {k:St->T α} {E:En} {a:Act} {w:World} {x:α}: ∀{ts:List (Nat×Nat)} {s:St},(YU k ts s).leaf E.ρ=some x->rH B E s a w->∃s',rH B E s' a w/\(k s').leaf E.ρ=some x
 |[],s,h,t=> ⟨s,t,h⟩
 |(i,g)::ts,s,h,t=>by
  simp only [YU] at h;split at h
  ·obtain⟨pc',hp',h1⟩:=dB t.fit.pc h;exact Uc h1 (t.pc hp')
  ·exact Uc h t
theorem DV [Glob] {kQ:Nat} {F:uN} {ys:List Int} {body:Code} {N:Nat} {Q:Exit->Act->World->Prop} {tabs:KL} (hj:atD P body N B Q F ys tabs) {p:List Nat} {l0:List (Nat×CS)} (hp:tabs p=some l0) {b:Code} {fr:List FrE} (hl:uZ body p=some (.loop b,fr)) :
 ∀{l:List (Nat×CS)} {s:St} {lf:Lf} {E:En} {a:Act} {w:World},(∀x∈l,x∈l0)->(xR B.m kQ s l).leaf E.ρ=some lf->YA F E.ρ ys lf->rH B E s a w->Glob.ok E.ρ E.ro w.heap->N<=a.tmps.size->a.defers= []->PN P b (KE P Q fr) a w
 |[],s,lf,E,a,w,_,h,_,_,_,_,_=>by simp [xR,T.leaf] at h
 |(j,c)::l,s,lf,E,a,w,hsub,h,hlf,t,hg,hN,hd=>by
  simp only [xR] at h;split at h
  ·exact DV hj hp hl (fun x hx=>hsub x (by simp [hx])) h hlf t hg hN hd
  ·split at h
   ·rename_i hf;have:=aF h;subst this;simp only [aHg] at hf;obtain⟨hle,t'⟩:=t.fits hg hf.1 hf.2;obtain⟨b',fr',hl',hh⟩:=hj p l0 hp;rw [hl] at hl';simp only [aHe,aHf,Code.loop.injEq] at hl';obtain⟨rfl,rfl⟩:=hl';have hgl:(xW kQ (c.mG B.m s)).ns.length=c.k:=by rw [CG,Ag]
    refine hh j c (hsub _ (by simp)) (E.ren (xW kQ (c.mG B.m s))) a w t' (Glob.ren hg fun i hi=>Ren.pX hle hi) ⟨(xW kQ (c.mG B.m s)).ns.map (SE.den E.ρ),fun i x hi=>?_,by simp [hgl],by rw [<- hgl]; exact hle,hlf⟩ hN hd;rw [aHG,aHy] at hi;obtain⟨e,he,rfl⟩:=hi;show (xW kQ (c.mG B.m s)).env E.ρ i=_;unfold Ren.env;rw [dI,he]
   ·exact DV hj hp hl (fun x hx=>hsub x (by simp [hx])) h hlf t hg hN hd
theorem Ec {α:Type} {k:St->T α} {E:En} {a:Act} {w:World} {x:α}: ∀{ts:List Nat} {s:St},(C9 k ts s).leaf E.ρ=some x->rH B E s a w->∃s',rH B E s' a w/\(k s').leaf E.ρ=some x
 |[],s,h,t=> ⟨s,t,h⟩
 |i::ts,s,h,t=>by
  simp only [C9] at h;split at h
  ·rename_i c hc;obtain⟨pc',hp',h1⟩:=dB t.fit.pc h;refine Ec h1 ⟨⟨t.fit.fresh,t.fit.res,t.fit.live,t.fit.inj,t.fit.BO,fun j v hj=>?_,hp'⟩,t.ro,t.JF,t.bel,t.own,t.inx⟩;simp only at hj;rw [Tr.get_put] at hj;split at hj
   ·rename_i he;subst he;simp only [aHe] at hj;subst hj;obtain⟨u,h2,h3⟩:=t.fit.sr _ _ hc;refine⟨u,h2,?_⟩;simp only [VR] at h3 ⊢;rw [h3];rfl
   ·exact t.fit.sr j v hj
  ·exact Ec h t
theorem ahE (g:Jy) (h:Hp):(jQ g h).ns.length=g.ko/\(jQ g h).bl=List.range g.eX.length/\(jQ g h).sh= []:=by unfold jQ;split;exact⟨sS _ _ _,rfl,rfl⟩
def rE (K:Nat):List eP->Bool
 |[]=>true
 |o::l=>Gn K o&&rE K l
theorem zT {K:Nat}: ∀{l:List eP},rE K l=true->∀{i:Nat} {o:eP},l[i]?=some o->Gn K o=true
 |[],_,_,_,h=>by simp at h
 |o0::l,hs,i,o,h=>by
  simp only [rE,aHg] at hs
  cases i with
  |zero=>simp at h; rw [<- h]; exact hs.1
  |succ i=>exact zT hs.2 (by simpa using h)
theorem LJ {n m kQ:Nat} {s:St} {ρ:Nat->Int} {lf:Lf}: ∀{l:List CS} {k:Nat},(X4 n m kQ s l k).leaf ρ=some lf->∃i c,l[i-k]?=some c/\(c.fits prv s (xW kQ (c.mG m s))=true/\Oe m (xW kQ (c.mG m s))=true)/\n=c.slots.length/\lf= .out (.lit (i:Int)::(xW kQ (c.mG m s)).ns)/\k<=i
 |[],k,h=>by simp [X4,T.leaf] at h
 |c::l,k,h=>by
  simp only [X4] at h;split at h
  ·obtain⟨i,c',q1,q2,q3,q4,q5⟩:=LJ h;refine⟨i,c',?_,q2,q3,q4,by omega⟩;rw [show i-k=(i-(k+1))+1 by omega,aHp];exact q1
  ·rename_i hq;simp only [aHg] at hq;split at h
   ·rename_i hf;have:=aF h;simp only [aHg] at hf;exact⟨k,c,by simp,hf,aHj hq.2,this.symm,aHh _⟩
   ·obtain⟨i,c',q1,q2,q3,q4,q5⟩:=LJ h;refine⟨i,c',?_,q2,q3,q4,by omega⟩;rw [show i-k=(i-(k+1))+1 by omega,aHp];exact q1
theorem Wi {E E':En} {h h':Array Obj} (kp:Keeps E h E' h'): ∀{xs:List AV} {us:List Value} {i:Nat} {x:AV},bT E h xs us->xs[i]?=some x->∃u,VR E h x u/\∀x',VR E' h' x' u->bT E' h' (xs.set i x') us
 |[],us,i,x,_,hx=>by simp at hx
 |y::ys,us,0,x,hv,hx=>by rw [bC] at hv;obtain⟨u,vs,rfl,a,b⟩:=hv;simp only [aHA,aHe] at hx;subst hx;refine⟨u,a,fun x' hx'=>?_⟩;rw [aJd,bC];exact⟨u,vs,rfl,hx',bT.keep kp _ _ b⟩
 |y::ys,us,i+1,x,hv,hx=>by rw [bC] at hv;obtain⟨u,vs,rfl,a,b⟩:=hv;rw [aHp] at hx;obtain⟨u',h1,h2⟩:=Wi kp b hx;refine⟨u',h1,fun x' hx'=>?_⟩;rw [aJe,bC];exact⟨u,vs,rfl,VR.keep kp _ _ a,h2 x' hx'⟩
theorem afA [Glob] {α:Type} {ρ:Nat->Int} {w:World} {us:List Value} {k:List AV->St->T α} {x:α}: ∀{fz:List (Nat×Nat×Nat)} {vs:List AV} {s:St} {E:En},E.ρ=ρ->bG E s.h w->bK ρ s.pc->bT E w.heap vs us->(Z4 fz vs s k).leaf ρ=some x->
 ∃vs' h' pc' E',bK ρ pc'/\YD E w s.h E' h'/\bT E' w.heap vs' us/\(k vs' { s with h:=h',pc:=pc' }).leaf ρ=some x
 |[],vs,s,E,hρ,r,hp,hv,h=> ⟨vs,s.h,s.pc,E,hp,YD.refl r,hv,h⟩
 |(i,f,t)::l,vs,s,E,hρ,r,hp,hv,h=>by
  simp only [Z4] at h;split at h
  ·rename_i xs hi;split at h
   ·rename_i y hy;rw [dI] at hi hy;obtain⟨y',h1,pc1,E1,hp1,f1,q1,g1⟩:=aeZ hρ r hp h;have kp:=f1.fD.keeps r;obtain⟨u,a,b⟩:=Wi kp hv hi;simp only [VR] at a;obtain⟨ws,rfl,a⟩:=a;obtain⟨u2,a2,b2⟩:=Wi kp a hy;split at g1
    ·rename_i e he;have hc:=qQ (q1 _ a2) he
     have hv1:bT E1 w.heap (vs.set i (.agg (xs.set f (.dat e t)))) us:=by refine b _ ?_;simp only [VR];exact⟨ws,rfl,b2 _ (by simp only [VR]; exact hc)⟩
     obtain⟨vs2,h2,pc2,E2,hp2,f2,q2,g2⟩:=afA (s:={ s with h:=h1,pc:=pc1 }) (f1.ρ.trans hρ) f1.rel hp1 hv1 g1;exact⟨vs2,h2,pc2,E2,hp2,f1.trans f2,q2,g2⟩
    ·simp [T.leaf] at g1
   ·simp [T.leaf] at h
  ·simp [T.leaf] at h
theorem awY [Glob] {g:Jy} {chk:Nat->List Oper->Bool} (hg:abQ P g chk) {fn:Func} (hres:g.res=fn.results.toList) (hm:g.eX.length=B.m) (hlo:rE g.ko g.eX=true) (hko:g.ko<=900) {e:Ex} {s:St} {lf:Lf} {E:En} {a:Act} {w:World} {F:uN} {ys:List Int} (h:(apG g e s).leaf E.ρ=some lf) (hlf:YA F E.ρ ys lf)
 (t:rH B E s a w) (hgl:Glob.ok E.ρ E.ro w.heap) (hd:a.defers= []):bodyPost P fn (QX B g.pK g.eX g.ko g.wX ys) (EP e) a w:=by
 have fit:=t.fit.fit hgl
 have key: ∀{x:T Lf},x=(match oN g.tt s g.res with
  |none=>T.fail
  |some vs=>match g.wX with
   |[]=>match cellsOf g.pK vs with
    |none=> .fail
    |some cells=>ED cells s fun cells s=>match IZ (jQ g s.h) g.eX.length s.h g.eX 0 with
     |true=>outs (uU g.pK) cells s fun es _=> .ret (.out ((jQ g s.h).ns++es))
     |false=> .fail
   |c::l=>Z4 g.fz vs s fun vs s=>X4 vs.length g.eX.length g.kQ ⟨bI vs 0 .nil,s.h,s.pc⟩ (c::l) 0)->x.leaf E.ρ=some lf->∃v,(results fn a.tmps).run P w= .ok v w/\QX B g.pK g.eX g.ko g.wX ys (.returned v) w:=by
  intro x hx hl;subst hx;split at hl
  ·simp [T.leaf] at hl
  ·rename_i vs hr;rw [hres] at hr;obtain⟨us,g1,g2⟩:=Am hg.tt fit hr
   have hrun:(results fn a.tmps).run P w= .ok (agT us) w:=by
    have hm:(fn.results.mapM (BQ a)).run P w= .ok us.toArray w:=by rw [aJX];rw [map_eq_pure_bind];simp only [Sem.run_bind,g1];rfl
    have hr2:results fn a.tmps=(do let vs <- fn.results.mapM (BQ a); pure (if h:vs.size=1 then vs[0] else .tuple vs)):=rfl;rw [hr2];simp only [Sem.run_bind,hm];rfl
   split at hl
   ·rename_i KA;split at hl
    ·simp [T.leaf] at hl
    ·rename_i cells hc;rw [KA];show ∃v,_/\QE B g.pK g.eX g.ko ys (.returned v) w;obtain⟨fl,sh,hv2⟩:=sW g2 hc;obtain⟨cells',h1,pcF,E1,hpF,f,hfr,hl⟩:=wE rfl fit.rel fit.pc hl;have hv3:=hfr _ hv2;have s1:=f.fD;have r1:=f.rel;split at hl
     ·rename_i hob;have hρ:=f.ρ;rw [<- hρ] at hl hlf hpF;obtain⟨es,pc1,hp1,q1,q2⟩:=La (s:={ s with h:=h1,pc:=pcF }) hpF hv3 hl;have:=aF q2;subst this;simp only [YA] at hlf;obtain⟨n1,n2,n3⟩:=ahE g h1
      have hdrop:ys.drop g.ko=es.map (SE.den E1.ρ):=by rw [<- hlf,aIw,List.drop_append_of_le_length (by simp [n1])];rw [aHE (by simp [n1]),aHx]
      have aGD: ∀i,i<g.ko->low ys i=(jQ g h1).env E1.ρ i:=by
       intro i hi;have hlt:i<(jQ g h1).ns.length:=by omega
       unfold low Ren.env;rw [dI,aHu hlt,<- hlf,aID,aIw,aJi (by simpa using hlt),aHG,aHu hlt];rfl
      have avN: ∀i,i<B.m->E1.dm i/\E1.θ i=B.θ i/\E1.κ i=B.κ i:=by intro i hi;obtain⟨h1,h2,h3⟩:=t.inx i hi;exact⟨s1.dm i h1,by rw [s1.θ i h1]; exact h2,by rw [s1.κ i h1]; exact h3⟩
      have avO: ∀i,i<g.eX.length->(jQ g h1).id i=i:=by intro i hi;unfold Ren.id;rw [n2,dI,aIC hi]
      have XC: ∀i,(jQ g h1).Bc i=0:=by intro i;unfold Ren.Bc;rw [n3];rfl
      have hlive: ∀i,i<B.m->¬E1.ro (B.θ i).1:=by
       intro i hi;have hlt:i<g.eX.length:=by omega
       obtain⟨o',q3,_,_⟩:=mD hob (aHu hlt);rw [aHn,avO i hlt] at q3;have:=(r1.live i o' q3).2.2;rw [(avN i hi).2.1] at this;exact this
      refine⟨agT us,hrun,_,rfl,t.bel,E1.ro,fun b hb=>s1.ro b (t.ro b hb),fun b hb=>?_,r1.BO,hlive,fun i o hi=>?_,us,fl,sh,by rw [hdrop]; exact q1,rfl⟩
      ·have key:B.ro b\/B.w0.heap.size<=b\/B.fp b:=by
        rcases s1.JF b hb with h|⟨id,o,h1,h2⟩|h
        ·exact t.JF b h
        ·rw [<- h2]; exact .inr (t.own id o h1)
        ·exact .inr (.inl (aHP t.bel.size h))
       rcases key with h|h|⟨i,hi,he⟩
       ·exact .inl h
       ·exact .inr h
       ·exact absurd hb (by rw [<- he]; exact hlive i hi)
      ·have hil:=(aHB.1 hi).1;obtain⟨o',q3,q4,q5⟩:=mD hob hi;rw [aHn] at q3 q5;have ho:=(r1.live _ o' q3).2.1;have ho2:=OR.ren (E:=E1) (r:=jQ g h1) (by omega) (id:=i) (by rw [n2,aJP]; exact q4) q5 ho
       have kp:Keeps (E1.ren (jQ g h1)) w.heap { ρ:=(jQ g h1).env E1.ρ,θ:=B.θ,κ:=B.κ,dm:=fun i=>i<B.m,ro:=E1.ro } w.heap:=by
        have hd: ∀id,(E1.ren (jQ g h1)).dm id->id<g.eX.length:=by intro id hh;have:=hh.1;rw [n2,aJP] at this;exact this
        refine⟨rfl,fun id hh=>by have:=hd id hh; show id<B.m; omega,fun id hh=>?_,fun id hh=>?_,fun _ h=>h,fun _ _=>rfl⟩
        ·have:=hd id hh;show B.θ id=((E1.θ ((jQ g h1).id id)).1,(E1.θ ((jQ g h1).id id)).2+(jQ g h1).Bc id);rw [avO id this,XC,aHJ,(avN id (by omega)).2.1]
        ·have:=hd id hh;show B.κ id=E1.κ ((jQ g h1).id id)-(jQ g h1).Bc id;rw [avO id this,XC,aIf,(avN id (by omega)).2.2]
       have aEU:(E1.ren (jQ g h1)).dm i:=by refine⟨by rw [n2,aJP]; exact hil,?_⟩;rw [avO i hil];exact (avN i (by omega)).1
       have hθi:(E1.ren (jQ g h1)).θ i=B.θ i:=(kp.θ i aEU).symm;have ho3:=OR.keep kp aEU rfl ho2;exact OR.low (K:=g.ko) (E:={ ρ:=(jQ g h1).env E1.ρ,θ:=B.θ,κ:=B.κ,dm:=fun i=>i<B.m,ro:=E1.ro }) (E':=B.out ys E1.ro) aGD rfl rfl rfl rfl (zT hlo hi) ho3
     ·simp [T.leaf] at hl
   ·rename_i c0 l0 KA
    have hq:QR B (c0::l0) ys (.returned (agT us)) w:=by
     obtain⟨vs1,h1,pc1,E1,hp1,f1,g2,hl⟩:=afA rfl fit.rel fit.pc g2 hl;have hgl:=f1.rel.glob
     have t0:rH B E1 ⟨bI vs1 0 .nil,h1,pc1⟩ { tmps:=us.toArray,defers:=[] } w:=by have sr1:=Gy g2 0;exact t.step (s':=⟨bI vs1 0 .nil,h1,pc1⟩) f1.fD ⟨f1.rel,by simpa using sr1,by rw [f1.ρ]; exact hp1⟩
     rw [<- f1.ρ] at hl hlf;obtain⟨i,c,q1,⟨q2,q2'⟩,q3,q4,_⟩:=LJ hl;rw [hm] at q2 q2' q4;obtain⟨hle,t1⟩:=t0.fits hgl q2 q2';rw [q4] at hlf;simp only [YA,aHo] at hlf;subst hlf
     have hbl:(xW g.kQ (c.mG B.m ⟨bI vs1 0 .nil,h1,pc1⟩)).bl.length=c.objs.length:=by have:=q2;unfold CS.fits at this;simp only [aHg] at this;exact aHj this.1.1.1.1.2
     have hin: ∀i,i<B.m->i<c.objs.length:=fun i hi=>by rw [<- hbl]; exact (Oc q2' i hi).1
     have hlive: ∀i,i<B.m->∃o,c.st.h.get i=some o:=by intro i hi;have hi2:=hin i hi;refine⟨c.objs[i],?_⟩;show (wB c.objs 0 .nil).get i=_;rw [nX,aHd (by omega)];simp
     have hfp: ∀b,B.fp b->¬(E1.ren (xW g.kQ (c.mG B.m ⟨bI vs1 0 .nil,h1,pc1⟩))).ro b:=by rintro b ⟨i,hi,rfl⟩ hb;obtain⟨o,ho⟩:=hlive i hi;have:=(t1.fit.live i o ho).2.2;rw [(t1.inx i hi).2.1] at this;exact this hb
     refine⟨us,i,c,E1.ren (xW g.kQ (c.mG B.m ⟨bI vs1 0 .nil,h1,pc1⟩)),rfl,t.bel,by simpa using q1,by simp [SE.den],by simp [CG,Ag],fun a x ha=>?_,by rw [<- q3,g2.length],t1.fit,t1.ro,fun b hb=>?_,fun i hi=> ⟨hin i hi,t1.inx i hi⟩,fun id o ho hid=>?_⟩
     ·simp only [aHp,aHG,aHy] at ha;obtain⟨e,he,rfl⟩:=ha;show (xW g.kQ (c.mG B.m ⟨bI vs1 0 .nil,h1,pc1⟩)).env E1.ρ a=_;unfold Ren.env;rw [dI,he]
     ·rcases t1.JF b hb with h|h|h
      ·exact .inl h
      ·exact .inr h
      ·exact absurd hb (hfp b h)
     ·rcases t1.own id o ho with h|⟨i,hi,he⟩
      ·exact h
      ·obtain⟨o',ho'⟩:=hlive i hi;rw [<- (t1.inx i hi).2.1] at he;have:=t1.fit.inj i id o' o ho' ho he;omega
    exact⟨agT us,hrun,by rw [KA]; exact hq⟩
 unfold apG at h
 cases e with
 |exit id=>simp [T.leaf] at h
 |normal=>exact⟨hd,key rfl h⟩
 |ret=>exact⟨hd,key rfl h⟩
theorem PW {P:Program} {Q:Exit->Act->World->Prop} {e:Ex} {a:Act} {w:World} (h:Q (EP e) a w):Exit.noGoto Q (EP e) a w:=by cases e<;>exact h
theorem U8 [Glob] {g:Jy} {chk:Nat->List Oper->Bool} (hg:abQ P g chk) {body:Code} {N:Nat} (hd:nH chk N body=true) {fn:Func} (hres:g.res=fn.results.toList) (hm:g.eX.length=B.m) (hlo:rE g.ko g.eX=true) (hko:g.ko<=900) {F:uN} {ys:List Int} {tabs:KL}
 (hj:atD P body N B (bodyPost P fn (QX B g.pK g.eX g.ko g.wX ys)) F ys tabs): ∀n:Nat,
 (∀p c fr s lf E a w,uZ body p=some (c,fr)->(Em g tabs n p c fr s).leaf E.ρ=some lf->YA F E.ρ ys lf->rH B E s a w->Glob.ok E.ρ E.ro w.heap->N<=a.tmps.size->a.defers= []->c.wp P (KE P (bodyPost P fn (QX B g.pK g.eX g.ko g.wX ys)) fr) a w)/\
 (∀fr e s lf E a w,PO body fr->(Ah g tabs n fr e s).leaf E.ρ=some lf->YA F E.ρ ys lf->rH B E s a w->Glob.ok E.ρ E.ro w.heap->N<=a.tmps.size->a.defers= []->KE P (bodyPost P fn (QX B g.pK g.eX g.ko g.wX ys)) fr (EP e) a w)
 |0=> ⟨fun _ _ _ _ _ _ _ _ _ h=>by simp [Em,T.leaf] at h,fun _ _ _ _ _ _ _ _ h=>by simp [Ah,T.leaf] at h⟩
 |n+1=>by
  obtain⟨ih1,ih2⟩:=U8 hg hd hres hm hlo hko hj n
  have leaf: ∀p c fr s lf E a w,uZ body p=some (c,fr)->((g.ev c s).bind fun (e,s')=>Ah g tabs n fr e s').leaf E.ρ=some lf->YA F E.ρ ys lf->rH B E s a w->Glob.ok E.ρ E.ro w.heap->N<=a.tmps.size->a.defers= []->c.wp P (KE P (bodyPost P fn (QX B g.pK g.eX g.ko g.wX ys)) fr) a w:=by intro p c fr s lf E a w hl h hlf t hgl hN hdf;obtain⟨⟨e,s'⟩,h1,h2⟩:=T.gZ h;refine wp_mono (oO hg.tt hg.call hg.draw c (yY hd p hl) E s s' e a w hN (t.fit.fit hgl) h1) fun x a' w' ⟨hx,ht⟩=>?_;subst hx;obtain⟨E',t',hρ,hg'⟩:=t.then ht;exact ih2 fr e s' lf E' a' w' (DT p hl) (by rw [hρ]; exact h2) (by rw [hρ]; exact hlf) t' hg' (by rw [ht.size]; exact hN) (by rw [ht.defers,hdf])
  constructor
  ·intro p c fr s lf E a w hl h hlf t hgl hN hdf;simp only [Em] at h;split at h
   ·rename_i l hcs;obtain⟨b,fr',hl',_⟩:=hj p l hcs;rw [hl] at hl';simp only [aHe,aHf] at hl';obtain⟨rfl,rfl⟩:=hl';obtain⟨s',t',h'⟩:=Ec h t;exact ZN (DV hj hcs hl (fun _ hx=>hx) (by rw [<- hm]; exact h') hlf t' hgl hN hdf)
   ·cases c with
    |seq x y=> simp only at h;refine wp_seq ?_;exact ih1 (0::p) x (.seq (1::p) y::fr) s lf E a w (by simp only [uZ,hl]) h hlf t hgl hN hdf
    |block id b=> simp only at h;refine wp_block ?_;exact ih1 (0::p) b (.block id::fr) s lf E a w (by simp only [uZ,hl]) h hlf t hgl hN hdf
    |scope b=> simp only at h;refine wp_scope_straight ?_;exact ih1 (0::p) b (.scope::fr) s lf E a w (by simp only [uZ,hl]) h hlf t hgl hN hdf
    |cond v x y=>
     simp only at h;split at h
     ·rename_i c hv;obtain⟨pc',hp',h1⟩:=dB t.fit.pc h;have hvr:=jW t.fit.sr hv;simp only [VR] at hvr;refine wp_cond hvr ?_
      cases hcd:c.den E.ρ with
      |true=> rw [hcd] at h1;simp only at h1;exact ih1 (0::p) x fr _ lf E a w (by simp only [uZ,hl]) h1 hlf (t.pc hp') hgl hN hdf
      |false=> rw [hcd] at h1;simp only at h1;exact ih1 (1::p) y fr _ lf E a w (by simp only [uZ,hl]) h1 hlf (t.pc hp') hgl hN hdf
     ·simp [T.leaf] at h
    |_=>simp only at h; exact leaf p _ fr s lf E a w hl h hlf t hgl hN hdf
  ·intro fr e s lf E a w hf h hlf t hgl hN hdf
   cases fr with
   |nil=> simp only [Ah] at h;exact awY hg hres hm hlo hko h hlf t hgl hdf
   |cons f fr=>
    cases f with
    |seq p c=>
     simp only [Ah] at h;obtain⟨hl,hf'⟩:=hf
     cases e with
     |normal=>exact ih1 p c fr s lf E a w hl h hlf t hgl hN hdf
     |exit id=>exact ih2 fr (.exit id) s lf E a w hf' h hlf t hgl hN hdf
     |ret=>exact ih2 fr .ret s lf E a w hf' h hlf t hgl hN hdf
    |block id=>
     simp only [Ah] at h;have hf':PO body fr:=hf
     cases e with
     |normal=>exact ih2 fr .normal s lf E a w hf' h hlf t hgl hN hdf
     |ret=>exact ih2 fr .ret s lf E a w hf' h hlf t hgl hN hdf
     |exit j=>
      simp only at h;show (if j=id then _ else _);split at h
      ·rename_i hj';rw [aHd (aHj hj')];exact ih2 fr .normal s lf E a w hf' h hlf t hgl hN hdf
      ·rename_i hj';rw [aHc (aIQ hj')];exact ih2 fr (.exit j) s lf E a w hf' h hlf t hgl hN hdf
    |loop p b=>
     simp only [Ah] at h;obtain⟨hl,hf'⟩:=hf
     cases e with
     |normal=>
      simp only at h;split at h
      ·rename_i l hcs;obtain⟨s',t',h'⟩:=Ec h t;exact DV hj hcs hl (fun _ hx=>hx) (by rw [<- hm]; exact h') hlf t' hgl hN hdf
      ·simp [T.leaf] at h
     |exit id=>exact ih2 fr (.exit id) s lf E a w hf' h hlf t hgl hN hdf
     |ret=>exact ih2 fr .ret s lf E a w hf' h hlf t hgl hN hdf
    |scope=> simp only [Ah] at h;exact PW (P:=P) (ih2 fr e s lf E a w hf h hlf t hgl hN hdf)
end
end Go.As
end
section
namespace Go.As
open Go.RowKit
def Ren.ents (r:Ren):List (AV×AV×Nat)->List (AV×AV×Nat)
 |[]=>[]
 |(k,v,n)::l=>(r.av k,r.av v,n)::r.ents l
def Ren.ovs (r:Ren):List (SE×List AV)->List (SE×List AV)
 |[]=>[]
 |(i,cs)::l=>(r.se i,r.KJ cs)::r.ovs l
def Ren.ob (r:Ren):eP->eP
 | .cells cs e=> .cells (r.KJ cs) e
 | .map es n=> .map (r.ents es) n
 | .oQ s p=> .oQ s p
 | .vec e t ty ov=> .vec (r.se e) t ty (r.ovs ov)
 | .jF e t=> .jF (r.se e) t
noncomputable def nT (r:Ren):List eP->Nat->Hp->Hp
 |[],_,h=>h
 |o::os,i,h=>nT r os (i+1) (h.put (r.id i) (r.ob o))
def RY (r:Ren):Bool:=r.sh.all fun i=>Nat.beq i 0
def adI (r:SE) (n:Nat):List SE:=(List.range n).map (uS r)
noncomputable def aoA (j:Nat) (c:CS) (pK:List RK) (eX:List eP) (ko:Nat):List AV->St->T (AV×St):=fun args s=>
 match Nat.beq args.length c.slots.length&&c.fits prv ⟨bI args 0 .nil,s.h,s.pc⟩ (c.guess ⟨bI args 0 .nil,s.h,s.pc⟩)&&RY (c.guess ⟨bI args 0 .nil,s.h,s.pc⟩) with
 |true=>pV s (.eq (.ap (2*j) (iY (c.guess ⟨bI args 0 .nil,s.h,s.pc⟩).ns)) (.lit 1)) fun s' b=>match b with
  |true=> .ret (match wC pK (uS (.ap (2*j+1) (iY (c.guess ⟨bI args 0 .nil,s.h,s.pc⟩).ns))) ko with |[v]=>v|vs=> .tuple vs,
   { s' with h:=nT ⟨adI (.ap (2*j+1) (iY (c.guess ⟨bI args 0 .nil,s.h,s.pc⟩).ns)) ko,(c.guess ⟨bI args 0 .nil,s.h,s.pc⟩).bl,[]⟩ eX 0 s'.h })
  |false=> .fail
 |false=> .fail
noncomputable def aE6 (s:St) (t c:Nat):SE:=match s.slots.get t with
 |some v=>match v with
  | .int _ e=>e
  | .agg cs=>match iH cs c with
    |some v=>match v with
     | .int _ e=>e
     |_=> .lit 0
    |none=> .lit 0
  |_=> .lit 0
 |none=> .lit 0
noncomputable def aoP (s:St):List (Nat×Nat)->List SE->List SE
 |[],ns=>ns
 |_::_,[]=>[]
 |(t,c)::l,_::ns=>aE6 s t c::aoP s l ns
noncomputable def ghR (s:St) (gh:List (Nat×Nat)) (r:Ren):Ren:={ r with ns:=aoP s gh r.ns }
noncomputable def aE5 (s:St) (gh:List (Nat×Nat)):Option SE:=match gh with
 |(t,c)::_=>some (aE6 s t c)
 |[]=>none
noncomputable def xZ (q:SE) (kQ:Nat) (ns:List SE) (c:CS) (bl:List Nat) (s:St):Ren:=⟨(List.range c.k).map fun a=>match Nat.blt a kQ with |true=>(match iH ns a with |some e=>e|none=> .lit 0)|false=>uS q (a+1),(List.range c.objs.length).map fun i=>match iH bl i with |some j=>j|none=>s.h.next+(i-bl.length),[]⟩
noncomputable def aoO (g n:SE) (s:St) (k:St->T (AV×St)):T (AV×St):=pV s (kM g (.lit 0)) fun s b=>match b with
 |true=>k s
 |false=>pV s (kM g n) fun s b=>match b with
  |true=> .fail
  |false=>k s
noncomputable def ghT (q:SE) (kQ:Nat) (ns:List SE) (g:Option SE) (c:CS) (bl:List Nat) (s:St) (k:St->T (AV×St)):T (AV×St):=match g with
 |none=>k s
 |some g=>match c.m with
  | .aO _=>k s
  |_=>match c.slots with
   |[]=>k s
   |(_,v)::_=>match v with
    | .sN _ n _=>aoO g ((xZ q kQ ns c bl s).se n) s k
    |_=>k s
noncomputable def Ie (q:SE) (kQ:Nat) (ns:List SE) (g:Option SE) (bl:List Nat):List CS->Nat->St->T (AV×St)
 |[],_,_=> .fail
 |c::l,i,s=>pV s (BM (uS q 0) (.lit (Int.ofNat i))) fun s b=>match b with
  |true=>ghT q kQ ns g c bl s fun s=> .ret (resV ((xZ q kQ ns c bl s).KJ (c.slots.map fun p=>p.2)),
   { s with h:=⟨(nT (xZ q kQ ns c bl s) c.objs 0 s.h).m,s.h.next+(c.objs.length-bl.length),s.h.res⟩ })
  |false=>Ie q kQ ns g bl l (i+1) s
noncomputable def anY (j kQ:Nat) (c:CS) (gh:List (Nat×Nat)) (wX:List CS):List AV->St->T (AV×St):=fun args s=>
 match Nat.beq args.length c.slots.length&&c.fits prv ⟨bI args 0 .nil,s.h,s.pc⟩ (ghR s gh (c.guess ⟨bI args 0 .nil,s.h,s.pc⟩))&&RY (ghR s gh (c.guess ⟨bI args 0 .nil,s.h,s.pc⟩)) with
 |true=>pV s (.eq (.ap (2*j) (iY (ghR s gh (c.guess ⟨bI args 0 .nil,s.h,s.pc⟩)).ns)) (.lit 1)) fun s' b=>match b with
  |true=>Ie (.ap (2*j+1) (iY (ghR s gh (c.guess ⟨bI args 0 .nil,s.h,s.pc⟩)).ns)) kQ (ghR s gh (c.guess ⟨bI args 0 .nil,s.h,s.pc⟩)).ns (aE5 s gh) (ghR s gh (c.guess ⟨bI args 0 .nil,s.h,s.pc⟩)).bl wX 0 s'
  |false=> .fail
 |false=> .fail
section
variable {Eo E2:En} {r:Ren} {h:Array Obj} (hl:r.ns.length<=900) (hsh:r.sh= []) (hρ:Eo.ρ=r.env E2.ρ) (hid: ∀i,Eo.dm i->E2.dm (r.id i)/\E2.θ (r.id i)=Eo.θ i/\E2.κ (r.id i)=Eo.κ i) (hro:Eo.ro=E2.ro)
include hl hsh hρ hid hro
theorem alT (i:Nat):r.Bc i=0:=by unfold Ren.Bc; rw [hsh]; rfl
theorem gJ.back {id off len:Nat} {a:Addr} {cap:Nat} {c:YI} (hd:Eo.dm id) (hc:gJ Eo id off len a cap c):gJ E2 (r.id id) off len a cap c:=by
 obtain⟨_,h2,h3⟩:=hid id hd;cases c<;>simp only [gJ] at*<;>rw [h2]
 ·exact hc
 ·rw [h3]; exact hc
mutual
theorem VR.back: ∀(x:AV) (u:Value),VR Eo h x u->VR E2 h (r.av x) u
 | .bool b,u,hv=>by simp only [VR,Ren.av] at *; rw [Ren.IK hl,<- hρ]; exact hv
 | .int _ e,u,hv=>by simp only [VR,Ren.av] at *; rw [Ren.fB hl,<- hρ]; exact hv
 | .str s,u,hv=>by simp only [VR,Ren.av] at *; exact hv
 | .ptr id off,u,hv=>by simp only [VR,Ren.av,alT hl hsh hρ hid hro,aHn] at *;obtain⟨h1,h2,_⟩:=hid id hv.2;rw [h2]; exact⟨hv.1,h1⟩
 | .lH,u,hv=>by simp only [VR,Ren.av] at *; exact hv
 | .rY cs,u,hv=>by simp only [VR,Ren.av] at *;obtain⟨b,o,us,h1,h2,h3,h4,h5⟩:=hv;exact⟨b,o,us,h1,by rw [<- hro]; exact h2,bT.back cs us h3,h4,h5⟩
 | .slice id off len c,u,hv=>by simp only [VR,Ren.av,alT hl hsh hρ hid hro,aHn] at *;obtain⟨h1,a,cap,h2,h3,h4⟩:=hv;exact⟨(hid id h1).1,a,cap,h2,h3,gJ.back hl hsh hρ hid hro h1 h4⟩
 | .aY,u,hv=>by simp only [VR,Ren.av] at *; exact hv
 | .ro cs n full,u,hv=>by simp only [VR,Ren.av] at *;obtain⟨b,o,cap,us,h1,h2,h3,h4,h5,h6,h7⟩:=hv;exact⟨b,o,cap,us,h1,h2,h3,by rw [<- hro]; exact h4,bT.back cs us h5,h6,h7⟩
 | .map id,u,hv=>by simp only [VR,Ren.av] at *;obtain⟨h1,h2,_⟩:=hid id hv.2;rw [h2]; exact⟨hv.1,h1⟩
 | .rO,u,hv=>by simp only [VR,Ren.av] at *; exact hv
 | .func fn fs cs,u,hv=>by simp only [VR,Ren.av] at *;obtain⟨us,ws,h1,h2,h3⟩:=hv;exact⟨us,ws,h1,bT.back fs us h2,bT.back cs ws h3⟩
 | .Cb,u,hv=>by simp only [VR,Ren.av] at *; exact hv
 | .iface t x,u,hv=>by simp only [VR,Ren.av] at *;obtain⟨y,h1,h2⟩:=hv;exact⟨y,h1,VR.back x y h2⟩
 | .E5,u,hv=>by simp only [VR,Ren.av] at *; exact hv
 | .agg cs,u,hv=>by simp only [VR,Ren.av] at *;obtain⟨us,h1,h2⟩:=hv;exact⟨us,h1,bT.back cs us h2⟩
 | .tuple cs,u,hv=>by simp only [VR,Ren.av] at *;obtain⟨us,h1,h2⟩:=hv;exact⟨us,h1,bT.back cs us h2⟩
 | .opq _,u,hv=>by simp only [VR] at hv
 | .inp k ks,u,hv=>by
   simp only [VR,Ren.av] at *;rw [hρ,Ren.pX hl (by omega),hro] at hv;rcases hv with hv|⟨b,o,n,cap,h1,h2,h3,h4,h5⟩
   ·exact .inl hv
   ·refine .inr ⟨b,o,n,cap,h1,h2,h3,h4,fun i j kd hi hj=>?_⟩;have:=h5 i j kd hi hj
    first
     |exact this
     |(rw [Ren.pX hl (by omega)] at this; exact this)
     |(rw [hρ,Ren.pX hl (by omega)] at this; exact this)
 | .emp,u,hv=>by simp only [VR,Ren.av] at *; exact hv
 | .dat e t,u,hv=>by simp only [VR,Ren.av] at *; rw [Ren.fB hl,<- hρ,<- hro]; exact hv
 | .nC e,u,hv=>by simp only [VR,Ren.av] at *; rw [Ren.fB hl,<- hρ,<- hro]; exact hv
 | .sN id n t,u,hv=>by simp only [Ren.av,alT hl hsh hρ hid hro];simp only [VR] at *;obtain⟨h1,k,a,cap,h2,h3,h4,h5⟩:=hv;exact⟨(hid id h1).1,k,a,cap,by rw [Ren.fB hl,<- hρ]; exact h2,h3,h4,gJ.back hl hsh hρ hid hro h1 h5⟩
 | .qV id es i off,u,hv=>by simp only [Ren.av,alT hl hsh hρ hid hro];simp only [VR] at *;obtain⟨h1,k,h2,h3⟩:=hv;obtain⟨g1,g2,_⟩:=hid id h1;exact⟨g1,k,by rw [Ren.fB hl,<- hρ]; exact h2,by rw [g2]; exact h3⟩
 | .any,u,_=>by simp only [VR,Ren.av]
 | .FP z t,u,hv=>by simp only [VR,Ren.av] at *; rw [Ren.fB hl,<- hρ,<- hro]; exact hv
 | .A8 id lo n t,u,hv=>by simp only [Ren.av,alT hl hsh hρ hid hro];simp only [VR] at *;obtain⟨h1,l,k,a,cap,h2,h3,h4,h5,h6⟩:=hv;exact⟨(hid id h1).1,l,k,a,cap,by rw [Ren.fB hl,<- hρ]; exact h2,by rw [Ren.fB hl,<- hρ]; exact h3,h4,h5,gJ.back hl hsh hρ hid hro h1 h6⟩
theorem bT.back: ∀(xs:List AV) (us:List Value),bT Eo h xs us->bT E2 h (r.KJ xs) us
 |[],us,hv=>by simp only [bT,Ren.KJ] at *; exact hv
 |x::xs,us,hv=>by simp only [bT,Ren.KJ] at *;obtain⟨u,vs,h1,h2,h3⟩:=hv;exact⟨u,vs,h1,VR.back x u h2,bT.back xs vs h3⟩
end
theorem fQ.back: ∀{es:List (AV×AV×Nat)} {ents:List MapEntry},fQ Eo h es ents->fQ E2 h (r.ents es) ents
 |[],_,hv=>by simp only [fQ,Ren.ents] at *; exact hv
 |(k,v,b)::es,ents,hv=>by simp only [fQ,Ren.ents] at *;obtain⟨e,rr,h1,h2,h3,h4,h5⟩:=hv;exact⟨e,rr,h1,VR.back hl hsh hρ hid hro k _ h2,VR.back hl hsh hρ hid hro v _ h3,h4,fQ.back h5⟩
theorem Nw {i:Nat}: ∀{ov:List (SE×List AV)},dX E2.ρ i (r.ovs ov)=(dX Eo.ρ i ov).map r.KJ
 |[]=>rfl
 |(j,cs)::l=>by simp only [dX,Ren.ovs];rw [Ren.fB hl,<- hρ,Nw];split<;>rfl
theorem EI {row:Row} {ov:List (SE×List AV)}: ∀(ds:List D) (i:Nat) {us:List Value},bT Eo h (aK Eo.ρ row ov ds i) us->bT E2 h (aK E2.ρ row (r.ovs ov) ds i) us
 |[],_,us,hv=>by simp only [aK,bT] at *; exact hv
 |d::ds,i,us,hv=>by
  simp only [aK] at *;obtain⟨a,b,rfl,h1,h2⟩:=hv.split;refine bT.append ?_ (EI ds (i+1) h2);rw [Nw hl hsh hρ hid hro]
  cases ho:dX Eo.ρ i ov with
  |none=> rw [ho] at h1;simp only [Option.map_none];rw [iO] at h1 ⊢;rw [<- hro];exact h1
  |some cs=> rw [ho] at h1;exact bT.back hl hsh hρ hid hro cs a h1
theorem RN {row:Row}: ∀{ov:List (SE×List AV)},BR row ov->BR row (r.ovs ov)
 |[],h=>h
 |(i,cs)::l,h=>by
  intro p hp;simp only [Ren.ovs] at hp;rcases aHm.1 hp with rfl|hp
  ·simp only [wQ]; exact h (i,cs) (by simp)
  ·exact RN (fun q hq=>h q (by simp [hq])) p hp
theorem OR.back {id:Nat} {o:eP} (hd:Eo.dm id) (ho:OR Eo h id o):OR E2 h (r.id id) (r.ob o):=by
 obtain⟨_,h2,h3⟩:=hid id hd
 cases o with
 |cells cs e=> simp only [OR,Ren.ob] at *;obtain⟨arr,lo,hi,us,q1,q2,q3,q4,q5,q6,q7⟩:=ho;rw [h2,h3];exact⟨arr,lo,hi,us,q1,bT.back hl hsh hρ hid hro cs us q2,q3,by rw [wQ]; exact q4,q5,q6,q7⟩
 |map es c=> simp only [OR,Ren.ob] at *;obtain⟨ents,c',q1,q2⟩:=ho;rw [h2];exact⟨ents,c',q1,fQ.back hl hsh hρ hid hro q2⟩
 |oQ s p=>simp only [OR,Ren.ob] at *; rw [h2]; exact ho
 |jF e t=>
  simp only [OR,Ren.ob] at *;obtain⟨ents,c',q1,q2⟩:=ho;have he:(r.se e).den E2.ρ=e.den Eo.ρ:=by rw [Ren.fB hl,<- hρ]
  rw [h2,he,<- hro];exact⟨ents,c',q1,q2⟩
 |vec e t ty ov=>
  simp only [OR,Ren.ob] at *;obtain⟨⟨q0,qw⟩,arr,lo,hi,us,q1,q2,q3,q4,q5,q6,q7⟩:=ho;have he:(r.se e).den E2.ρ=e.den Eo.ρ:=by rw [Ren.fB hl,<- hρ]
  have q0':=RN hl hsh hρ hid hro q0;rw [h2,h3,he];refine⟨⟨q0',qw⟩,arr,lo,hi,us,q1,EI hl hsh hρ hid hro _ _ q2,q3,?_,q5,q6,q7⟩;rw [bP q0'];rw [bP q0] at q4;exact q4
end
theorem EX {r:Ren}: ∀{os:List eP} {i:Nat} {h:Hp},(∀a b,i<=a->a<i+os.length->i<=b->b<i+os.length->r.id a=r.id b->a=b)->
 (∀k o,os[k]?=some o->(nT r os i h).get (r.id (i+k))=some (r.ob o))/\(∀id,(∀k,k<os.length->r.id (i+k)≠id)->(nT r os i h).get id=h.get id)/\(nT r os i h).next=h.next/\(nT r os i h).res=h.res
 |[],i,h,_=> ⟨fun k o hk=>by simp at hk,fun _ _=>rfl,rfl,rfl⟩
 |o::os,i,h,hinj=>by
  obtain⟨h1,h2,h3,h4⟩:=EX (r:=r) (os:=os) (i:=i+1) (h:=h.put (r.id i) (r.ob o)) fun a b h1 h2 h3 h4=>hinj a b (by omega) (by simp only [aHq]; omega) (by omega) (by simp only [aHq]; omega);refine⟨fun k x hk=>?_,fun id hn=>?_,h3,h4⟩
  ·cases k with
   |zero=> simp at hk;subst hk;simp only [nT];show (nT r os (i+1) (h.put (r.id i) (r.ob o))).get (r.id i)=some (r.ob o);rw [h2 (r.id i) fun k hk he=>?_,Hp.get_put,aHd rfl];have:=hinj (i+1+k) i (by omega) (by simp only [aHq]; omega) (by omega) (by simp) he;omega
   |succ k=> simp only [nT];have:=h1 k x (by simpa using hk);rw [show i+(k+1)=i+1+k by omega];exact this
  ·simp only [nT];rw [h2 id fun k hk=>?_,Hp.get_put,aHc ?_]
   ·have:=hn 0 (by simp);rw [aHJ] at this;exact fun q=>this q.symm
   ·have:=hn (k+1) (by simp only [aHq]; omega);rw [show i+(k+1)=i+1+k by omega] at this;exact this
theorem EC (c:CS) (s:St):(c.guess s).ns.length=c.k:=by unfold CS.guess;split;exact sS _ _ _
section
variable {P:Program}
def aAx (P:Program) (GB:(Nat->Prop)->Array Obj->Prop) (g:FuncId) (c:CS) (pK:List RK) (eX:List eP) (ko:Nat) (f:List Int->Option (List Int)):Prop:=
 ∀xs ys,f xs=some ys->∀(E:En) (w:World) (vals:List Value),(∀i x,xs[i]?=some x->E.ρ i=x)->xs.length=c.k->Ig E c.st { tmps:=vals.toArray,defers:=[] } w->GB E.ro w.heap->
  Calls P g vals.toArray w (QE ⟨w,E.ro,c.objs.length,E.θ,E.κ⟩ pK eX ko ys)
theorem anZ [Glob] {GB:(Nat->Prop)->Array Obj->Prop} (hgb: ∀ρ ro h,Glob.ok ρ ro h->GB ro h) {F:uN} (hgood: ∀ρ ro h,Glob.ok ρ ro h->Good F ρ) {g:FuncId} {j:Nat} {c:CS} {pK:List RK} {eX:List eP} {ko:Nat} (hlo:rE ko eX=true) (hko:ko<=900) (hom:eX.length=c.objs.length)
 (hs:aAx P GB g c pK eX ko (F j)) (hrun: ∀(args:Array Value) (w:World),(callFunc g args).run P w= .ok (.enter g args) w):nK P g (aoA j c pK eX ko):=by
 intro aHb s E w vals v s' r hv hp hl;unfold aoA at hl;split at hl
 ·rename_i hcond;simp only [aHg] at hcond;obtain⟨⟨_,hfit⟩,hns⟩:=hcond;have hlen:=EC c ⟨bI aHb 0 .nil,s.h,s.pc⟩;generalize hr:c.guess ⟨bI aHb 0 .nil,s.h,s.pc⟩ = rn at hl hfit hns hlen
  have f0:Fit E ⟨bI aHb 0 .nil,s.h,s.pc⟩ { tmps:=vals.toArray,defers:=[] } w:=by refine⟨r,?_,hp⟩;have:=Gy hv 0;simpa using this
  obtain⟨hle,f1,ho⟩:=GV ZB f0 hfit;obtain⟨pc1,hp1,q1⟩:=dB hp hl;split at q1
  ·rename_i ht;have hg:=hgood _ _ _ r.glob;have hg1:=(hg j (rn.ns.map (SE.den E.ρ))).1;have hg2:=(hg j (rn.ns.map (SE.den E.ρ))).2;simp only [SB.den,SE.den,lX,hg1,beq_iff_eq] at ht
   have hsome:(F j (rn.ns.map (SE.den E.ρ))).isSome=true:=by
    cases hh:(F j (rn.ns.map (SE.den E.ρ))).isSome with
    |true=>rfl
    |false=>rw [hh] at ht; simp at ht
   obtain⟨ys,hys⟩:=aIu.1 hsome
   have hrd:(SE.ap (2*j+1) (iY rn.ns)).den E.ρ=qU ys:=by show E.ρ _=_;rw [lX,hg2,hys];rfl
   have:=aF q1;simp only [aHf] at this;obtain⟨rfl,rfl⟩:=this;refine⟨rfl,hp1,?_⟩;unfold uY uX;rw [hrun]
   have hxs: ∀i x,(rn.ns.map (SE.den E.ρ))[i]?=some x->(E.ren rn).ρ i=x:=by intro i x hi;rw [aHG,aHy] at hi;obtain⟨e,he,rfl⟩:=hi;show rn.env E.ρ i=_;unfold Ren.env;rw [dI,he]
   refine Calls.mono (hs _ ys hys (E.ren rn) w vals hxs (by simpa using hlen) f1.x (hgb _ _ _ f1.rel.glob)) fun e w' ⟨u,he,hb,ro',k1,k2,k3,k4,k5,k6⟩=> ⟨u,he,?_⟩;have Ac:=hfit;unfold CS.fits at Ac;simp only [aHg] at Ac;obtain⟨⟨⟨⟨⟨_,hbl⟩,hdis⟩,_⟩,aoG⟩,_⟩:=Ac;have hbl:=aHj hbl
   have XC: ∀i,rn.Bc i=0:=by
    intro i;unfold Ren.Bc;split
    ·rename_i x hx;rw [dI] at hx;unfold RY at hns;rw [aHz] at hns;exact aHj (hns x (aHK hx))
    ·rfl
   have KC: ∀i,i<c.objs.length->∃o,s.h.get (rn.id i)=some o:=by intro i hi;obtain⟨o',g1,_⟩:=mD aoG (aHu hi);rw [aHn] at g1;exact⟨o',g1⟩
   have hinj: ∀a b,a<c.objs.length->b<c.objs.length->rn.id a=rn.id b->a=b:=by
    intro a b ha hb he;have hla:a<rn.bl.length:=by omega
    have hlb:b<rn.bl.length:=by omega
    unfold Ren.id at he;rw [dI,dI,aHu hla,aHu hlb] at he;simp only at he;exact vF hdis (i:=a) (j:=b) (x:=rn.bl[a]) (by rw [dI,aHu hla]) (by rw [dI,aHu hlb,he])
   generalize hR:(⟨adI (.ap (2*j+1) (iY rn.ns)) ko,rn.bl,[]⟩ : Ren)=R;have U6: ∀i,R.id i=rn.id i:=by intro i; rw [<- hR]; rfl
   have hRl:R.ns.length=ko:=by rw [<- hR]; simp [adI]
   obtain⟨p1,p2,p3,p4⟩:=EX (r:=R) (os:=eX) (i:=0) (h:=s.h) fun a b _ h2 _ h4 he=>by rw [U6,U6] at he;exact hinj a b (by omega) (by omega) he
   have hfp: ∀b,(rM.mk w (E.ren rn).ro c.objs.length (E.ren rn).θ (E.ren rn).κ).fp b->∃id o,s.h.get id=some o/\(E.θ id).1=b:=by rintro b ⟨i,hi,he⟩;obtain⟨o,h1⟩:=KC i hi;exact⟨_,o,h1,he⟩
   have avL: ∀b,E.ro b->w'.heap[b]?=w.heap[b]?:=by intro b hbr;refine hb.blk b (r.BO b hbr) fun hf=>?_;obtain⟨id,o,h1,h2⟩:=hfp b hf;exact (r.live id o h1).2.2 (by rw [h2]; exact hbr)
   have hkeep:Keeps E w.heap { E with ro:=ro' } w'.heap:=⟨rfl,fun _ h=>h,fun _ _=>rfl,fun _ _=>rfl,k1,avL⟩
   have ZU: ∀id o,(nT R eX 0 s.h).get id=some o->∃o',s.h.get id=some o':=by
    intro id o hg;by_cases hex: ∃k,k<eX.length/\R.id (0+k)=id
    ·obtain⟨k,hk,rfl⟩:=hex;rw [aHn,U6];exact KC k (by omega)
    ·rw [p2 id fun k hk he=>hex ⟨k,hk,he⟩] at hg;exact⟨o,hg⟩
   have st2:Stp E s.h w { E with ro:=ro' } (nT R eX 0 s.h) w':=by
    refine⟨rfl,fun _ h=>h,fun _ _=>rfl,fun _ _=>rfl,k1,fun b hbr=>(k2 b hbr).imp id .inr,by rw [p3]; exact aHh _,by rw [p4]; exact .inr rfl,fun _ h=> .inl h,hb.os,hb.tape,hb.output,hb.size,fun b hbl hn=>hb.blk b hbl fun hf=>?_,fun id o hg _=>?_⟩
    ·obtain⟨id,o,h1,h2⟩:=hfp b hf;exact hn id o h1 h2
    ·obtain⟨o',h1⟩:=ZU id o hg;exact⟨id,o',h1,rfl⟩
   have aeW: ∀i,i<ko->R.env E.ρ i=low ys i:=by
    intro i hi;unfold Ren.env low
    have hn:iH R.ns i=some (uS (.ap (2*j+1) (iY rn.ns)) i):=by rw [<- hR,dI];simp [adI,hi]
    rw [hn];simp only;rw [aID];simp only [uS,SE.den,jC.den,aC];have aEP:(SE.ap (2*j+1) (iY rn.ns)).den E.ρ=qU ys:=hrd;simp only [SE.den] at aEP;rw [aEP];simp only [qU,aC,D.hd,aA,aHG];cases ys[i]?<;>rfl
   have r2:bG { E with ro:=ro' } (nT R eX 0 s.h) w':=by
    refine⟨fun id hid=>r.fresh id (by rw [<- p3]; exact hid),fun q hq=>by rw [p3]; exact r.res q (by rw [<- p4]; exact hq),fun id o hg=>?_,fun i1 i2 o1 o2 h1 h2 he=>?_,k3,Glob.keep r.glob k1 avL⟩
    ·by_cases hex: ∃k,k<eX.length/\R.id (0+k)=id
     ·obtain⟨k,hk,rfl⟩:=hex;rw [aHn];have hx:=aHu hk;have:=p1 k _ hx;rw [hg] at this;simp only [aHe] at this;subst this;obtain⟨o',h1⟩:=KC k (by omega);obtain⟨d1,d2,d3⟩:=r.live _ _ h1;refine⟨by rw [U6]; exact d1,?_,?_⟩
      ·have ho2:=k5 k _ hx
       have ho3:=OR.low (K:=ko) (E:=(rM.mk w (E.ren rn).ro c.objs.length (E.ren rn).θ (E.ren rn).κ).out ys ro') (E':={ ρ:=R.env E.ρ,θ:=(E.ren rn).θ,κ:=(E.ren rn).κ,dm:=fun i=>i<c.objs.length,ro:=ro' })
        (fun i hi=>aeW i hi) rfl rfl rfl rfl (zT hlo hx) ho2
       refine OR.back (Eo:={ ρ:=R.env E.ρ,θ:=(E.ren rn).θ,κ:=(E.ren rn).κ,dm:=fun i=>i<c.objs.length,ro:=ro' }) (E2:={ E with ro:=ro' }) (r:=R) (by rw [hRl]; exact hko) (by rw [<- hR]) rfl (fun i hi=>?_) rfl (show k<c.objs.length by omega) ho3;obtain⟨o2,h2⟩:=KC i hi;refine⟨by rw [U6]; exact (r.live _ _ h2).1,?_,?_⟩
       ·show E.θ (R.id i)=((E.θ (rn.id i)).1,(E.θ (rn.id i)).2+rn.Bc i);rw [U6,XC,aHJ]
       ·show E.κ (R.id i)=E.κ (rn.id i)-rn.Bc i;rw [U6,XC,aIf]
      ·rw [U6];exact k4 k (by show k<c.objs.length; omega)
     ·rw [p2 id fun k hk he=>hex ⟨k,hk,he⟩] at hg;obtain⟨d1,d2,d3⟩:=r.live id o hg
      have hblk:w'.heap[(E.θ id).1]?=w.heap[(E.θ id).1]?:=by refine hb.blk _ (jS r hg) ?_;rintro⟨i,hi,he⟩;obtain⟨o',h1⟩:=KC i hi;have:=r.inj _ id o' o h1 hg he;exact hex ⟨i,by show i<eX.length; rw [hom]; exact hi,by rw [aHn,U6]; exact this⟩
      refine⟨d1,d2.keep hkeep d1 hblk,fun hr=>?_⟩;rcases k2 _ hr with hr|hr
      ·exact d3 hr
      ·have hlt:(E.θ id).1<w.heap.size:=jS r hg;have hge:w.heap.size<=(E.θ id).1:=hr;omega
    ·obtain⟨a1,b1⟩:=ZU _ _ h1;obtain⟨a2,b2⟩:=ZU _ _ h2;exact r.inj _ _ _ _ b1 b2 he
   refine⟨{ E with ro:=ro' },st2,r2,?_⟩;obtain⟨us,fl',sh',c1,rfl⟩:=k6
   have hvr:bT { E with ro:=ro' } w'.heap (wC pK (uS (.ap (2*j+1) (iY rn.ns))) ko) us:=by refine yS sh' c1 fun k n hk=>?_;rw [aIq] at hk;exact DC (ys:=ys) hrd hk
   have:=KW hvr;unfold resV at this;exact this
  ·simp [T.leaf] at q1
 ·simp [T.leaf] at hl
theorem JV (s:St): ∀(gh:List (Nat×Nat)) (ns:List SE),(aoP s gh ns).length=ns.length
 |[],_=>rfl
 |_::_,[]=>rfl
 |(t,c)::l,_::ns=>by simp only [aoP,aHq,JV s l ns]
theorem aoN {g n:SE} {ρ:Nat->Int} {s:St} {k:St->T (AV×St)} {r:AV×St} (hp:bK ρ s.pc) (h:(aoO g n s k).leaf ρ=some r): ∃pc,bK ρ pc/\(k { s with pc:=pc }).leaf ρ=some r:=by
 unfold aoO at h;obtain⟨pc1,hp1,h1⟩:=dB hp h;split at h1
 ·exact⟨pc1,hp1,h1⟩
 ·obtain⟨pc2,hp2,h2⟩:=dB (s:={ s with pc:=pc1 }) hp1 h1;split at h2
  ·simp [T.leaf] at h2
  ·exact⟨pc2,hp2,h2⟩
theorem aCb {q:SE} {kQ:Nat} {ns:List SE} {g:Option SE} {c:CS} {bl:List Nat} {ρ:Nat->Int} {s:St} {k:St->T (AV×St)} {r:AV×St} (hp:bK ρ s.pc) (h:(ghT q kQ ns g c bl s k).leaf ρ=some r): ∃pc,bK ρ pc/\(k { s with pc:=pc }).leaf ρ=some r:=by
 unfold ghT at h;split at h
 ·exact⟨s.pc,hp,h⟩
 ·split at h
  ·exact⟨s.pc,hp,h⟩
  ·split at h
   ·exact⟨s.pc,hp,h⟩
   ·split at h
    ·exact aoN hp h
    ·exact⟨s.pc,hp,h⟩
theorem agD {q:SE} {kQ:Nat} {ns:List SE} {g:Option SE} {bl:List Nat} {ρ:Nat->Int} {v:AV} {s':St}: ∀{l:List CS} {k:Nat} {s:St},bK ρ s.pc->(Ie q kQ ns g bl l k s).leaf ρ=some (v,s')->
 ∃i c pc',l[i-k]?=some c/\k<=i/\(uS q 0).den ρ=(i:Int)/\bK ρ pc'/\v=resV ((xZ q kQ ns c bl s).KJ (c.slots.map fun p=>p.2))/\s'= { s with h:=⟨(nT (xZ q kQ ns c bl s) c.objs 0 s.h).m,s.h.next+(c.objs.length-bl.length),s.h.res⟩,pc:=pc' }
 |[],k,s,_,h=>by simp [Ie,T.leaf] at h
 |c::l,k,s,hp,h=>by
  simp only [Ie] at h;obtain⟨pc',hp',h1⟩:=dB hp h;split at h1
  ·rename_i hb;rw [lM,beq_iff_eq] at hb;obtain⟨pc2,hp2,h2⟩:=aCb (s:={ s with pc:=pc' }) hp' h1;have:=aF h2;simp only [aHf] at this;exact⟨k,c,pc2,by simp,aHh _,hb,hp2,this.1.symm,this.2.symm⟩
  ·obtain⟨i,c',pc2,q1,q2,q3,q4,q5,q6⟩:=agD (s:={ s with pc:=pc' }) hp' h1;refine⟨i,c',pc2,?_,by omega,q3,q4,q5,q6⟩;rw [show i-k=(i-(k+1))+1 by omega,aHp];exact q1
def Fe:List (Nat×AV)->Nat->Bool
 |[],_=>true
 |(t,_)::l,i=>Nat.beq t i&&Fe l (i+1)
theorem JB: ∀{l:List (Nat×AV)} {i t:Nat} {tr:Tr AV},Fe l i=true->t<i->(sO l tr).get t=tr.get t
 |[],_,_,_,_,_=>rfl
 |(j,v)::l,i,t,tr,h,ht=>by simp only [Fe,aHg] at h;have hj:=aHj h.1;simp only [sO];rw [JB h.2 (by omega),Tr.get_put,aHc (by omega)]
theorem FZ: ∀{l:List (Nat×AV)} {i:Nat} {tr:Tr AV},Fe l i=true->∀k v,(l.map fun p=>p.2)[k]?=some v->(sO l tr).get (i+k)=some v
 |[],_,_,_,k,v,hk=>by simp at hk
 |(j,x)::l,i,tr,h,k,v,hk=>by
  simp only [Fe,aHg] at h;have hj:=aHj h.1;subst hj;simp only [sO]
  cases k with
  |zero=> simp only [aHo,aHA,aHe] at hk;subst hk;rw [aHJ,JB h.2 (by omega),Tr.get_put,aHd rfl]
  |succ k=> have:=FZ (tr:=tr.put j (some x)) h.2 k v (by simpa using hk);rw [show j+(k+1)=j+1+k by omega];exact this
theorem bT.of {E:En} {h:Array Obj}: ∀{vs:List AV} {us:List Value},us.length=vs.length->(∀(k:Nat) (v:AV),vs[k]?=some v->∃u,us[k]?=some u/\VR E h v u)->bT E h vs us
 |[],us,hl,_=>by rw [lC]; exact aH6 hl
 |v::vs,[],hl,_=>by simp at hl
 |v::vs,u::us,hl,hh=>by
  rw [bC];refine⟨u,us,rfl,?_,bT.of (by simpa using hl) fun k x hk=>?_⟩
  ·obtain⟨y,h1,h2⟩:=hh 0 v rfl;simp at h1;subst h1;exact h2
  ·exact hh (k+1) x (by simpa using hk)
def aAw (P:Program) (GB:(Nat->Prop)->Array Obj->Prop) (g:FuncId) (c:CS) (wX:List CS) (f:List Int->Option (List Int)):Prop:=
 ∀xs ys,f xs=some ys->∀(E:En) (w:World) (vals:List Value),(∀i x,xs[i]?=some x->E.ρ i=x)->xs.length=c.k->Ig E c.st { tmps:=vals.toArray,defers:=[] } w->GB E.ro w.heap->
  Calls P g vals.toArray w (QR ⟨w,E.ro,c.objs.length,E.θ,E.κ⟩ wX ys)
def Rq:List CS->Bool
 |[]=>true
 |c::l=>CW c.k c&&Fe c.slots 0&&Nat.ble c.k 900&&Rq l
theorem Ro: ∀{l:List CS},Rq l=true->∀{i:Nat} {c:CS},l[i]?=some c->CW c.k c=true/\Fe c.slots 0=true/\c.k<=900
 |[],_,i,c,h=>by simp at h
 |c0::l,hs,i,c,h=>by
  simp only [Rq,aHg] at hs
  cases i with
  |zero=>simp at h; subst h; exact⟨hs.1.1.1,hs.1.1.2,aHW hs.1.2⟩
  |succ i=>exact Ro hs.2 (by simpa using h)
theorem anX [Glob] {GB:(Nat->Prop)->Array Obj->Prop} (hgb: ∀ρ ro h,Glob.ok ρ ro h->GB ro h) {F:uN} (hgood: ∀ρ ro h,Glob.ok ρ ro h->Good F ρ) {g:FuncId} {j:Nat} {c:CS} {gh:List (Nat×Nat)} {kQ:Nat} {wX:List CS} (hrp:Rq wX=true) (hgat: ∀xs ys,F j xs=some ys->∀a y,a<kQ->ys[a+1]?=some y->y=low xs a)
 (hs:aAw P GB g c wX (F j)) (hrun: ∀(args:Array Value) (w:World),(callFunc g args).run P w= .ok (.enter g args) w):nK P g (anY j kQ c gh wX):=by
 intro aHb s E w vals v s' r hv hp hl;unfold anY at hl;split at hl
 ·rename_i hcond;simp only [aHg] at hcond;obtain⟨⟨_,hfit⟩,hns⟩:=hcond;have hlen:=EC c ⟨bI aHb 0 .nil,s.h,s.pc⟩
  have hlen2:(ghR s gh (c.guess ⟨bI aHb 0 .nil,s.h,s.pc⟩)).ns.length=c.k:=by show (aoP s gh _).length=c.k;rw [JV,hlen]
  generalize hr:ghR s gh (c.guess ⟨bI aHb 0 .nil,s.h,s.pc⟩)=rn at hl hfit hlen2 hns
  have f0:Fit E ⟨bI aHb 0 .nil,s.h,s.pc⟩ { tmps:=vals.toArray,defers:=[] } w:=by refine⟨r,?_,hp⟩;have:=Gy hv 0;simpa using this
  obtain⟨hle,f1,ho⟩:=GV ZB f0 hfit;obtain⟨pc1,hp1,q1⟩:=dB hp hl;split at q1
  ·rename_i ht;have hg:=hgood _ _ _ r.glob;have hg1:=(hg j (rn.ns.map (SE.den E.ρ))).1;have hg2:=(hg j (rn.ns.map (SE.den E.ρ))).2;simp only [SB.den,SE.den,lX,hg1,beq_iff_eq] at ht
   have hsome:(F j (rn.ns.map (SE.den E.ρ))).isSome=true:=by
    cases hh:(F j (rn.ns.map (SE.den E.ρ))).isSome with
    |true=>rfl
    |false=>rw [hh] at ht; simp at ht
   obtain⟨ys,hys⟩:=aIu.1 hsome
   have hrd:(SE.ap (2*j+1) (iY rn.ns)).den E.ρ=qU ys:=by show E.ρ _=_;rw [lX,hg2,hys];rfl
   obtain⟨i,c',pc2,a1,_,a3,a4,rfl,rfl⟩:=agD (s:={ s with pc:=pc1 }) hp1 q1;rw [aIf] at a1;refine⟨rfl,a4,?_⟩;unfold uY uX;rw [hrun]
   have hxs: ∀i x,(rn.ns.map (SE.den E.ρ))[i]?=some x->(E.ren rn).ρ i=x:=by intro i x hi;rw [aHG,aHy] at hi;obtain⟨e,he,rfl⟩:=hi;show rn.env E.ρ i=_;unfold Ren.env;rw [dI,he]
   refine Calls.mono (hs _ ys hys (E.ren rn) w vals hxs (by simpa using hlen2) f1.x (hgb _ _ _ f1.rel.glob)) fun e w' ⟨us,i2,c2,E',he,hb,b1,b2,b3,b4,b5,b6,b7,b8,axU,b9⟩=> ⟨agT us,he,?_⟩
   have hi:i2=i:=by have:=DC hrd b2;rw [a3] at this;omega
   subst hi;rw [b1] at a1;simp only [aHe] at a1;subst a1;obtain⟨k1,k2,k3⟩:=Ro hrp b1;have Ac:=hfit;unfold CS.fits at Ac;simp only [aHg] at Ac;obtain⟨⟨⟨⟨⟨_,hbl⟩,hdis⟩,_⟩,aoG⟩,_⟩:=Ac;have hbl:=aHj hbl
   have XC: ∀i,rn.Bc i=0:=by
    intro i;unfold Ren.Bc;split
    ·rename_i x hx;rw [dI] at hx;unfold RY at hns;rw [aHz] at hns;exact aHj (hns x (aHK hx))
    ·rfl
   have KC: ∀i,i<c.objs.length->∃o,s.h.get (rn.id i)=some o:=by intro i hi;obtain⟨o',g1,_⟩:=mD aoG (aHu hi);rw [aHn] at g1;exact⟨o',g1⟩
   have hinj: ∀a b,a<c.objs.length->b<c.objs.length->rn.id a=rn.id b->a=b:=by
    intro a b ha hb he;have hla:a<rn.bl.length:=by omega
    have hlb:b<rn.bl.length:=by omega
    unfold Ren.id at he;rw [dI,dI,aHu hla,aHu hlb] at he;simp only at he;exact vF hdis (i:=a) (j:=b) (x:=rn.bl[a]) (by rw [dI,aHu hla]) (by rw [dI,aHu hlb,he])
   have Oj: ∀id,E.dm id->id<s.h.next:=by
    intro id hd;rcases aHw id s.h.next with h|h
    ·exact h
    ·exact absurd hd (r.fresh id h)
   have XF: ∀i,i<c.objs.length->rn.id i<s.h.next:=by intro i hi;obtain⟨o,h1⟩:=KC i hi;exact Oj _ (r.live _ _ h1).1
   have hθr: ∀i,(E.ren rn).θ i=E.θ (rn.id i):=by intro i;show ((E.θ (rn.id i)).1,(E.θ (rn.id i)).2+rn.Bc i)=_;rw [XC,aHJ]
   have hκr: ∀i,(E.ren rn).κ i=E.κ (rn.id i):=by intro i;show E.κ (rn.id i)-rn.Bc i=_;rw [XC,aIf]
   have hm2:c.objs.length<=c2.objs.length:=by
    rcases aIt c.objs.length with h|h
    ·omega
    ·have:=(axU (c.objs.length-1) (by show c.objs.length-1<c.objs.length; omega)).1;omega
   have hfp: ∀b,(rM.mk w (E.ren rn).ro c.objs.length (E.ren rn).θ (E.ren rn).κ).fp b->∃id o,s.h.get id=some o/\(E.θ id).1=b:=by rintro b ⟨i,hi,he⟩;obtain⟨o,h1⟩:=KC i hi;refine⟨_,o,h1,?_⟩;have he':((E.ren rn).θ i).1=b:=he;rw [hθr] at he';exact he'
   have avL: ∀b,E.ro b->w'.heap[b]?=w.heap[b]?:=by intro b hbr;refine hb.blk b (r.BO b hbr) fun hf=>?_;obtain⟨id,o,h1,h2⟩:=hfp b hf;exact (r.live id o h1).2.2 (by rw [h2]; exact hbr)
   generalize hR:xZ (.ap (2*j+1) (iY rn.ns)) kQ rn.ns c2 rn.bl { s with pc:=pc1 }=R
   have PZ: ∀i,i<c.objs.length->R.id i=rn.id i:=by
    intro i hi;have hla:i<rn.bl.length:=by omega
    rw [<- hR];unfold xZ Ren.id;simp only [dI,aHG,aIC (show i<c2.objs.length by omega),aHV,aHu hla]
   have ZW: ∀i,i<c2.objs.length->c.objs.length<=i->R.id i=s.h.next+(i-c.objs.length):=by
    intro i hi hge;have hla:rn.bl.length<=i:=by omega
    rw [<- hR];unfold xZ Ren.id;simp only [dI,aHG,aIC hi,aHV,aH2 hla];rw [hbl]
   have aE0: ∀a b,a<c2.objs.length->b<c2.objs.length->R.id a=R.id b->a=b:=by
    intro a b ha hb he;rcases aHw a c.objs.length with h1|h1<;>rcases aHw b c.objs.length with h2|h2
    ·rw [PZ a h1,PZ b h2] at he;exact hinj a b h1 h2 he
    ·rw [PZ a h1,ZW b hb h2] at he;have:=XF a h1;omega
    ·rw [ZW a ha h1,PZ b h2] at he;have:=XF b h2;omega
    ·rw [ZW a ha h1,ZW b hb h2] at he;omega
   have hRl:R.ns.length=c2.k:=by rw [<- hR]; simp [xZ]
   have aEZ:R.sh= []:=by rw [<- hR]; rfl
   have aeW: ∀a,a<c2.k->R.env E.ρ a=E'.ρ a:=by
    intro a ha;unfold Ren.env
    have hn:iH R.ns a=some (match Nat.blt a kQ with |true=>(match iH rn.ns a with |some e=>e|none=> .lit 0)|false=>uS (.ap (2*j+1) (iY rn.ns)) (a+1)):=by rw [<- hR,dI];simp [xZ,ha]
    rw [hn];simp only;have hy:ys[a+1]?=some ys[a+1]:=aHu (by omega);rw [b4 a _ hy];split
    ·rename_i hb;have hlt:a<kQ:=aJQ (by simpa [Nat.blt] using hb);rw [hgat _ _ hys a _ hlt hy];unfold low;rw [aID,aHG,dI];cases rn.ns[a]?<;>rfl
    ·exact DC hrd hy
   have aGC: ∀id o,c2.st.h.get id=some o->id<c2.objs.length/\c2.objs[id]?=some o:=by
    intro id o ho;have:(wB c2.objs 0 .nil).get id=some o:=ho;rw [nX] at this;split at this
    ·exact⟨by omega,this⟩
    ·simp [Tr.get] at this
   have Oi: ∀id o,c2.objs[id]?=some o->c2.st.h.get id=some o:=by intro id o ho;show (wB c2.objs 0 .nil).get id=_;have hlt:=(aHB.1 ho).1;rw [nX,aHd (by omega)];exact ho
   have aET: ∀i,E'.dm i->i<c2.objs.length:=by
    intro i hd;rcases aHw i c2.objs.length with h|h
    ·exact h
    ·exact absurd hd (b6.fresh i h)
   obtain⟨p1,p2,p3,p4⟩:=EX (r:=R) (os:=c2.objs) (i:=0) (h:=s.h) fun a b _ h2 _ h4 he=>aE0 a b (by omega) (by omega) he;generalize hH2:(⟨(nT R c2.objs 0 s.h).m,s.h.next+(c2.objs.length-rn.bl.length),s.h.res⟩ : Hp)=H2;have aE2: ∀id,H2.get id=(nT R c2.objs 0 s.h).get id:=by intro id; rw [<- hH2]; rfl
   have avP:H2.next=s.h.next+(c2.objs.length-c.objs.length):=by rw [<- hH2,hbl]
   have aE1:H2.res=s.h.res:=by rw [<- hH2]
   have hnew: ∀k o,c2.objs[k]?=some o->H2.get (R.id k)=some (R.ob o):=by intro k o hk;have:=p1 k o hk;rw [aHn] at this;rw [aE2]; exact this
   have hold: ∀id,(∀k,k<c2.objs.length->R.id k≠id)->H2.get id=s.h.get id:=by intro id hid;rw [aE2];exact p2 id fun k hk he=>by rw [aHn] at he; exact hid k hk he
   have hcase: ∀id o,H2.get id=some o->(∃k o',id=R.id k/\c2.objs[k]?=some o'/\o=R.ob o')\/(s.h.get id=some o/\∀k,k<c2.objs.length->R.id k≠id):=by
    intro id o hg;by_cases hex: ∃k,k<c2.objs.length/\R.id k=id
    ·obtain⟨k,hk,rfl⟩:=hex;have hx:=aHu hk;have:=hnew k _ hx;rw [hg] at this;simp only [aHe] at this;exact .inl ⟨k,_,rfl,hx,this⟩
    ·have hne: ∀k,k<c2.objs.length->R.id k≠id:=fun k hk he=>hex ⟨k,hk,he⟩;rw [hold id hne] at hg;exact .inr ⟨hg,hne⟩
   let E2:En:={ ρ:=E.ρ,θ:=fun id=>if id<s.h.next then E.θ id else E'.θ (id-s.h.next+c.objs.length),κ:=fun id=>if id<s.h.next then E.κ id else E'.κ (id-s.h.next+c.objs.length),dm:=fun id=>E.dm id\/(s.h.next<=id/\id<s.h.next+(c2.objs.length-c.objs.length)),ro:=E'.ro };have hθo: ∀id,id<s.h.next->E2.θ id=E.θ id:=fun id h=>by show (if id<s.h.next then _ else _)=_; rw [aHd h]
   have hκo: ∀id,id<s.h.next->E2.κ id=E.κ id:=fun id h=>by show (if id<s.h.next then _ else _)=_; rw [aHd h]
   have hθn: ∀k,k<c2.objs.length->E2.θ (R.id k)=E'.θ k:=by
    intro k hk;rcases aHw k c.objs.length with h|h
    ·rw [PZ k h,hθo _ (XF k h),<- hθr,(axU k h).2.2.1]
    ·rw [ZW k hk h];show (if s.h.next+(k-c.objs.length)<s.h.next then _ else _)=_;rw [aHc (by omega),aJ0,Nat.sub_add_cancel h]
   have hκn: ∀k,k<c2.objs.length->E2.κ (R.id k)=E'.κ k:=by
    intro k hk;rcases aHw k c.objs.length with h|h
    ·rw [PZ k h,hκo _ (XF k h),<- hκr,(axU k h).2.2.2]
    ·rw [ZW k hk h];show (if s.h.next+(k-c.objs.length)<s.h.next then _ else _)=_;rw [aHc (by omega),aJ0,Nat.sub_add_cancel h]
   have aEV: ∀k,k<c2.objs.length->E2.dm (R.id k):=by
    intro k hk;rcases aHw k c.objs.length with h|h
    ·obtain⟨o,h1⟩:=KC k h;rw [PZ k h];exact .inl (r.live _ _ h1).1
    ·rw [ZW k hk h];exact .inr ⟨by omega,by omega⟩
   have hkeep:Keeps E w.heap E2 w'.heap:=⟨rfl,fun _ h=> .inl h,fun id h=>hθo id (Oj id h),fun id h=>hκo id (Oj id h),b7,avL⟩
   have aoH: ∀i,E'.dm i->E2.dm (R.id i)/\E2.θ (R.id i)=E'.θ i/\E2.κ (R.id i)=E'.κ i:=by intro i hd;have hi:=aET i hd;exact⟨aEV i hi,hθn i hi,hκn i hi⟩
   unfold CW at k1;simp only [aHg] at k1;obtain⟨⟨ks,ko⟩,_⟩:=k1
   have st2:Stp E s.h w E2 H2 w':=by
    refine⟨rfl,fun _ h=> .inl h,fun id h=>hθo id (Oj id h),fun id h=>hκo id (Oj id h),b7,fun b hbr=>(b8 b hbr).imp id .inr,by rw [avP]; omega,by rw [aE1]; exact .inr rfl,fun id h=>?_,hb.os,hb.tape,hb.output,hb.size,fun b aCa hn=>hb.blk b aCa fun hf=>?_,fun id o hg hlt=>?_⟩
    ·rcases h with h|h
     ·exact .inl h
     ·exact .inr (.inl ⟨h.1,by rw [avP]; exact h.2⟩)
    ·obtain⟨id,o,h1,h2⟩:=hfp b hf;exact hn id o h1 h2
    ·rcases hcase id o hg with ⟨k,o',rfl,hk,_⟩|⟨h1,_⟩
     ·have hkl:=(aHB.1 hk).1;rcases aHw k c.objs.length with h|h
      ·obtain⟨o2,h2⟩:=KC k h;exact⟨_,o2,h2,by rw [PZ k h,hθo _ (XF k h)]⟩
      ·rw [hθn k hkl] at hlt;have hh:w.heap.size<=(E'.θ k).1:=b9 k o' (Oi k o' hk) h;omega
     ·exact⟨id,o,h1,(by rw [hθo id (Oj id (r.live _ _ h1).1)])⟩
   have r2:bG E2 H2 w':=by
    refine⟨fun id hid=>?_,fun q hq=>?_,fun id o hg=>?_,fun i1 i2 o1 o2 h1 h2 he=>?_,b6.BO,Glob.keep r.glob b7 hkeep.MW⟩
    ·rw [avP] at hid;rintro (h|h)
     ·exact r.fresh id (by omega) h
     ·omega
    ·rw [aE1] at hq;obtain⟨g1,g2⟩:=r.res q hq;refine⟨by rw [avP]; omega,?_⟩;rintro (h|h)
     ·exact g2 h
     ·omega
    ·rcases hcase id o hg with ⟨k,o',rfl,hk,rfl⟩|⟨h2,hne⟩
     ·have hkl:=(aHB.1 hk).1;obtain⟨g1,g2,g3⟩:=b6.live k o' (Oi k o' hk);refine⟨aEV k hkl,?_,by rw [hθn k hkl]; exact g3⟩;have ho3:=OR.low (K:=c2.k) (E:=E') (E':={ E' with ρ:=R.env E.ρ }) (fun a ha=>aeW a ha) rfl rfl rfl rfl (BZ ko hk) g2;exact OR.back (Eo:={ E' with ρ:=R.env E.ρ }) (E2:=E2) (r:=R) (by rw [hRl]; exact k3) aEZ rfl (fun i hd=>aoH i hd) rfl (id:=k) g1 ho3
     ·obtain⟨g1,g2,g3⟩:=r.live id o h2;have h1:=Oj id g1;refine⟨.inl g1,g2.keep hkeep g1 (hb.blk _ (jS r h2) ?_),?_⟩
      ·rintro⟨i,hi,he⟩;obtain⟨o',h3⟩:=KC i hi;have he':((E.ren rn).θ i).1=(E.θ id).1:=he;rw [hθr] at he';have:=r.inj _ id o' o h3 h2 he';have hi':i<c.objs.length:=hi;exact hne i (by omega) (by rw [PZ i hi']; exact this)
      ·rw [hθo id h1];intro hr;rcases b8 _ hr with hr|hr
       ·exact g3 hr
       ·have hlt:(E.θ id).1<w.heap.size:=jS r h2;have hge:w.heap.size<=(E.θ id).1:=hr;omega
    ·have mix: ∀(k:Nat) (o':eP) (id:Nat) (o:eP),c2.objs[k]?=some o'->s.h.get id=some o->(∀k,k<c2.objs.length->R.id k≠id)->(E'.θ k).1=(E.θ id).1->False:=by
      intro k o' id o hk h2 hne he;have hkl:=(aHB.1 hk).1;rcases aHw k c.objs.length with h|h
      ·obtain⟨o3,h3⟩:=KC k h;have hb3:E'.θ k=(E.ren rn).θ k:=(axU k h).2.2.1;rw [hb3,hθr] at he;have:=r.inj _ id o3 o h3 h2 he;exact hne k hkl (by rw [PZ k h]; exact this)
      ·have h3:=jS r h2;have h4:w.heap.size<=(E'.θ k).1:=b9 k o' (Oi k o' hk) h;omega
     rcases hcase i1 o1 h1 with ⟨m1,y1,rfl,z1,_⟩|⟨x2,x3⟩
     ·have hm1:=(aHB.1 z1).1;rcases hcase i2 o2 h2 with ⟨m2,y2,rfl,z2,_⟩|⟨x4,x5⟩
      ·have hm2:=(aHB.1 z2).1;rw [hθn m1 hm1,hθn m2 hm2] at he;have:=b6.inj _ _ _ _ (Oi m1 y1 z1) (Oi m2 y2 z2) he;rw [this]
      ·rw [hθn m1 hm1,hθo _ (Oj _ (r.live _ _ x4).1)] at he;exact (mix m1 y1 i2 o2 z1 x4 x5 he).elim
     ·rcases hcase i2 o2 h2 with ⟨m2,y2,rfl,z2,_⟩|⟨x4,x5⟩
      ·have hm2:=(aHB.1 z2).1;rw [hθn m2 hm2,hθo _ (Oj _ (r.live _ _ x2).1)] at he;exact (mix m2 y2 i1 o1 z2 x2 x3 he.symm).elim
      ·rw [hθo _ (Oj _ (r.live _ _ x2).1),hθo _ (Oj _ (r.live _ _ x4).1)] at he;exact r.inj _ _ _ _ x2 x4 he
   refine⟨E2,st2,r2,?_⟩
   have hvs:bT E' w'.heap (c2.slots.map fun p=>p.2) us:=by refine bT.of (by rw [b5]; simp) fun k x hk=>?_;have:=FZ (tr:=.nil) k2 k x hk;rw [aHn] at this;obtain⟨u,h1,h2⟩:=b6.sr k x this;exact⟨u,by simpa using h1,h2⟩
   have aES:qI c2.k (c2.slots.map fun p=>p.2)=true:=by
    have: ∀{l:List (Nat×AV)},yI c2.k l=true->qI c2.k (l.map fun p=>p.2)=true:=by
     intro l
     induction l with
     |nil=>intro _; rfl
     |cons p l ih=> intro h;simp only [yI,aHg] at h;simp only [aHo,qI,aHg];exact⟨h.1,ih h.2⟩
    exact this ks
   have aGt:=bT.low (K:=c2.k) (E:=E') (E':={ E' with ρ:=R.env E.ρ }) (fun a ha=>aeW a ha) rfl rfl rfl rfl _ _ aES hvs;have aGs:=bT.back (Eo:={ E' with ρ:=R.env E.ρ }) (E2:=E2) (r:=R) (by rw [hRl]; exact k3) aEZ rfl (fun i hd=>aoH i hd) rfl _ _ aGt;exact KW aGs
  ·simp [T.leaf] at q1
 ·simp [T.leaf] at hl
end
end Go.As
end
section
namespace Go.As
open Go.RowKit
structure YC where
 ok:(Nat->Prop)->Array Obj->Prop
 keep: ∀{ro ro':Nat->Prop} {h h':Array Obj},ok ro h->(∀b,ro b->ro' b)->(∀b,ro b->h'[b]?=h[b]?)->ok ro' h'
@[reducible] def YC.glob (G:YC) (F:uN):Glob where
 ok ρ ro h:=G.ok ro h/\Good F ρ
 keep h1 h2 h3:=⟨G.keep h1.1 h2 h3,h1.2⟩
 ren h1 h2:=⟨h1.1,h1.2.ren h2⟩
structure Ip where
 g:Nat
 PE:List RK
 pK:List RK
 tabs:KL
 pos:Option (List Nat×CS)
 pat:Option (CS×List eP×Nat):=none
 wX:List CS:=[]
 gh:List (Nat×Nat):=[]
 wh:List Nat:=[]
 kQ:Nat:=0
 tst:List (Nat×Nat):=[]
 fz:List (Nat×Nat×Nat):=[]
def Ip.eX (e:Ip):List eP:=match e.pat with
 |none=>[]
 |some (_,o,_)=>o
def Ip.ko (e:Ip):Nat:=match e.pat with
 |none=>0
 |some (_,_,k)=>k
structure Sys where
 P:Program
 G:YC
 tt:TT
 ft:Nat->Option Func
 chk:Nat->Nat->List Oper->Bool
 draw:eF->Nat->Nat->List Oper->St->T St
 Ez:Nat->Option (List AV->St->T (AV×St))
 lf:Nat
 depth:Nat
 nums:Nat->List Nat
 ents:Nat->Option Ip
noncomputable section
def auX (c:CS) (args:List AV) (s:St):Bool:=match quick (bI args 0 .nil) c.slots with
 |false=>false
 |true=>Nat.beq args.length c.slots.length&&c.fits prv ⟨bI args 0 .nil,s.h,s.pc⟩ (c.guess ⟨bI args 0 .nil,s.h,s.pc⟩)&&RY (c.guess ⟨bI args 0 .nil,s.h,s.pc⟩)
def unset (s:St):List Nat->Bool
 |[]=>true
 |t::l=>match s.slots.get t with
  |some _=>false
  |none=>unset s l
def aE3 (s:St):List (Nat×Nat)->Bool
 |[]=>true
 |(t,_)::l=>match s.slots.get t with
  |some _=>aE3 s l
  |none=>false
def amJ (c:CS) (gh:List (Nat×Nat)) (wh:List Nat) (args:List AV) (s:St):Bool:=match quick (bI args 0 .nil) c.slots with
 |false=>false
 |true=>unset s wh&&aE3 s gh&&Nat.beq args.length c.slots.length&&c.fits prv ⟨bI args 0 .nil,s.h,s.pc⟩ (ghR s gh (c.guess ⟨bI args 0 .nil,s.h,s.pc⟩))&&RY (ghR s gh (c.guess ⟨bI args 0 .nil,s.h,s.pc⟩))
def Sys.Og (S:Sys):List Nat->List AV->St->T (AV×St)
 |[],_,_=> .fail
 |j::l,args,s=>match S.ents j with
  |none=> .fail
  |some e=>match e.pat with
   |none=>aoC j e.PE e.pK args s
   |some (c,eX,ko)=>match e.wX with
    |[]=>match auX c args s with
     |true=>aoA j c e.pK eX ko args s
     |false=>S.Og l args s
    |r::rs=>match amJ c e.gh e.wh args s with
     |true=>anY j e.kQ c e.gh (r::rs) args s
     |false=>S.Og l args s
def Sys.hook (S:Sys) (g:Nat):Option (List AV->St->T (AV×St)):=match S.nums g with
 |[]=>S.Ez g
 |j::l=>some (match S.Ez g with
  |none=>S.Og (j::l)
  |some h=>orElse h (S.Og (j::l)))
def Sys.call (S:Sys):eF:=Vq S.tt S.ft S.hook S.draw S.lf S.depth
def Sys.cfg (S:Sys) (e:Ip) (fn:Func):Jy:=⟨S.tt,S.call,S.draw S.call e.g,S.lf,fn.results.toList,e.pK,e.eX,e.ko,e.wX,e.kQ,e.fz⟩
def sV (S:Sys) (e:Ip):T Lf:=match S.ft e.g with
 |none=> .fail
 |some fn=>match fn.body with
  |none=> .fail
  |some body=>match e.pos with
   |none=>match e.pat with
    |none=>Em (S.cfg e fn) e.tabs 1000 [] body [] ⟨bI (wC e.PE .aO 0) 0 .nil,Hp.zero,[]⟩
    |some (c,_,_)=>Em (S.cfg e fn) e.tabs 1000 [] body [] c.st
   |some (p,c)=>match uZ body p with
    |some (b,fr)=>match b with
     | .loop b=>YU (fun s=>Em (S.cfg e fn) e.tabs 1000 (0::p) b (.loop p b::fr) s) e.tst c.st
     |_=> .fail
    |none=> .fail
def Sys.tree (S:Sys) (j:Nat):T Lf:=match S.ents j with
 |none=> .fail
 |some e=>sV S e
end
def atO (S:Sys) (e:Ip) (body:Code):Prop:= ∀p l,e.tabs p=some l->(∃b fr,uZ body p=some (.loop b,fr))/\∀j c,(j,c)∈l->S.ents j=some { e with pos:=some (p,c) }/\CW c.k c=true/\c.k<=900/\e.kQ<=c.k
structure PI (S:Sys):Prop where
 tt:fE S.P S.tt
 ft:aiQ S.P S.chk S.ft
 draw: ∀(I:Glob) call,@kP I S.P call->∀g,@Dq I S.P (S.chk g) (S.draw call g)
 Ez: ∀(I:Glob),(∀ρ ro h,I.ok ρ ro h->S.G.ok ro h)->∀g h,S.Ez g=some h->@nK I S.P g h
 run: ∀g j,j∈S.nums g->∀(args:Array Value) (w:World),(callFunc g args).run S.P w= .ok (.enter g args) w
 num: ∀g j e,j∈S.nums g->S.ents j=some e->e.g=g/\e.pos=none/\(match e.pat with
  |none=>(uU e.PE).length<=900/\e.wX= []
  |some (c,eX,_)=>CW c.k c=true/\c.k<=900/\eX.length=c.objs.length/\(e.wX≠[]->Rq e.wX=true))
 outs: ∀j e,S.ents j=some e->rE e.ko e.eX=true/\e.ko<=900/\e.kQ<=900
 ents: ∀j e,S.ents j=some e->∀fn body,S.ft e.g=some fn->fn.body=some body->atO S e body
section
variable {S:Sys}
def aAy (S:Sys) (n:Nat):Prop:= ∀g j e,j∈S.nums g->S.ents j=some e->match e.pat with
 |none=>asY S.P S.G.ok g e.PE e.pK (fP S.tree n j)
 |some (c,eX,ko)=>match e.wX with
  |[]=>aAx S.P S.G.ok g c e.pK eX ko (fP S.tree n j)
  |r::rs=>aAw S.P S.G.ok g c (r::rs) (fP S.tree n j)
def LoopN (S:Sys) (n:Nat):Prop:= ∀j e p c,S.ents j=some e->e.pos=some (p,c)->CW c.k c=true->c.k<=900->∀fn body b fr,S.ft e.g=some fn->fn.body=some body->uZ body p=some (.loop b,fr)->
 ∀(B:rM) (E:En) (a:Act) (w:World) (xs ys:List Int),e.eX.length=B.m->fP S.tree n j xs=some ys->(∀i x,xs[i]?=some x->E.ρ i=x)->xs.length=c.k->rH B E c.st a w->S.G.ok E.ro w.heap->fn.ntmps<=a.tmps.size->a.defers= []->
  PN S.P b (KE S.P (bodyPost S.P fn (QX B e.pK e.eX e.ko e.wX ys)) fr) a w
def LfG (kQ:Nat) (tabs:KL):Lf->Prop
 | .out es=> ∀a e,a<kQ->es[a+1]?=some e->e= .aO a
 | .jump j es=>(∃p l c,tabs p=some l/\(j,c)∈l/\es.length=c.k)/\∀a e,a<kQ->es[a]?=some e->e= .aO a
theorem SX: ∀{n i:Nat} {ns:List SE} {a:Nat} {e:SE},a<n->(JW n i ns)[a]?=some e->e= .aO (i+a)
 |0,_,_,a,_,h,_=>by omega
 |n+1,i,[],a,e,_,h=>by simp [JW] at h
 |n+1,i,x::ns,0,e,_,h=>by simp [JW] at h; rw [<- h]; rfl
 |n+1,i,x::ns,a+1,e,ha,h=>by simp only [JW,aHp] at h;rw [SX (n:=n) (by omega) h];congr 1; omega
theorem XK {kQ:Nat} {r:Ren} {a:Nat} {e:SE} (ha:a<kQ) (h:(xW kQ r).ns[a]?=some e):e= .aO a:=by
 unfold xW at h;split at h
 ·omega
 ·have:=SX ha h;rw [this,aHn]
theorem apE {n m kQ:Nat} {s:St} {ρ:Nat->Int} {lf:Lf} {tabs:KL} {l:List CS} {k:Nat} (h:(X4 n m kQ s l k).leaf ρ=some lf):LfG kQ tabs lf:=by obtain⟨i,c,_,_,_,rfl,_⟩:=LJ h;intro a e ha he;rw [aHp] at he;exact XK ha he
theorem zX {m kQ:Nat} {s:St} {ρ:Nat->Int} {lf:Lf} {tabs:KL} {p:List Nat} {l0:List (Nat×CS)} (hp:tabs p=some l0): ∀{l:List (Nat×CS)},(∀x∈l,x∈l0)->(xR m kQ s l).leaf ρ=some lf->LfG kQ tabs lf
 |[],_,h=>by simp [xR,T.leaf] at h
 |(j,c)::l,hsub,h=>by
  simp only [xR] at h;split at h
  ·exact zX hp (fun x hx=>hsub x (by simp [hx])) h
  ·split at h
   ·have:=aF h;subst this;exact⟨⟨p,l0,c,hp,hsub _ (by simp),by rw [CG,Ag]⟩,fun a e ha he=>XK ha he⟩
   ·exact zX hp (fun x hx=>hsub x (by simp [hx])) h
theorem xM {α:Type} {k:St->T α} {ρ:Nat->Int} {x:α}: ∀{ts:List Nat} {s:St},(C9 k ts s).leaf ρ=some x->∃s',(k s').leaf ρ=some x
 |[],s,h=> ⟨s,h⟩
 |i::ts,s,h=>by
  simp only [C9] at h;split at h
  ·obtain⟨pc,b,h1⟩:=mQ h;exact xM h1
  ·exact xM h
theorem Iw {α:Type} {k:St->T α} {ρ:Nat->Int} {x:α}: ∀{ts:List (Nat×Nat)} {s:St},(YU k ts s).leaf ρ=some x->∃s',(k s').leaf ρ=some x
 |[],s,h=> ⟨s,h⟩
 |(t,g)::ts,s,h=>by
  simp only [YU] at h;split at h
  ·obtain⟨pc,b,h1⟩:=mQ h;exact Iw h1
  ·exact Iw h
theorem SS {α:Type} {ρ:Nat->Int} {v:AV} {s:St} {k:AV->St->T α} {x:α} (h:(ahX v s k).leaf ρ=some x): ∃v s,(k v s).leaf ρ=some x:=by
 unfold ahX at h;split at h
 ·split at h
  ·unfold IY at h;obtain⟨_,b1,h⟩:=mQ h
   cases b1 with
   |true=>simp [T.leaf] at h
   |false=>
    obtain⟨_,b2,h⟩:=mQ h
    cases b2 with
    |true=>simp [T.leaf] at h
    |false=>
     obtain⟨_,b3,h⟩:=mQ h
     cases b3 with
     |true=>simp [T.leaf] at h
     |false=>exact⟨_,_,h⟩
  ·exact⟨_,_,h⟩
 ·exact⟨_,_,h⟩
theorem Oq {α:Type} {ρ:Nat->Int} {x:α}: ∀{vs:List AV} {s:St} {k:List AV->St->T α},(SQ vs s k).leaf ρ=some x->∃vs s,(k vs s).leaf ρ=some x
 |[],s,k,h=> ⟨_,_,h⟩
 |v::vs,s,k,h=>by simp only [SQ] at h;obtain⟨_,_,h⟩:=SS h;obtain⟨_,_,h⟩:=Oq h;exact⟨_,_,h⟩
theorem Nu {α:Type} {ρ:Nat->Int} {x:α} {t:Nat}: ∀{ov:List (SE×List AV)} {e:SE} {s:St} {k:SE->St->T α},(RF t ov e s k).leaf ρ=some x->∃e s,(k e s).leaf ρ=some x
 |[],e,s,k,h=> ⟨_,_,h⟩
 |(j,cs)::ov,e,s,k,h=>by
  simp only [RF] at h;obtain⟨_,_,h⟩:=Nu h;obtain⟨_,_,h⟩:=Oq h;split at h
  ·exact⟨_,_,h⟩
  ·simp [T.leaf] at h
theorem ahV {α:Type} {ρ:Nat->Int} {v:AV} {s:St} {k:AV->St->T α} {x:α} (h:(ahW v s k).leaf ρ=some x): ∃v s,(k v s).leaf ρ=some x:=by
 unfold ahW at h;split at h
 ·obtain⟨_,_,h⟩:=Nu h;split at h
  ·exact⟨_,_,h⟩
  ·simp [T.leaf] at h
 ·exact SS h
theorem SN {α:Type} {ρ:Nat->Int} {x:α} {k:List AV->St->T α}: ∀{fz:List (Nat×Nat×Nat)} {vs:List AV} {s:St},(Z4 fz vs s k).leaf ρ=some x->∃vs s,(k vs s).leaf ρ=some x
 |[],vs,s,h=> ⟨_,_,h⟩
 |(i,f,t)::l,vs,s,h=>by
  simp only [Z4] at h;split at h
  ·split at h
   ·obtain⟨_,_,h⟩:=ahV h;split at h
    ·exact SN h
    ·simp [T.leaf] at h
   ·simp [T.leaf] at h
  ·simp [T.leaf] at h
theorem apF {g:Jy} {tabs:KL} {e:Ex} {s:St} {ρ:Nat->Int} {lf:Lf} (hr:g.wX≠[]) (h:(apG g e s).leaf ρ=some lf):LfG g.kQ tabs lf:=by
 unfold apG at h;split at h
 ·simp [T.leaf] at h
 ·split at h
  ·simp [T.leaf] at h
  ·split at h
   ·rename_i h0; exact absurd h0 hr
   ·obtain⟨_,_,h⟩:=SN h;exact apE h
theorem aeX {g:Jy} {tabs:KL} {ρ:Nat->Int} (hr:g.wX≠[]): ∀n:Nat,
 (∀p c fr s lf,(Em g tabs n p c fr s).leaf ρ=some lf->LfG g.kQ tabs lf)/\
 (∀fr e s lf,(Ah g tabs n fr e s).leaf ρ=some lf->LfG g.kQ tabs lf)
 |0=> ⟨fun _ _ _ _ _ h=>by simp [Em,T.leaf] at h,fun _ _ _ _ h=>by simp [Ah,T.leaf] at h⟩
 |n+1=>by
  obtain⟨ih1,ih2⟩:=aeX hr n
  have lfc: ∀(c:Code) fr s lf,((g.ev c s).bind fun (e,s')=>Ah g tabs n fr e s').leaf ρ=some lf->LfG g.kQ tabs lf:=by intro c fr s lf h;obtain⟨⟨e,s'⟩,_,h2⟩:=T.gZ h;exact ih2 _ _ _ _ h2
  constructor
  ·intro p c fr s lf h;unfold Em at h;split at h
   ·rename_i l hl;obtain⟨s',h1⟩:=xM h;exact zX hl (fun _ h=>h) h1
   ·split at h
    ·exact ih1 _ _ _ _ _ h
    ·exact ih1 _ _ _ _ _ h
    ·exact ih1 _ _ _ _ _ h
    ·split at h
     ·obtain⟨pc,b,h1⟩:=mQ h;split at h1
      ·exact ih1 _ _ _ _ _ h1
      ·exact ih1 _ _ _ _ _ h1
     ·simp [T.leaf] at h
    ·exact lfc _ _ _ _ h
  ·intro fr e s lf h;unfold Ah at h;split at h
   ·exact apF hr h
   ·split at h
    ·exact ih1 _ _ _ _ _ h
    ·exact ih2 _ _ _ _ h
   ·split at h
    ·split at h
     ·exact ih2 _ _ _ _ h
     ·exact ih2 _ _ _ _ h
    ·exact ih2 _ _ _ _ h
   ·split at h
    ·split at h
     ·rename_i l hl;obtain⟨s',h1⟩:=xM h;exact zX hl (fun _ h=>h) h1
     ·simp [T.leaf] at h
    ·exact ih2 _ _ _ _ h
   ·exact ih2 _ _ _ _ h
theorem J5 {e:Ip} {ρ:Nat->Int} {lf:Lf} (hr:e.wX≠[]) (h:(sV S e).leaf ρ=some lf): ∃fn body,S.ft e.g=some fn/\fn.body=some body/\LfG e.kQ e.tabs lf:=by
 unfold sV at h;split at h
 ·simp [T.leaf] at h
 ·rename_i fn hfn;split at h
  ·simp [T.leaf] at h
  ·rename_i body hb;refine⟨fn,body,hfn,hb,?_⟩;have key: ∀n p c fr s,(Em (S.cfg e fn) e.tabs n p c fr s).leaf ρ=some lf->LfG e.kQ e.tabs lf:=fun n p c fr s h=>(aeX (g:=S.cfg e fn) hr n).1 _ _ _ _ _ h;split at h
   ·split at h
    ·exact key _ _ _ _ _ h
    ·exact key _ _ _ _ _ h
   ·split at h
    ·split at h
     ·obtain⟨s',h1⟩:=Iw h;exact key _ _ _ _ _ h1
     ·simp [T.leaf] at h
    ·simp [T.leaf] at h
theorem adJ (hs:PI S): ∀(n j:Nat) (e:Ip) (xs ys:List Int),S.ents j=some e->e.wX≠[]->fP S.tree n j xs=some ys->∀a y,a<e.kQ->ys[a+1]?=some y->y=low xs a
 |0,_,_,_,_,_,_,h=>by simp [fP] at h
 |n+1,j,e,xs,ys,he,hr,h=>by
  intro a y ha hy;obtain⟨_,_,hg⟩:=hs.outs j e he;have SL:S.tree j=sV S e:=by unfold Sys.tree; rw [he]
  simp only [fP,SL] at h;split at h
  ·simp at h
  ·rename_i es hl;obtain⟨_,_,_,_,hlf⟩:=J5 hr hl;simp only [aHe] at h;subst h;rw [aHG,aHy] at hy;obtain⟨x,hx,rfl⟩:=hy;rw [hlf a x ha hx];show bZ _ _ a=_;rw [wJ (by omega)]
  ·rename_i j' es hl;obtain⟨fn,body,hfn,hb,⟨p,l,c,hp,hc,hlen⟩,hlf⟩:=J5 hr hl;obtain⟨_,hh⟩:=hs.ents j e he fn body hfn hb p l hp;obtain⟨q1,_,_,q4⟩:=hh j' c hc;have:=adJ hs n j' _ _ ys q1 hr h a y ha hy;rw [this];have hal:a<es.length:=by omega
   have hx:=aHu hal;unfold low;rw [aID,aHG,hx];show (es[a]).den _=_;rw [hlf a _ ha hx];show bZ _ _ a=_;rw [wJ (by omega)]
theorem axR (hs:PI S) {n:Nat} (h:aAy S n):@kP (S.G.glob (fP S.tree n)) S.P S.call:=by
 letI I:=S.G.glob (fP S.tree n);have a1: ∀ρ ro h,I.ok ρ ro h->S.G.ok ro h:=fun _ _ _ h=>h.1;have a2: ∀ρ ro h,I.ok ρ ro h->Good (fP S.tree n) ρ:=fun _ _ _ h=>h.2;refine G8 hs.tt hs.ft (hook:=S.hook) ?_ (fun call hc g=>hs.draw I call hc g) S.lf S.depth
 have hL: ∀g l,(∀j∈l,j∈S.nums g)->@nK I S.P g (S.Og l):=by
  intro g l
  induction l with
  |nil=> intro _ aHb s E w vals v s' r hv hp hl;simp [Sys.Og,T.leaf] at hl
  |cons j l ih=>
   intro hsub aHb s E w vals v s' r hv hp hl;have hj:=hsub j (by simp);simp only [Sys.Og] at hl;split at hl
   ·simp [T.leaf] at hl
   ·rename_i e he;have hspec:=h g j e hj he;obtain⟨_,_,hnum⟩:=hs.num g j e hj he;obtain⟨ho1,ho2,_⟩:=hs.outs j e he
    cases hpat:e.pat with
    |none=> rw [hpat] at hl hspec;exact @aoB S.P I S.G.ok a1 (fP S.tree n) a2 g j e.PE e.pK hspec (hs.run g j hj) aHb s E w vals v s' r hv hp hl
    |some q=>
     obtain⟨c,eX,ko⟩:=q;rw [hpat] at hl hspec hnum;simp only at hl hspec hnum;unfold Ip.eX Ip.ko at ho1;unfold Ip.ko at ho2;rw [hpat] at ho1 ho2
     cases KA:e.wX with
     |nil=>
      rw [KA] at hl hspec;simp only at hl hspec;split at hl
      ·exact @anZ S.P I S.G.ok a1 (fP S.tree n) a2 g j c e.pK eX ko ho1 ho2 hnum.2.2.1 hspec (hs.run g j hj) aHb s E w vals v s' r hv hp hl
      ·exact ih (fun j hj=>hsub j (by simp [hj])) aHb s E w vals v s' r hv hp hl
     |cons r0 rs=>
      rw [KA] at hl hspec;simp only at hl hspec;have hrp:=hnum.2.2.2 (by rw [KA]; simp);rw [KA] at hrp;split at hl
      ·exact @anX S.P I S.G.ok a1 (fP S.tree n) a2 g j c e.gh e.kQ (r0::rs) hrp (fun xs ys h=>adJ hs n j e xs ys he (by rw [KA]; simp) h) hspec (hs.run g j hj) aHb s E w vals v s' r hv hp hl
      ·exact ih (fun j hj=>hsub j (by simp [hj])) aHb s E w vals v s' r hv hp hl
 intro g f hf;unfold Sys.hook at hf;split at hf
 ·exact hs.Ez I a1 g f hf
 ·rename_i j l hj;simp only [aHe] at hf;subst hf;have h2:=hL g (j::l) (by rw [hj]; exact fun _ h=>h);split
  ·exact h2
  ·rename_i h0 hh;exact DL (hs.Ez I a1 g h0 hh) h2
theorem ZR (hs:PI S) {n:Nat} (h:LoopN S n) {j:Nat} {e:Ip} (he:S.ents j=some e) {fn:Func} {body:Code} (hfn:S.ft e.g=some fn) (hb:fn.body=some body) (B:rM) (hm:e.eX.length=B.m) (ys:List Int) :
 @atD (S.G.glob (fP S.tree n)) S.P body fn.ntmps B (bodyPost S.P fn (QX B e.pK e.eX e.ko e.wX ys)) (fP S.tree n) ys e.tabs:=by
 intro p l hp;obtain⟨⟨b,fr,hl⟩,hh⟩:=hs.ents j e he fn body hfn hb p l hp;refine⟨b,fr,hl,fun j' c hc E a w t hg ⟨xs,h1,h2,h3,h4⟩ hN hd=>?_⟩;obtain⟨q1,q2,q3,_⟩:=hh j' c hc;exact h j' { e with pos:=some (p,c) } p c q1 rfl q2 q3 fn body b fr hfn hb hl B E a w xs ys hm h4 h1 h2 t hg.1 hN hd
theorem anF {F:uN} {E:En} {xs:List Int} {k:Nat} (h: ∀i x,xs[i]?=some x->E.ρ i=x) (hk:xs.length=k) (h9:k<=900): ∀i,i<k->bZ F (low xs) i=E.ρ i:=by intro i hi;rw [wJ (by omega)];have hx:xs[i]?=some xs[i]:=aHu (by omega);unfold low;rw [h i _ hx,aID,hx];rfl
theorem U0 {tree:Nat->T Lf} {n j:Nat} {xs ys:List Int} (h:fP tree (n+1) j xs=some ys): ∃lf,(tree j).leaf (bZ (fP tree n) (low xs))=some lf/\YA (fP tree n) (bZ (fP tree n) (low xs)) ys lf:=by
 simp only [fP] at h;split at h
 ·simp at h
 ·rename_i es hl;simp only [aHe] at h;exact⟨_,hl,h⟩
 ·rename_i j' es hl;exact⟨_,hl,h⟩
theorem QE.spec {w:World} {ro:Nat->Prop} {θ:Nat->Nat×Nat} {κ:Nat->Nat} {pK:List RK} {ys:List Int} {e:Ending} {w':World} (h:QE ⟨w,ro,0,θ,κ⟩ pK [] 0 ys e w') :
 ∃u,e= .returned u/\Below w.heap.size w w'/\∃ro':Nat->Prop,(∀b,ro b->ro' b)/\(∀b,ro' b->ro b\/w.heap.size<=b)/\(∀b,ro' b->b<w'.heap.size)/\ayB pK ys ro' w'.heap u:=by
 obtain⟨u,q1,q2,ro',q3,q4,q5,_,_,q6⟩:=h;exact⟨u,q1,⟨q2.os,q2.tape,q2.output,q2.size,fun k hk=>q2.blk k hk fun⟨i,hi,_⟩=>absurd hi (by show ¬i<0; omega)⟩,ro',q3,q4,q5,q6⟩
theorem Bel.refl {B:rM}:Bel B B.w0:=⟨rfl,rfl,rfl,aHh _,fun _ _ _=>rfl⟩
theorem Ig.grow {E:En} {s:St} {w:World} {vals:List Value} (f:Ig E s { tmps:=vals.toArray,defers:=[] } w) (n:Nat):Ig E s { tmps:=vals.toArray++Array.replicate n undef,defers:=[] } w:=by refine⟨f.fresh,f.res,f.live,f.inj,f.BO,fun t v ht=>?_,f.pc⟩;obtain⟨u,h1,h2⟩:=f.sr t v ht;refine⟨u,?_,h2⟩;have hlt:=(aHN.1 h1).1;show (vals.toArray++Array.replicate n undef)[t]?=some u;rw [aJc hlt];exact h1
theorem alO (hs:PI S): ∀n:Nat,aAy S n/\LoopN S n
 |0=> ⟨fun g j e _ _=>by
  cases e.pat with
  |none=>exact fun xs ys h=>by simp [fP] at h
  |some q=>
   obtain⟨c,eX,ko⟩:=q
   cases e.wX with
   |nil=>exact fun xs ys h=>by simp [fP] at h
   |cons r rs=>exact fun xs ys h=>by simp [fP] at h,fun j e p c _ _ _ _ fn body b fr _ _ _ B E a w xs ys _ h=>by simp [fP] at h⟩
 |n+1=>by
  obtain⟨ih1,ih2⟩:=alO hs n;letI I:=S.G.glob (fP S.tree n);have hcall:=axR hs ih1;have asJ: ∀(e:Ip) (fn:Func),abQ S.P (S.cfg e fn) (S.chk e.g):=fun e fn=> ⟨hs.tt,hcall,hs.draw I S.call hcall e.g⟩;constructor
  ·intro g j e hn he;obtain⟨hg,hpos,hnum⟩:=hs.num g j e hn he;obtain⟨hlo,hko,_⟩:=hs.outs j e he;have SL:S.tree j=sV S e:=by unfold Sys.tree; rw [he]
   cases hpat:e.pat with
   |none=>
    rw [hpat] at hnum;simp only at hnum ⊢;intro xs ys hx ro w vals fl hro hgb sh hc;obtain⟨lf,h1,h2⟩:=U0 hx;rw [SL] at h1;unfold sV at h1
    cases hfn:S.ft e.g with
    |none=>rw [hfn] at h1; simp [T.leaf] at h1
    |some fn=>
     rw [hfn] at h1
     cases hb:fn.body with
     |none=>simp only [hb] at h1; simp [T.leaf] at h1
     |some body=>
      simp only [hb,hpos,hpat] at h1;obtain⟨hf,_,hd⟩:=hs.ft e.g fn hfn;rw [hg] at hf;have hdst:=hd body hb;have hlx:=hc.length.1;have hob:e.eX= []:=by unfold Ip.eX; rw [hpat]
      have hk0:e.ko=0:=by unfold Ip.ko; rw [hpat]
      have hvr:bT (En.zero (bZ (fP S.tree n) (low xs)) ro) w.heap (wC e.PE .aO 0) vals:=by refine yS sh hc fun k x hk=>?_;have hkl:=(aHB.1 hk).1;rw [aHn];show bZ _ _ k=x;rw [wJ (by omega)];unfold low;rw [aID,hk];rfl
      have hgl:I.ok (bZ (fP S.tree n) (low xs)) ro w.heap:=⟨hgb,oP _ _⟩;let B:rM:=⟨w,ro,0,fun _=>(0,0),fun _=>0⟩
      have t0:rH B (En.zero (bZ (fP S.tree n) (low xs)) ro) ⟨bI (wC e.PE .aO 0) 0 .nil,Hp.zero,[]⟩ { tmps:=vals.toArray++Array.replicate (fn.ntmps-vals.toArray.size) undef,defers:=[] } w:=by
       have fit:Fit (En.zero (bZ (fP S.tree n) (low xs)) ro) ⟨bI (wC e.PE .aO 0) 0 .nil,Hp.zero,[]⟩ { tmps:=vals.toArray++Array.replicate (fn.ntmps-vals.toArray.size) undef,defers:=[] } w:=
        ⟨WB _ ro w hro hgl,Gy hvr _,by intro c b h; simp at h⟩
       exact⟨fit.x,fun _ h=>h,fun _ h=> .inl h,Bel.refl,fun id o h=>by simp [Hp.zero,Hp.get,Tr.get] at h,fun i hi=>absurd hi (by show ¬i<0; omega)⟩
      refine Calls.mono (calls_of_wp (R:=QX B e.pK e.eX e.ko e.wX ys) hf hb ?_) fun e' w' hq=>QE.spec (w:=w) (ro:=ro) (θ:=fun _=>(0,0)) (κ:=fun _=>0) (by rw [hob,hk0,hnum.2] at hq; exact hq);exact (U8 (B:=B) (asJ e fn) hdst rfl (by show e.eX.length=0; rw [hob]; rfl) hlo hko (ZR hs ih2 he hfn hb B (by show e.eX.length=0; rw [hob]; rfl) ys) 1000).1 [] body [] _ lf _ _ w rfl h1 h2 t0 hgl (by simp; omega) rfl
   |some q=>
    obtain⟨c,eX,ko⟩:=q;rw [hpat] at hnum;simp only at hnum ⊢;obtain⟨aEX,hc9,hom,hrp⟩:=hnum
    have main: ∀xs ys,fP S.tree (n+1) j xs=some ys->∀(E:En) (w:World) (vals:List Value),(∀i x,xs[i]?=some x->E.ρ i=x)->xs.length=c.k->Ig E c.st { tmps:=vals.toArray,defers:=[] } w->S.G.ok E.ro w.heap->
     Calls S.P g vals.toArray w (QX ⟨w,E.ro,c.objs.length,E.θ,E.κ⟩ e.pK eX ko e.wX ys):=?_
    ·cases KA:e.wX with
     |nil=> simp only;intro xs ys hx E w vals hxs hlen fx hgb;have:=main xs ys hx E w vals hxs hlen fx hgb;rw [KA] at this;exact this
     |cons r0 rs=> simp only;intro xs ys hx E w vals hxs hlen fx hgb;have:=main xs ys hx E w vals hxs hlen fx hgb;rw [KA] at this;exact this
    intro xs ys hx E w vals hxs hlen fx hgb;obtain⟨lf,h1,h2⟩:=U0 hx;rw [SL] at h1;unfold sV at h1
    cases hfn:S.ft e.g with
    |none=>rw [hfn] at h1; simp [T.leaf] at h1
    |some fn=>
     rw [hfn] at h1
     cases hb:fn.body with
     |none=>simp only [hb] at h1; simp [T.leaf] at h1
     |some body=>
      simp only [hb,hpos,hpat] at h1;obtain⟨hf,_,hd⟩:=hs.ft e.g fn hfn;rw [hg] at hf;have hdst:=hd body hb;have hob:e.eX=eX:=by unfold Ip.eX; rw [hpat]
      have hk0:e.ko=ko:=by unfold Ip.ko; rw [hpat]
      let B:rM:=⟨w,E.ro,c.objs.length,E.θ,E.κ⟩
      have aGB: ∀id o,c.st.h.get id=some o->id<c.objs.length:=by
       intro id o ho;have:(wB c.objs 0 .nil).get id=some o:=ho;rw [nX] at this;split at this
       ·omega
       ·simp [Tr.get] at this
      have aGz: ∀id,id<c.objs.length->∃o,c.st.h.get id=some o:=by intro id hid;refine⟨c.objs[id],?_⟩;show (wB c.objs 0 .nil).get id=_;rw [nX,aHd (by omega)];simp
      have t1:rH B E c.st { tmps:=vals.toArray++Array.replicate (fn.ntmps-vals.toArray.size) undef,defers:=[] } w:=by refine⟨fx.grow _,fun _ h=>h,fun _ h=> .inl h,Bel.refl,fun id o h=> .inr ⟨id,aGB id o h,rfl⟩,fun i hi=>?_⟩;obtain⟨o,ho⟩:=aGz i hi;exact⟨(fx.live i o ho).1,rfl,rfl⟩
      have t0:=t1.low (ρ':=bZ (fP S.tree n) (low xs)) aEX (anF hxs hlen hc9);have hgl:I.ok (bZ (fP S.tree n) (low xs)) E.ro w.heap:=⟨hgb,oP _ _⟩;have hm:e.eX.length=B.m:=by rw [hob]; exact hom
      have hw:=(U8 (B:=B) (asJ e fn) hdst rfl hm hlo hko (ZR hs ih2 he hfn hb B hm ys) 1000).1 [] body [] _ lf { E with ρ:=bZ (fP S.tree n) (low xs) } _ w rfl h1 h2 t0 hgl (by simp; omega) rfl;have hw':=calls_of_wp (R:=QX B e.pK e.eX e.ko e.wX ys) hf hb hw;rw [hob,hk0] at hw';exact hw'
  ·intro j e p c he hpos hlow h9 fn body b fr hfn hb hl B E a w xs ys hm hx hxs hlen t hgb hN hdf;obtain⟨hlo,hko,_⟩:=hs.outs j e he;obtain⟨lf,h1,h2⟩:=U0 hx;have SL:S.tree j=sV S e:=by unfold Sys.tree; rw [he]
   rw [SL] at h1;unfold sV at h1;simp only [hfn,hb,hpos,hl] at h1;obtain⟨hf,_,hd⟩:=hs.ft e.g fn hfn;have hdst:=hd body hb;have t':=t.low (ρ':=bZ (fP S.tree n) (low xs)) hlow (anF hxs hlen h9);have hgl:I.ok (bZ (fP S.tree n) (low xs)) E.ro w.heap:=⟨hgb,oP _ _⟩;refine ZM ?_;obtain⟨s2,t2,h1'⟩:=Uc (E:={ E with ρ:=bZ (fP S.tree n) (low xs) }) h1 t';exact (U8 (B:=B) (asJ e fn) hdst rfl hm hlo hko (ZR hs ih2 he hfn hb B hm ys) 1000).1 (0::p) b (.loop p b::fr) s2 lf { E with ρ:=bZ (fP S.tree n) (low xs) } a w (by simp only [uZ,hl]) h1' h2 t2 hgl hN hdf
theorem alN (hs:PI S) {g j:Nat} {e:Ip} (hn:j∈S.nums g) (he:S.ents j=some e) (hp:e.pat=none) (n:Nat):asY S.P S.G.ok g e.PE e.pK (fP S.tree n j):=by have:=(alO hs n).1 g j e hn he;rw [hp] at this;exact this
end
end Go.As
end
section
namespace Go.As
open Go.RowKit
def JX:List (Nat×Nat)->Nat->Option Nat
 |[],_=>none
 |(t,k)::l,x=>match Nat.beq t x with
  |true=>some k
  |false=>JX l x
def Xh (l:List (Nat×Nat)) (tt:TT):TT:=fun t=>match tt t with
 |some i=>some { i with own:=JX l t }
 |none=>none
section
variable {P:Program}
theorem auY {l:List (Nat×Nat)} {tt:TT} (h:fE P tt):fE P (Xh l tt):=by
 intro t i hi;unfold Xh at hi;split at hi
 ·rename_i j hj;simp only [aHe] at hi;subst hi;obtain⟨h1,h2⟩:=h t j hj;exact⟨h1,h2⟩
 ·simp at hi
theorem ZP (l:List (Nat×Nat)) (tt:TT):kindOf (Xh l tt)=kindOf tt:=by
 funext op;cases op
 case convert t u x=>
  simp only [kindOf,Xh]
  cases ht:tt t with
  |none=>rfl
  |some i=>
   simp only
   cases i.kind with
   |slice e=>
    simp only
    cases hu:tt u with
    |none=>rfl
    |some j=>rfl
   |_=>rfl
 all_goals rfl
theorem SG (l:List (Nat×Nat)) (tt:TT) (all:List Oper) (ms:List Nat): ∀(os:List Oper) (i n:Nat),items (Xh l tt) all ms os i n=items tt all ms os i n
 |[],_,_=>rfl
 |o::os,i,n=>by simp only [items,ZP,SG l tt all ms os]
theorem alQ (l:List (Nat×Nat)) (tt:TT) (all:List Oper):stat (Xh l tt) all=stat tt all:=by
 unfold stat
 simp only [SG]
theorem asI (l:List (Nat×Nat)) (tt:TT) (H:Nat->Nat->Option TU):VX (Xh l tt) H=VX tt H:=by funext g id all;unfold VX;simp only [Cj,alQ]
end
structure FE where
 no:Nat
 g:Nat
 PE:List RK
 pK:List RK
 pat:Option (CS×List eP×Nat):=none
 wX:List CS:=[]
 gh:List (Nat×Nat):=[]
 wh:List Nat:=[]
 kQ:Nat:=0
 tst:List (Nat×Nat):=[]
 fz:List (Nat×Nat×Nat):=[]
 loops:List (List Nat×CS):=[]
def idxs (p:List Nat):List (List Nat×CS)->Nat->List (Nat×CS)
 |[],_=>[]
 |(q,c)::l,j=>match jT q p with
  |true=>(j,c)::idxs p l (j+1)
  |false=>idxs p l (j+1)
def FE.tabs (f:FE):KL:=fun p=>match idxs p f.loops (f.no+1) with
 |[]=>none
 |x::l=>some (x::l)
def FE.ent (f:FE):Ip:=⟨f.g,f.PE,f.pK,f.tabs,none,f.pat,f.wX,f.gh,f.wh,f.kQ,f.tst,f.fz⟩
def AZ (t:Nat->Option FE) (j:Nat):Option Ip:=match t (j / 50) with
 |none=>none
 |some f=>match j % 50 with
  |0=>some f.ent
  |i+1=>match iH f.loops i with
   |some x=>some { f.ent with pos:=some x }
   |none=>none
def anP:Option (Code×List FrE)->Bool
 |some (c,_)=>match c with
  | .loop _=>true
  |_=>false
 |none=>false
def UQ (kQ:Nat) (body:Code) (x:List Nat×CS):Bool:=anP (uZ body x.1)&&CW x.2.k x.2&&Nat.ble x.2.k 900&&Nat.ble kQ x.2.k
def aEt {α:Type}:List α->Bool
 |[]=>true
 |_=>false
def aoU (ft:Nat->Option Func) (k:Nat) (f:FE):Bool:=Nat.beq f.no (50*k)&&Nat.blt f.loops.length 50&&Nat.ble f.kQ 900&&
 (match f.pat with
  |none=>Nat.ble (uU f.PE).length 900&&aEt f.wX
  |some (c,eX,ko)=>CW c.k c&&Nat.ble c.k 900&&Nat.beq eX.length c.objs.length&&Rq f.wX&&rE ko eX&&Nat.ble ko 900)&&
 (match ft f.g with
  |some fn=>match fn.body with
   |some body=>f.loops.all (UQ f.kQ body)
   |none=>false
  |none=>false)
def Xm (ft:Nat->Option Func) (t:Nat->Option FE) (g:Nat) (l:List Nat):Bool:=
 l.all fun j=>Nat.beq (j % 50) 0&&match t (j / 50) with
  |some f=>Nat.beq f.g g&&(match ft g with
   |some fn=>fn.body.isSome
   |none=>false)
  |none=>false
theorem OO: ∀{a b:List Nat},jT a b=true->a=b
 |[],[],_=>rfl
 |[],_::_,h=>by simp [jT] at h
 |_::_,[],h=>by simp [jT] at h
 |a::x,b::y,h=>by
  simp only [jT] at h;split at h
  ·rename_i h1;rw [aHj h1,OO h]
  ·simp at h
theorem Gz {p:List Nat}: ∀{l:List (List Nat×CS)} {n j:Nat} {c:CS},(j,c)∈idxs p l n->∃i,l[i]?=some (p,c)/\j=n+i
 |[],n,j,c,h=>by simp [idxs] at h
 |(q,c0)::l,n,j,c,h=>by
  simp only [idxs] at h;split at h
  ·rename_i hq;rcases aHm.1 h with h|h
   ·simp only [aHf] at h;obtain⟨rfl,rfl⟩:=h;exact⟨0,by rw [OO hq]; rfl,rfl⟩
   ·obtain⟨i,h1,h2⟩:=Gz h;exact⟨i+1,by simpa using h1,by omega⟩
  ·obtain⟨i,h1,h2⟩:=Gz h;exact⟨i+1,by simpa using h1,by omega⟩
structure aiP where
 P:Program
 G:YC
 tt:TT
 ft:Nat->Option Func
 chk:Nat->Nat->List Oper->Bool
 draw:eF->Nat->Nat->List Oper->St->T St
 Ez:Nat->Option (List AV->St->T (AV×St))
 t:Nat->Option FE
 nums:Nat->List Nat
noncomputable def aiP.sys (S:aiP):Sys:=⟨S.P,S.G,S.tt,S.ft,S.chk,S.draw,S.Ez,40,60,S.nums,AZ S.t⟩
theorem OQ {t:Nat->Option FE} {j:Nat} {e:Ip} (h:AZ t j=some e): ∃f pos,t (j / 50)=some f/\e= { f.ent with pos:=pos }:=by
 unfold AZ at h;split at h
 ·simp at h
 ·rename_i f hf;split at h
  ·simp only [aHe] at h;exact⟨f,none,hf,h.symm⟩
  ·split at h
   ·rename_i x hx;simp only [aHe] at h;exact⟨f,some x,hf,h.symm⟩
   ·simp at h
theorem auC {S:aiP} (h1:fE S.P S.tt) (h2:aiQ S.P S.chk S.ft) (h3: ∀(I:Glob) call,@kP I S.P call->∀g,@Dq I S.P (S.chk g) (S.draw call g)) (h4: ∀(I:Glob),(∀ρ ro h,I.ok ρ ro h->S.G.ok ro h)->∀g h,S.Ez g=some h->@nK I S.P g h)
 (h5: ∀k f,S.t k=some f->aoU S.ft k f=true) (h6: ∀g,Xm S.ft S.t g (S.nums g)=true):PI S.sys where
 tt:=h1
 ft:=h2
 draw:=h3
 Ez:=h4
 run:=by
  intro g j hj args w;have hn:=h6 g;unfold Xm at hn;have:=aHz.1 hn j hj;simp only [aHg] at this;obtain⟨_,h⟩:=this;split at h
  ·simp only [aHg] at h;obtain⟨_,h⟩:=h;split at h
   ·rename_i fn hfn;obtain⟨q1,q2,_⟩:=h2 g fn hfn;obtain⟨c,hb⟩:=aIu.1 h;unfold callFunc;simp [aiP.sys,q1,hb,by simpa using q2]
   ·simp at h
  ·simp at h
 num:=by
  intro g j e hj he;have hn:=h6 g;unfold Xm at hn;have:=aHz.1 hn j hj;simp only [aHg] at this;obtain⟨hm,h⟩:=this;have hm:=aHj hm;have he':AZ S.t j=some e:=he;unfold AZ at he';split at h
  ·rename_i f hf;rw [hf,hm] at he';simp only [aHe] at he';subst he';simp only [aHg] at h;have hok:=h5 _ _ hf;unfold aoU at hok;simp only [aHg] at hok;obtain⟨⟨_,hp⟩,_⟩:=hok;refine⟨aHj h.1,rfl,?_⟩
   show (match f.pat with
    |none=>_
    |some (c,eX,_)=>_)
   cases hpat:f.pat with
   |none=>
    rw [hpat] at hp;simp only [aHg] at hp;refine⟨aHW hp.1,?_⟩;show f.wX= []
    cases hr:f.wX with
    |nil=>rfl
    |cons a l=>rw [hr] at hp; simp [aEt] at hp
   |some q=> obtain⟨c,eX,ko⟩:=q;rw [hpat] at hp;simp only [aHg] at hp;obtain⟨⟨⟨⟨⟨p1,p2⟩,p3⟩,p4⟩,_⟩,_⟩:=hp;exact⟨p1,aHW p2,aHj p3,fun _=>p4⟩
  ·simp at h
 outs:=by
  intro j e he;obtain⟨f,pos,hf,rfl⟩:=OQ he;have hok:=h5 _ _ hf;unfold aoU at hok;simp only [aHg] at hok;obtain⟨⟨⟨_,hg⟩,hp⟩,_⟩:=hok;refine⟨?_,?_,aHW hg⟩
  ·unfold Ip.eX Ip.ko;show rE (match f.pat with |none=>0|some (_,_,k)=>k) (match f.pat with |none=>[]|some (_,o,_)=>o)=true
   cases hpat:f.pat with
   |none=>rfl
   |some q=> obtain⟨c,eX,ko⟩:=q;rw [hpat] at hp;simp only [aHg] at hp;exact hp.1.2
  ·unfold Ip.ko;show (match f.pat with |none=>0|some (_,_,k)=>k)<=900
   cases hpat:f.pat with
   |none=>exact aIz _
   |some q=> obtain⟨c,eX,ko⟩:=q;rw [hpat] at hp;simp only [aHg] at hp;exact aHW hp.2
 ents:=by
  intro j e he fn body hfn hb;obtain⟨f,pos,hf,rfl⟩:=OQ he;have hok:=h5 _ _ hf;unfold aoU at hok;simp only [aHg] at hok;obtain⟨⟨⟨⟨hno,hlen⟩,_⟩,_⟩,hl⟩:=hok;have hno:=aHj hno;have hlen:f.loops.length<50:=aJQ (by simpa [Nat.blt] using hlen);have hfn':S.ft f.g=some fn:=hfn;rw [hfn'] at hl;simp only [hb] at hl;intro p l hp;have hp':f.tabs p=some l:=hp
  have hl0:l=idxs p f.loops (f.no+1)/\l≠[]:=by
   unfold FE.tabs at hp';split at hp'
   ·simp at hp'
   ·rename_i x l' hx;simp only [aHe] at hp';rw [hx,hp'];exact⟨rfl,by rw [<- hp']; simp⟩
  have hat: ∀i c,f.loops[i]?=some (p,c)->UQ f.kQ body (p,c)=true:=fun i c hi=>aHz.1 hl _ (aHK hi);constructor
  ·obtain⟨hl1,hl2⟩:=hl0
   cases hc:l with
   |nil=>exact absurd hc hl2
   |cons x l'=>
    obtain⟨j',c⟩:=x;have:(j',c)∈idxs p f.loops (f.no+1):=by rw [<- hl1,hc]; simp
    obtain⟨i,hi,_⟩:=Gz this;have:=hat i c hi;unfold UQ at this;simp only [aHg] at this;have hi:=this.1.1.1;unfold anP at hi;split at hi
    ·rename_i c' fr heq;split at hi
     ·rename_i b;exact⟨b,fr,heq⟩
     ·simp at hi
    ·simp at hi
  ·intro j' c hc;rw [hl0.1] at hc;obtain⟨i,hi,rfl⟩:=Gz hc;have hil:=(aHB.1 hi).1;have:=hat i c hi;unfold UQ at this;simp only [aHg] at this;obtain⟨⟨⟨_,q1⟩,q2⟩,q3⟩:=this;refine⟨?_,q1,aHW q2,aHW q3⟩;show AZ S.t (f.no+1+i)=_;have hd:(f.no+1+i) / 50=j / 50:=by rw [hno]; omega
   have hm:(f.no+1+i) % 50=i+1:=by rw [hno]; omega
   unfold AZ;rw [hd,hf,hm];simp only;rw [dI,hi]
end Go.As
end
section
namespace Go.As
open Go.RowKit
def u8L (l:List Int):List AV:=l.map fun n=> .int .u8 (.lit n)
noncomputable section
def a0 (j:Nat) (l:List SE):SE:=.ap (2*j) (iY l)
def a1 (j:Nat) (l:List SE):SE:=.ap (2*j+1) (iY l)
def rr (j:Nat) (l:List SE) (i:Nat):SE:=uS (.ap (2*j+1) (iY l)) i
def nm (x:SE):SE:=.op .num x (.lit 0)
def mk (x:SE):SE:=.op .mk x (.lit 0)
def ln (x:SE):SE:=.op .len x (.lit 0)
def ce (j:Nat) (x:SE):SE:=.op (.cell j) x (.lit 0)
def el (x y:SE):SE:=.op .at x y
def cn (x y:SE):SE:=.op .cons x y
def wr (x:SE):SE:=.wrap .i64 x
def sp (c:SB) (a b:T Lf):T Lf:=.split c a b
def ou (l:List SE):T Lf:=.ret (.out l)
def ju (j:Nat) (l:List SE):T Lf:=.ret (.jump j l)
def fl:T Lf:=.fail
end
end Go.As
end
section
namespace Go.As
open Go.RowKit
def Ef (kn:List (Nat×SE)):SE->Bool
 | .ap f a=>Ef kn a&&kn.any fun p=>Nat.beq f (2*p.1+1)&&iE a p.2
 | .op _ a b=>Ef kn a&&Ef kn b
 | .add a b=>Ef kn a&&Ef kn b
 | .sub a b=>Ef kn a&&Ef kn b
 | .mul a b=>Ef kn a&&Ef kn b
 | .quo a b=>Ef kn a&&Ef kn b
 | .rem a b=>Ef kn a&&Ef kn b
 | .wrap _ a=>Ef kn a
 | .inp _ _=>false
 | .lit _=>true
 | .dat _=>true
 | .aO i=>Nat.blt i 900
def okC (kn:List (Nat×SE)):SB->Bool
 | .lit _=>true
 | .lt a b=>Ef kn a&&Ef kn b
 | .le a b=>Ef kn a&&Ef kn b
 | .eq a b=>Ef kn a&&Ef kn b
 | .not a=>okC kn a
 | .and a b=>okC kn a&&okC kn b
def callOf:SB->Option (Nat×SE)
 | .eq x y=>match x with
   | .ap f a=>match y with
     | .lit n=>match Ce n 1&&Nat.beq (f % 2) 0 with
       |true=>some (f / 2,a)
       |false=>none
     |_=>none
   |_=>none
 |_=>none
def aBY:T Lf->Bool
 | .fail=>true
 |_=>false
def amN (kn:List (Nat×SE)):List SE->Bool
 |[]=>true
 |e::l=>Ef kn e&&amN kn l
def YK (kn:List (Nat×SE)):T Lf->Bool
 | .fail=>true
 | .ret l=>match l with
   | .out es=>amN kn es
   | .jump _ es=>amN kn es
 | .split c x y=>match callOf c with
   |some p=>Ef kn p.2&&YK (p::kn) x&&aBY y
   |none=>okC kn c&&YK kn x&&YK kn y
inductive RS where
 |no
 |out (ys:List Int)
 |jump (j:Nat) (xs:List Int)
noncomputable def fD (ρ:Nat->Int):T Lf->RS
 | .fail=> .no
 | .ret l=>match l with
   | .out es=> .out (es.map (SE.den ρ))
   | .jump j es=> .jump j (es.map (SE.den ρ))
 | .split c x y=>if c.den ρ=true then fD ρ x else fD ρ y
theorem F9 {tree:Nat->T Lf} {n j:Nat} {xs:List Int}:fP tree (n+1) j xs=match fD (bZ (fP tree n) (low xs)) (tree j) with
 | .no=>none
 | .out ys=>some ys
 | .jump j' xs'=>fP tree n j' xs':=by
 have: ∀t:T Lf,(match t.leaf (bZ (fP tree n) (low xs)) with
  |none=>none
  |some (.out es)=>some (es.map (SE.den (bZ (fP tree n) (low xs))))
  |some (.jump j' es)=>fP tree n j' (es.map (SE.den (bZ (fP tree n) (low xs)))))=match fD (bZ (fP tree n) (low xs)) t with
  | .no=>none
  | .out ys=>some ys
  | .jump j' xs'=>fP tree n j' xs':=by
  intro t
  induction t with
  |fail=>rfl
  |ret l=>cases l<;>rfl
  |split c x y ihx ihy=>
   simp only [T.leaf,fD]
   cases hc:c.den (bZ (fP tree n) (low xs)) with
   |true=>simpa [hc] using ihx
   |false=>simpa [hc] using ihy
 exact this (tree j)
def Fle (F F':uN):Prop:= ∀j xs ys,F j xs=some ys->F' j xs=some ys
def Kn (F F':uN) (lo:Nat->Int) (kn:List (Nat×SE)):Prop:= ∀p∈kn,p.2.den (bZ F lo)=p.2.den (bZ F' lo)/\∃xs ys,p.2.den (bZ F lo)=qU xs/\F p.1 xs=some ys
theorem Tm {F:uN} {lo:Nat->Int} {j:Nat} {z:Int} (h:bZ F lo (kZ (2*j) z)=1): ∃xs ys,z=qU xs/\F j xs=some ys:=by
 have h1:=Di (2*j) z;unfold bZ at h;rw [aHc (by omega)] at h;split at h
 ·rename_i hp;obtain⟨q1,q2⟩:=zA hp.choose_spec;have q1:hp.choose.1=j:=by omega
  split at h
  ·rename_i hs;obtain⟨ys,hy⟩:=aIu.1 hs;refine⟨hp.choose.2,ys,q2,?_⟩;generalize hp.choose=q at q1 hy;subst q1;exact hy
  ·omega
 ·split at h
  ·rename_i hp;have:=(zA hp.choose_spec).1;omega
  ·omega
section
variable {F F':uN} {lo:Nat->Int}
theorem iQ (hF:Fle F F') {kn:List (Nat×SE)} (hk:Kn F F' lo kn): ∀{e:SE},Ef kn e=true->e.den (bZ F lo)=e.den (bZ F' lo)
 | .ap f a,h=>by simp only [Ef,aHg] at h;have ha:=iQ hF hk h.1;obtain⟨p,hp,hq⟩:=aJm.1 h.2;simp only [aHg] at hq;have h1:=aHj hq.1;have h2:=dD _ _ hq.2;subst h2;obtain⟨k1,xs,ys,k2,k3⟩:=hk p hp;simp only [SE.den];rw [<- k1,k2,h1,(oP F lo p.1 xs).2,(oP F' lo p.1 xs).2,k3,hF _ _ _ k3]
 | .op o a b,h=>by simp only [Ef,aHg] at h; simp only [SE.den,iQ hF hk h.1,iQ hF hk h.2]
 | .add a b,h=>by simp only [Ef,aHg] at h; simp only [SE.den,iQ hF hk h.1,iQ hF hk h.2]
 | .sub a b,h=>by simp only [Ef,aHg] at h; simp only [SE.den,iQ hF hk h.1,iQ hF hk h.2]
 | .mul a b,h=>by simp only [Ef,aHg] at h; simp only [SE.den,iQ hF hk h.1,iQ hF hk h.2]
 | .quo a b,h=>by simp only [Ef,aHg] at h; simp only [SE.den,iQ hF hk h.1,iQ hF hk h.2]
 | .rem a b,h=>by simp only [Ef,aHg] at h; simp only [SE.den,iQ hF hk h.1,iQ hF hk h.2]
 | .wrap k a,h=>by simp only [Ef] at h; simp only [SE.den,iQ hF hk h]
 | .inp _ _,h=>by simp [Ef] at h
 | .lit _,_=>rfl
 | .dat _,_=>rfl
 | .aO i,h=>by have hi:i<900:=aJQ (by simpa [Ef,Nat.blt] using h);simp only [SE.den];rw [wJ hi,wJ hi]
theorem Gm (hF:Fle F F') {kn:List (Nat×SE)} (hk:Kn F F' lo kn): ∀{c:SB},okC kn c=true->c.den (bZ F lo)=c.den (bZ F' lo)
 | .lit _,_=>rfl
 | .lt a b,h=>by simp only [okC,aHg] at h; simp only [SB.den,iQ hF hk h.1,iQ hF hk h.2]
 | .le a b,h=>by simp only [okC,aHg] at h; simp only [SB.den,iQ hF hk h.1,iQ hF hk h.2]
 | .eq a b,h=>by simp only [okC,aHg] at h; simp only [SB.den,iQ hF hk h.1,iQ hF hk h.2]
 | .not a,h=>by simp only [okC] at h; simp only [SB.den,Gm hF hk h]
 | .and a b,h=>by simp only [okC,aHg] at h; simp only [SB.den,Gm hF hk h.1,Gm hF hk h.2]
theorem BX (hF:Fle F F') {kn:List (Nat×SE)} (hk:Kn F F' lo kn): ∀{es:List SE},amN kn es=true->es.map (SE.den (bZ F lo))=es.map (SE.den (bZ F' lo))
 |[],_=>rfl
 |e::l,h=>by simp only [amN,aHg] at h;simp only [aHo,iQ hF hk h.1,BX hF hk h.2]
theorem J8 {c:SB} {p:Nat×SE} (h:callOf c=some p):c= .eq (.ap (2*p.1) p.2) (.lit 1):=by
 cases c with
 |eq x y=>
  cases x with
  |ap f a=>
   cases y with
   |lit n=>
    simp only [callOf] at h;split at h
    ·rename_i hb;simp only [aHe] at h;simp only [aHg] at hb;have h1:=DW hb.1;have h2:=aHj hb.2;subst h;show SB.eq (.ap f a) (.lit n)= .eq (.ap (2*(f / 2)) a) (.lit 1);rw [show 2*(f / 2)=f by omega,h1]
    ·simp at h
   |_=>simp [callOf] at h
  |_=>simp [callOf] at h
 |_=>simp [callOf] at h
theorem FY (hF:Fle F F'): ∀{t:T Lf} {kn:List (Nat×SE)},Kn F F' lo kn->YK kn t=true->fD (bZ F lo) t≠.no->fD (bZ F' lo) t=fD (bZ F lo) t
 | .fail,_,_,_,h=>absurd rfl h
 | .ret (.out es),_,hk,ho,_=>by simp only [YK] at ho; simp only [fD,BX hF hk ho]
 | .ret (.jump j es),_,hk,ho,_=>by simp only [YK] at ho; simp only [fD,BX hF hk ho]
 | .split c x y,kn,hk,ho,h=>by
   simp only [YK] at ho;split at ho
   ·rename_i p hp;simp only [aHg] at ho;obtain⟨⟨h1,h2⟩,h3⟩:=ho;have hc:=J8 hp;subst hc
    have hy:y= .fail:=by cases y<;>simp [aBY] at h3<;>rfl
    subst hy;have hd:=iQ hF hk h1;simp only [fD,SB.den,SE.den] at h ⊢;by_cases h4:bZ F lo (kZ (2*p.1) (p.2.den (bZ F lo)))=1
    ·obtain⟨xs,ys,e1,e2⟩:=Tm h4;have e3:=hF _ _ _ e2
     have h5:bZ F' lo (kZ (2*p.1) (p.2.den (bZ F' lo)))=1:=by rw [<- hd,e1,(oP F' lo p.1 xs).1,e3];rfl
     have c4:(bZ F lo (kZ (2*p.1) (p.2.den (bZ F lo))) == 1)=true:=by rw [h4]; rfl
     have c5:(bZ F' lo (kZ (2*p.1) (p.2.den (bZ F' lo))) == 1)=true:=by rw [h5]; rfl
     simp only [c4,c5,if_true] at h ⊢;refine FY hF (kn:=p::kn) ?_ h2 h;intro q hq;rcases aHm.1 hq with rfl|hq
     ·exact⟨hd,xs,ys,e1,e2⟩
     ·exact hk q hq
    ·have c4:(bZ F lo (kZ (2*p.1) (p.2.den (bZ F lo))) == 1)=false:=by simpa using h4
     simp only [c4,aHv,if_false] at h;exact absurd rfl h
   ·simp only [aHg] at ho;obtain⟨⟨h1,h2⟩,h3⟩:=ho;have hc:=Gm hF hk h1;simp only [fD] at h ⊢;rw [<- hc];by_cases h4:c.den (bZ F lo)=true
    ·rw [aHd h4] at h ⊢;rw [aHd h4];exact FY hF hk h2 h
    ·rw [aHc h4] at h ⊢;rw [aHc h4];exact FY hF hk h3 h
end
section
variable {tree:Nat->T Lf} (hok: ∀j,YK [] (tree j)=true)
include hok
theorem Rk {n:Nat} {F':uN} (hF:Fle (fP tree n) F') {j:Nat} {xs ys:List Int} (h:fP tree (n+1) j xs=some ys) :
 (match fD (bZ F' (low xs)) (tree j) with
 | .no=>none
 | .out ys=>some ys
 | .jump j' xs'=>F' j' xs')=some ys:=by
 rw [F9] at h
 have hne:fD (bZ (fP tree n) (low xs)) (tree j)≠.no:=by intro he;rw [he] at h;simp at h
 rw [FY hF (kn:=[]) (by intro p hp; simp at hp) (hok j) hne];split at h
 ·simp at h
 ·rename_i heq; exact h
 ·rename_i heq; exact hF _ _ _ h
theorem Rl: ∀n,Fle (fP tree n) (fP tree (n+1))
 |0=>fun j xs ys h=>by simp [fP] at h
 |n+1=>fun j xs ys h=>by rw [F9 (n:=n+1)];exact Rk hok (Rl n) h
theorem Gf {n m:Nat} (h:n<=m):Fle (fP tree n) (fP tree m):=by
 induction h with
 |refl=>exact fun _ _ _ h=>h
 |step _ ih=>exact fun j xs ys h=>Rl hok _ _ _ _ (ih _ _ _ h)
end
open Classical in
noncomputable def lim' (tree:Nat->T Lf):uN:=fun j xs=>if h: ∃n ys,fP tree n j xs=some ys then some h.choose_spec.choose else none
section
variable {tree:Nat->T Lf} (hok: ∀j,YK [] (tree j)=true)
include hok
theorem ZO {n j:Nat} {xs ys:List Int} (h:fP tree n j xs=some ys):lim' tree j xs=some ys:=by unfold lim';have he: ∃n ys,fP tree n j xs=some ys:=⟨n,ys,h⟩;rw [dif_pos he];have h2:=he.choose_spec.choose_spec;have h3:=Gf hok (Nat.le_max_left n he.choose) _ _ _ h;have h4:=Gf hok (Nat.le_max_right n he.choose) _ _ _ h2;rw [h3] at h4;exact h4.symm
omit hok in
theorem UY {j:Nat} {xs ys:List Int} (h:lim' tree j xs=some ys): ∃n,fP tree n j xs=some ys:=by
 unfold lim' at h;split at h
 ·rename_i he;simp only [aHe] at h;exact⟨he.choose,by rw [<- h]; exact he.choose_spec.choose_spec⟩
 ·simp at h
theorem NY (n:Nat):Fle (fP tree n) (lim' tree):=fun _ _ _ h=>ZO hok h
def KnS (tree:Nat->T Lf) (n0:Nat) (lo:Nat->Int) (kn:List (Nat×SE)):Prop:= ∀m,n0<=m->Kn (fP tree m) (lim' tree) lo kn
theorem BG {lo:Nat->Int}: ∀{t:T Lf} {kn:List (Nat×SE)} (n0:Nat),KnS tree n0 lo kn->YK kn t=true->fD (bZ (lim' tree) lo) t≠.no->∃n,∀m,n<=m->fD (bZ (fP tree m) lo) t=fD (bZ (lim' tree) lo) t
 | .fail,_,_,_,_,h=>absurd rfl h
 | .ret (.out es),_,n0,hk,ho,_=> ⟨n0,fun m hm=>by simp only [YK] at ho; simp only [fD,BX (NY hok m) (hk m hm) ho]⟩
 | .ret (.jump j es),_,n0,hk,ho,_=> ⟨n0,fun m hm=>by simp only [YK] at ho; simp only [fD,BX (NY hok m) (hk m hm) ho]⟩
 | .split c x y,kn,n0,hk,ho,h=>by
   simp only [YK] at ho;split at ho
   ·rename_i p hp;simp only [aHg] at ho;obtain⟨⟨h1,h2⟩,h3⟩:=ho;have hc:=J8 hp;subst hc
    have hy:y= .fail:=by cases y<;>simp [aBY] at h3<;>rfl
    subst hy;have hd: ∀m,n0<=m->p.2.den (bZ (fP tree m) lo)=p.2.den (bZ (lim' tree) lo):=fun m hm=>iQ (NY hok m) (hk m hm) h1;simp only [fD,SB.den,SE.den] at h ⊢;by_cases h4:bZ (lim' tree) lo (kZ (2*p.1) (p.2.den (bZ (lim' tree) lo)))=1
    ·have c4:(bZ (lim' tree) lo (kZ (2*p.1) (p.2.den (bZ (lim' tree) lo))) == 1)=true:=by rw [h4]; rfl
     obtain⟨xs,ys,e1,e2⟩:=Tm h4;obtain⟨n1,e3⟩:=UY e2;simp only [c4,if_true] at h ⊢
     have hk2:KnS tree (max n0 n1) lo (p::kn):=by
      intro m hm q hq;rcases aHm.1 hq with rfl|hq
      ·refine⟨hd m (by omega),xs,ys,by rw [hd m (by omega)]; exact e1,Gf hok (show n1<=m by omega) _ _ _ e3⟩
      ·exact hk m (by omega) q hq
     obtain⟨n2,h5⟩:=BG (max n0 n1) hk2 h2 h;refine⟨max (max n0 n1) n2,fun m hm=>?_⟩
     have c5:(bZ (fP tree m) lo (kZ (2*p.1) (p.2.den (bZ (fP tree m) lo))) == 1)=true:=by rw [hd m (by omega),e1,(oP (fP tree m) lo p.1 xs).1,Gf hok (show n1<=m by omega) _ _ _ e3];rfl
     simp only [c5,if_true];exact h5 m (by omega)
    ·have c4:(bZ (lim' tree) lo (kZ (2*p.1) (p.2.den (bZ (lim' tree) lo))) == 1)=false:=by simpa using h4
     simp only [c4,aHv,if_false] at h;exact absurd rfl h
   ·simp only [aHg] at ho;obtain⟨⟨h1,h2⟩,h3⟩:=ho;have hc: ∀m,n0<=m->c.den (bZ (fP tree m) lo)=c.den (bZ (lim' tree) lo):=fun m hm=>Gm (NY hok m) (hk m hm) h1;simp only [fD] at h ⊢;by_cases h4:c.den (bZ (lim' tree) lo)=true
    ·rw [aHd h4] at h;obtain⟨n2,h5⟩:=BG n0 hk h2 h;refine⟨max n0 n2,fun m hm=>?_⟩;rw [hc m (by omega),aHd h4,aHd h4];exact h5 m (by omega)
    ·rw [aHc h4] at h;obtain⟨n2,h5⟩:=BG n0 hk h3 h;refine⟨max n0 n2,fun m hm=>?_⟩;rw [hc m (by omega),aHc h4,aHc h4];exact h5 m (by omega)
noncomputable def fin (F:uN):RS->Option (List Int)
 | .no=>none
 | .out ys=>some ys
 | .jump j xs=>F j xs
theorem aBR (j:Nat) (xs:List Int):lim' tree j xs=fin (lim' tree) (fD (bZ (lim' tree) (low xs)) (tree j)):=by
 cases h:lim' tree j xs with
 |some ys=>
  obtain⟨n,hn⟩:=UY h
  cases n with
  |zero=>simp [fP] at hn
  |succ n=> have:=Rk hok (NY hok n) hn;rw [<- this];cases fD (bZ (lim' tree) (low xs)) (tree j)<;>rfl
 |none=>
  cases hs:fD (bZ (lim' tree) (low xs)) (tree j) with
  |no=>rfl
  |out ys=>
   exfalso;obtain⟨n,hn⟩:=BG hok (lo:=low xs) (t:=tree j) (kn:=[]) 0 (by intro m _ p hp; simp at hp) (hok j) (by rw [hs]; simp);have:fP tree (n+1) j xs=some ys:=by rw [F9,hn n (aHh _),hs]
   rw [ZO hok this] at h;simp at h
  |jump j' xs'=>
   show none=lim' tree j' xs'
   cases h2:lim' tree j' xs' with
   |none=>rfl
   |some ys=>
    exfalso;obtain⟨n,hn⟩:=BG hok (lo:=low xs) (t:=tree j) (kn:=[]) 0 (by intro m _ p hp; simp at hp) (hok j) (by rw [hs]; simp);obtain⟨n2,h3⟩:=UY h2
    have:fP tree (max n n2+1) j xs=some ys:=by rw [F9,hn _ (Nat.le_max_left _ _),hs];exact Gf hok (Nat.le_max_right n n2) _ _ _ h3
    rw [ZO hok this] at h;simp at h
end
theorem agF {S:aiP} {j:Nat} (h:AZ S.t j=none):YK [] (S.sys.tree j)=true:=by
 have:S.sys.tree j= .fail:=by unfold Sys.tree;show (match AZ S.t j with |none=>T.fail|some e=>sV S.sys e)=_;rw [h]
 rw [this];rfl
def anU (j:Nat):List Nat->Bool
 |[]=>false
 |i::l=>match Nat.beq i j with
  |true=>true
  |false=>anU j l
theorem XB {j:Nat}: ∀{l:List Nat},anU j l=true->j∈l
 |[],h=>by simp [anU] at h
 |i::l,h=>by
  simp only [anU] at h;split at h
  ·rename_i hb;rw [aHj hb];simp
  ·exact aH8 _ (XB h)
def aAq (t:Nat->Option FE) (N:Nat) (l:List Nat):Bool:=(List.range N).all fun k=>match t k with
 |none=>true
 |some f=>(List.range (f.loops.length+1)).all fun i=>anU (50*k+i) l
theorem cov {t:Nat->Option FE} {N:Nat} {l:List Nat} (h:aAq t N l=true) (hN: ∀k,N<=k->t k=none) {j:Nat} {e:Ip} (he:AZ t j=some e):j∈l:=by
 unfold AZ at he;split at he
 ·simp at he
 ·rename_i f hf
  have hk:j / 50<N:=by
   rcases aHw (j / 50) N with h1|h1
   ·exact h1
   ·rw [hN _ h1] at hf; simp at hf
  have:=aHz.1 h _ (aH5.2 hk);rw [hf] at this
  have hm:j % 50<f.loops.length+1:=by
   split at he
   ·omega
   ·rename_i i hi;split at he
    ·rename_i x hx;rw [dI] at hx;have:=(aHB.1 hx).1;omega
    ·simp at he
  have:=XB (aHz.1 this _ (aH5.2 hm));rwa [show 50*(j / 50)+j % 50=j by omega] at this
theorem anH {α:Type} {n:Nat} {t:Tr α} {k:Nat} (h:n<=k):lim n t k=none:=by unfold lim;rw [aI1 h]
section
variable {F:uN} {lo:Nat->Int} {ρ:Nat->Int} {xs:List Int}
theorem fC (c:SB) (a b:T Lf):fD ρ (sp c a b)=if c.den ρ=true then fD ρ a else fD ρ b:=rfl
theorem mZ (l:List SE):fD ρ (ou l)= .out (l.map (SE.den ρ)):=rfl
theorem pF (j:Nat) (l:List SE):fD ρ (ju j l)= .jump j (l.map (SE.den ρ)):=rfl
theorem IE:fD ρ fl= .no:=rfl
theorem aZ {i:Nat} (h:i<900):(SE.aO i).den (bZ F lo)=lo i:=wJ h
theorem aP (x:Int):low (x::xs) 0=x:=rfl
theorem aT (x:Int) (i:Nat):low (x::xs) (i+1)=low xs i:=rfl
theorem dF (n:Int):(SE.lit n).den ρ=n:=rfl
theorem jJ (d:D):(SE.dat d).den ρ=enc d:=rfl
theorem den_add (a b:SE):(SE.add a b).den ρ=a.den ρ+b.den ρ:=rfl
theorem axL (a b:SE):(SE.sub a b).den ρ=a.den ρ-b.den ρ:=rfl
theorem CV (a:SE):(wr a).den ρ=IntKind.i64.wrap (a.den ρ):=rfl
theorem OX (a:SE):(nm a).den ρ=(dec (a.den ρ)).n:=rfl
theorem VP (a:SE):(mk a).den ρ=enc (.i (a.den ρ)):=rfl
theorem jG (a:SE):(ln a).den ρ=((dec (a.den ρ)).l.length:Int):=rfl
theorem arT (j:Nat) (a:SE):(ce j a).den ρ=enc ((dec (a.den ρ)).hd j):=rfl
theorem OY (a b:SE):(el a b).den ρ=enc ((dec (a.den ρ)).at (b.den ρ)):=rfl
theorem VQ (a b:SE):(cn a b).den ρ=enc (.p (dec (a.den ρ)) (dec (b.den ρ))):=rfl
theorem VO (o:jC) (a b:SE):(SE.op o a b).den ρ=o.den (a.den ρ) (b.den ρ):=rfl
theorem jK (j:Nat) (l:List SE):(a0 j l).den (bZ F lo)=if (F j (l.map (SE.den (bZ F lo)))).isSome=true then 1 else 0:=by unfold a0;show bZ F lo (kZ (2*j) ((iY l).den (bZ F lo)))=_;rw [lX,(oP F lo j _).1]
theorem jD (j:Nat) (l:List SE) (i:Nat):(rr j l i).den (bZ F lo)=low ((F j (l.map (SE.den (bZ F lo)))).getD []) i:=by unfold rr uS;show (dec (enc ((dec (bZ F lo (kZ (2*j+1) ((iY l).den (bZ F lo))))).hd i))).n=_;rw [lX,(oP F lo j _).2,aC];simp only [qU,aC,D.hd,aA,aHG];unfold low;rw [aID];cases ((F j (l.map (SE.den (bZ F lo)))).getD [])[i]?<;>rfl
theorem jI (a b:SE):((SB.eq a b).den ρ=true)=(a.den ρ=b.den ρ):=by simp [SB.den]
theorem rU (a b:SE):((SB.lt a b).den ρ=true)=(a.den ρ<b.den ρ):=by simp [SB.den]
theorem IJ (a:SB):((SB.not a).den ρ=true)= ¬(a.den ρ=true):=by simp [SB.den]
end
def oG:IntKind->Int->Prop
 | .i64,n=> -9223372036854775808<=n/\n<=9223372036854775807
 | .u8,n=>0<=n/\n<=255
 |_,_=>True
def CZ:Nat->Nat
 |0=>8
 |1=>8
 |2=>16
 |3=>56
 |4=>64
 |5=>64
 |6=>56
 |7=>80
 |8=>64
 |9=>40
 |10=>24
 |11=>24
 |12=>16
 |13=>40
 |14=>1
 |15=>24
 |16=>48
 |_=>1
theorem asN (t:Nat):1<=CZ t:=by unfold CZ;split<;>omega
inductive Wd:CK->D->Prop where
 |int (k:IntKind) (n:Int) (h:oG k n):Wd (.int k) (.i n)
 |bool (b:Bool):Wd .bool (.i (if b then 1 else 0))
 |str (s:ByteArray) (h:s.size<=140737488351232):Wd .str (Bd s)
 |nil (t:Nat):Wd (.sl t) (.i 1)
 |non (t:Nat):Wd (.sl t) (.i 2)
 |one (t:Nat) (c:CK) (ds:List D) (hr:rowOf t= .one c) (hn:ds≠[]) (hm:ds.length*CZ t<=140737488351232) (h: ∀d∈ds,Wd c d):Wd (.sl t) (dL ds)
 |many (t:Nat) (cs:List CK) (rows:List (List D)) (hr:rowOf t= .many cs) (hn:rows≠[]) (hm:rows.length*CZ t<=140737488351232) (hl: ∀r∈rows,r.length=cs.length)
  (h: ∀r∈rows,∀(j:Nat) (d:D) (c:CK),r[j]?=some d->cs[j]?=some c->Wd c d):Wd (.sl t) (dL (rows.map dL))
def Sh (d:D):Prop:=d= .i 1\/d= .i 2\/(d=dL d.l/\d.l≠[])
theorem Wd.sh {t:Nat} {d:D} (h:Wd (.sl t) d):Sh d:=by
 cases h with
 |nil=>exact .inl rfl
 |non=>exact .inr (.inl rfl)
 |one _ c ds hr hn hm h=>exact .inr (.inr ⟨by rw [aA],by rw [aA]; exact hn⟩)
 |many _ cs rows hr hn hm hl h=>exact .inr (.inr ⟨by rw [aA],by rw [aA]; simpa using hn⟩)
theorem Wd.i {k:IntKind} {d:D} (h:Wd (.int k) d): ∃n,d= .i n/\oG k n:=by
 cases h with
 |int _ n h=>exact⟨n,rfl,h⟩
theorem Wd.b {d:D} (h:Wd .bool d):d= .i 0\/d= .i 1:=by
 cases h with
 |bool b=>cases b<;>simp
theorem Wd.s {d:D} (h:Wd .str d): ∃s,d=Bd s:=by
 cases h with
 |str s=>exact⟨s,rfl⟩
theorem Wd.room {t:Nat} {d:D} (h:Wd (.sl t) d):d.l.length*CZ t<=140737488351232:=by
 cases h with
 |nil=>simp [D.l]
 |non=>simp [D.l]
 |one _ c ds hr hn hm h=>rw [aA]; exact hm
 |many _ cs rows hr hn hm hl h=>rw [aA,aH0]; exact hm
theorem Wd.len {t:Nat} {d:D} (h:Wd (.sl t) d):d.l.length<=140737488351232:=
 aHP (Nat.le_mul_of_pos_right _ (asN t)) h.room
theorem Wd.el1 {t:Nat} {c:CK} {d:D} (h:Wd (.sl t) d) (hr:rowOf t= .one c): ∀x∈d.l,Wd c x:=by
 cases h with
 |nil=>intro x hx; simp [D.l] at hx
 |non=>intro x hx; simp [D.l] at hx
 |one _ c' ds hr' hn hm h=> rw [hr] at hr';simp only [Row.one.injEq] at hr';subst hr';intro x hx;rw [aA] at hx;exact h x hx
 |many _ cs rows hr' hn hm hl h=>rw [hr] at hr'; simp at hr'
theorem Wd.elN {t:Nat} {cs:List CK} {d:D} (h:Wd (.sl t) d) (hr:rowOf t= .many cs): ∀x∈d.l,∃r,x=dL r/\r.length=cs.length/\∀(j:Nat) (y:D) (c:CK),r[j]?=some y->cs[j]?=some c->Wd c y:=by
 cases h with
 |nil=>intro x hx; simp [D.l] at hx
 |non=>intro x hx; simp [D.l] at hx
 |one _ c' ds hr' hn hm h=>rw [hr] at hr'; simp at hr'
 |many _ cs' rows hr' hn hm hl h=> rw [hr] at hr';simp only [Row.many.injEq] at hr';subst hr';intro x hx;rw [aA] at hx;obtain⟨r,h1,rfl⟩:=aHF.1 hx;exact⟨r,rfl,hl r h1,fun j y c h2 h3=>h r h1 j y c h2 h3⟩
def isDecl (x:D):Prop:= ∃(k n ln:Int) (s s':ByteArray),x=dL [.i k,Bd s,.i n,Bd s',.i ln]/\oG .u8 k/\oG .i64 n/\oG .i64 ln
def oM (x:D):Prop:= ∃(o c d g:Int) (r v:D),x=dL [.i o,.i c,.i d,.i g,r,v]/\oG .i64 o/\oG .i64 c/\(d=0\/d=1)/\oG .i64 g/\Wd (.sl 0) r/\Wd (.sl 0) v
theorem five {α:Type} {r:List α} (h:r.length=5): ∃a b c d e,r= [a,b,c,d,e]:=by
 match r,h with
 |[a,b,c,d,e],_=>exact⟨a,b,c,d,e,rfl⟩
theorem six {α:Type} {r:List α} (h:r.length=6): ∃a b c d e f,r= [a,b,c,d,e,f]:=by
 match r,h with
 |[a,b,c,d,e,f],_=>exact⟨a,b,c,d,e,f,rfl⟩
theorem Wd.decl {d:D} (h:Wd (.sl 3) d): ∀x∈d.l,isDecl x:=by intro x hx;obtain⟨r,rfl,hl,hc⟩:=h.elN (cs:=[.int .u8,.str,.int .i64,.str,.int .i64]) rfl x hx;obtain⟨a,b,c,d,e,rfl⟩:=five hl;obtain⟨k,rfl,hk⟩:=(hc 0 _ _ rfl rfl).i;obtain⟨s,rfl⟩:=(hc 1 _ _ rfl rfl).s;obtain⟨n,rfl,hn⟩:=(hc 2 _ _ rfl rfl).i;obtain⟨s',rfl⟩:=(hc 3 _ _ rfl rfl).s;obtain⟨ln,rfl,hln⟩:=(hc 4 _ _ rfl rfl).i;exact⟨k,n,ln,s,s',rfl,hk,hn,hln⟩
theorem Wd.thing {d:D} (h:Wd (.sl 7) d): ∀x∈d.l,oM x:=by
 intro x hx;obtain⟨r,rfl,hl,hc⟩:=h.elN (cs:=[.int .i64,.int .i64,.bool,.int .i64,.sl 0,.sl 0]) rfl x hx;obtain⟨a,b,c,d,e,f,rfl⟩:=six hl;obtain⟨o,rfl,ho⟩:=(hc 0 _ _ rfl rfl).i;obtain⟨k,rfl,hk⟩:=(hc 1 _ _ rfl rfl).i;obtain⟨g,rfl,hg⟩:=(hc 3 _ _ rfl rfl).i;rcases (hc 2 _ _ rfl rfl).b with rfl|rfl
 ·exact⟨o,k,0,g,e,f,rfl,ho,hk,.inl rfl,hg,hc 4 _ _ rfl rfl,hc 5 _ _ rfl rfl⟩
 ·exact⟨o,k,1,g,e,f,rfl,ho,hk,.inr rfl,hg,hc 4 _ _ rfl rfl,hc 5 _ _ rfl rfl⟩
theorem jX {z:Int} (h1: -9223372036854775808<=z) (h2:z<=9223372036854775807):IntKind.i64.wrap z=z:=IntWalk.i64_in z ⟨h1,h2⟩
theorem aX {n:Nat} (h:n<9223372036854775807):IntKind.i64.wrap ((n:Int)+1)=((n+1:Nat):Int):=by rw [jX (by omega) (by omega)]; omega
theorem ZJ (n:Int):(D.i n).n=n:=rfl
theorem l_p (a b:D):(D.p a b).l=a::b.l:=rfl
theorem zF (n:Int):(D.i n).l= []:=rfl
theorem iV (l:List D) (j:Nat):(dL l).hd j=(l[j]?).getD (.i 0):=by unfold D.hd; rw [aA]
theorem gU (d:D) (i:Nat):d.at (i:Int)=(d.l[i]?).getD (.i 0):=rfl
theorem bF {d:D} {i:Nat} (h:i<d.l.length):d.at (i:Int)=d.l[i]:=by rw [gU,aHu h];rfl
end Go.As
end
section
namespace Go.As
open Go Go.RowKit
theorem add_add (a:Addr) (m n:Nat):(a.add m).add n=a.add (m+n):=by
 unfold Addr.add;by_cases h1:m=0
 ·subst h1; simp
 ·by_cases h2:n=0
  ·subst h2; simp
  ·simp [h1,h2,aHR]
def oU (i:Nat):List CK:=match rowOf i with
 | .one c=>[c]
 | .many cs=>cs
def Ot (F:TypeId->Option (List CK)) (P:Program):List Field->Nat->Nat->Option (List CK)
 |[],o,tot=>if o=tot then some [] else none
 |f::fs,o,tot=>match F f.type with
  |none=>none
  |some cs=>if f.offset=o/\P.cellsOf f.type=cs.length then (match Ot F P fs (o+cs.length) tot with
   |none=>none
   |some l=>some (cs++l)) else none
def yX (P:Program) (own:TypeId->Option Nat):Nat->TypeId->Option (List CK)
 |0,_=>none
 |n+1,t=>match P.underlying t with
  |some .bool=>some [.bool]
  |some (.int k)=>some [.int k]
  |some .string=>some [.str]
  |some (.slice _)=>match own t with
   |some i=>some [.sl i]
   |none=>none
  |some (.struct fs)=>Ot (yX P own n) P fs.toList 0 (P.cellsOf t)
  |some (.array m e)=>match yX P own n e with
   |some cs=>if P.cellsOf e=cs.length/\P.cellsOf t=m*cs.length then some (List.replicate m cs).flatten else none
   |none=>none
  |_=>none
def atC (P:Program) (own:TypeId->Option Nat):Prop:= ∀t i,own t=some i->∃e n,P.underlying t=some (.slice e)/\yX P own n e=some (oU i)/\P.cellsOf e=(oU i).length/\CZ i<=P.bytesOf e/\0<(oU i).length
inductive Rs (ro:Nat->Prop) (h:Array Obj):List CK->List D->List Value->Prop where
 |nil:Rs ro h [] [] []
 |cons {c:CK} {d:D} {v:Value} {cs:List CK} {ds:List D} {vs:List Value} (r:Rd ro h c d v) (w:Wd c d) (t:Rs ro h cs ds vs):Rs ro h (c::cs) (d::ds) (v::vs)
section
variable {ro:Nat->Prop} {h:Array Obj}
theorem Rs.append {cs cs':List CK} {ds ds':List D} {vs vs':List Value} (a:Rs ro h cs ds vs) (b:Rs ro h cs' ds' vs'):Rs ro h (cs++cs') (ds++ds') (vs++vs'):=by
 induction a with
 |nil=>exact b
 |cons r w _ ih=>exact .cons r w ih
theorem Rs.len {cs:List CK} {ds:List D} {vs:List Value} (a:Rs ro h cs ds vs):ds.length=cs.length/\vs.length=cs.length:=by
 induction a with
 |nil=>exact⟨rfl,rfl⟩
 |cons r w _ ih=>exact⟨by simp [ih.1],by simp [ih.2]⟩
theorem Rs.at {cs:List CK} {ds:List D} {vs:List Value} (a:Rs ro h cs ds vs): ∀{j:Nat} {d:D} {c:CK},ds[j]?=some d->cs[j]?=some c->∃v,vs[j]?=some v/\Rd ro h c d v/\Wd c d:=by
 induction a with
 |nil=>intro j d c h1 _; simp at h1
 |cons r w _ ih=>
  intro j d c h1 h2
  cases j with
  |zero=> simp only [aHA,aHe] at h1 h2;subst h1 h2;exact⟨_,rfl,r,w⟩
  |succ j=> simp only [aHp] at h1 h2;obtain⟨v,h3,h4⟩:=ih h1 h2;exact⟨v,by simpa using h3,h4⟩
end
theorem axY {l:List Nat} {m:Nat} (h:l.all (·<=m)=true): ∀x∈l,x<=m:=fun x hx=>by simpa using aHz.1 h x hx
theorem ZE {l:List Nat} {m:Nat} (h: ∀x∈l,x<=m):l.all (·<=m)=true:=aHz.2 fun x hx=>by simpa using h x hx
theorem axX {l l':List Nat} {m:Nat} (h:l.all (·<=m)=true) (s: ∀x∈l',x∈l):l'.all (·<=m)=true:=ZE fun x hx=>axY h x (s x hx)
theorem weightsAll_mem {H:Type} {P:Program} {e:TypeId}: ∀{l:List (DataW H)} {d:DataW H},d∈l->∀x∈d.weights P e,x∈DataW.weightsAll P e l
 |[],_,h,_,_=>by simp at h
 |d'::l,d,h,x,hx=>by
  simp only [DataW.weightsAll,aH1];rcases aHm.1 h with rfl|h
  ·exact .inl hx
  ·exact .inr (weightsAll_mem h x hx)
section
variable {P:Program} {own:TypeId->Option Nat} (ok:atC P own) {H:Type} {en:TypeId×Value->H} {W:World}
abbrev Zu (W:World):Nat->Prop:=fun b=>b<W.heap.size
theorem afX {b o:Nat} {v:Value} (h:W.cell? ⟨b,o,none⟩ = some v):b<W.heap.size:=by
 rw [uK] at h;unfold hcell at h;split at h
 ·rename_i hb;exact (aHN.1 hb).1
 ·simp at h
def Reads (P:Program) (own:TypeId->Option Nat) (en:TypeId×Value->H) (W:World) (fuel:Nat):Prop:=
 ∀(t:TypeId) (n:Nat) (P7:List CK) (cs:List Value) (x:DataW H×List MemPlace),yX P own n t=some P7->DataW.trod en P W 0 (fun _=>true) true fuel t cs=some x->(x.1.weights P t).all (·<=reachBytes)=true->∃ds,Rs (Zu W) W.heap P7 ds cs
theorem JK {fuel:Nat} (ih:Reads P own en W fuel) {n:Nat} {cs:List Value} {tot:Nat} (hl:cs.length=tot): ∀(fs:List Field) (o:Nat) (P7:List CK) (xs:List (DataW H×List MemPlace)),Ot (yX P own n) P fs o tot=some P7->xs.length=fs.length->
 (∀(i:Nat) (f:Field),fs[i]?=some f->DataW.trod en P W 0 (fun _=>true) true fuel f.type ((cs.drop f.offset).take (P.cellsOf f.type))=xs[i]?)->
 (DataW.weightsEach P (fs.map (·.type)) (xs.map (·.1))).all (·<=reachBytes)=true->∃ds,Rs (Zu W) W.heap P7 ds (cs.drop o)
 |[],o,P7,xs,hf,_,_,_=>by
  simp only [Ot] at hf;split at hf
  ·rename_i ho;simp only [aHe] at hf;subst hf;rw [aHE (by omega)];exact⟨[],.nil⟩
  ·simp at hf
 |f::fs,o,P7,[],_,hx,_,_=>by simp at hx
 |f::fs,o,P7,x::xs,hf,hx,ht,hw=>by
  simp only [Ot] at hf;split at hf
  ·simp at hf
  ·rename_i c1 h1;split at hf
   ·rename_i ho;split at hf
    ·simp at hf
    ·rename_i l hl2;simp only [aHe] at hf;subst hf;have h0:=ht 0 f rfl;rw [ho.1,ho.2] at h0;simp only [aHo,DataW.weightsEach,aJn,aHg] at hw;obtain⟨ds,r1⟩:=ih f.type n c1 _ x h1 h0 hw.1;obtain⟨ds',r2⟩:=JK ih hl fs (o+c1.length) l xs hl2 (by simpa using hx) (fun i g hg=>ht (i+1) g (by simpa using hg)) hw.2;refine⟨ds++ds',?_⟩
     have e:cs.drop o=(cs.drop o).take c1.length++cs.drop (o+c1.length):=by rw [<- aJK,aIs]
     rw [e];exact r1.append r2
   ·simp at hf
include ok in
theorem Xa {fuel:Nat} (ih:Reads P own en W fuel) {t e:TypeId} {i:Nat} (ht:P.underlying t=some (.slice e)) (ho:own t=some i) {cs:List Value} {x:DataW H×List MemPlace} (hx:DataW.trod en P W 0 (fun _=>true) true (fuel+1) t cs=some x) (hw:(x.1.weights P t).all (·<=reachBytes)=true) :
 ∃d v,cs= [v]/\Rd (Zu W) W.heap (.sl i) d v/\Wd (.sl i) d:=by
 obtain⟨e',nf,ht',hfl,hce,hby,hpos⟩:=ok t i ho;rw [ht] at ht';simp only [aHe,TypeDesc.slice.injEq] at ht';subst ht';rcases DataW.trod_slice ht hx with ⟨rfl,rfl⟩|⟨a,len,cap,elems,rest,n,hn,rfl,rfl,_,hlc,_,hlen,hel,_,_⟩
 ·exact⟨.i 1,_,rfl,.nil i,.nil i⟩
 ·simp only [Nat.succ.injEq] at hn;subst hn;rcases aIt len with h0|h0
  ·subst h0;exact⟨.i 2,_,rfl,.non i a cap,.non i⟩
  ·simp only [DataW.weights,ht,List.all_cons,aJn,aHg,decide_eq_true_eq,aH0] at hw
   have row: ∀k,k<len->∃cs ds,W.cells? 0 (a.add (k*(oU i).length)) (oU i).length=some cs/\Rs (Zu W) W.heap (oU i) ds cs:=by intro k hk;have he:=hel k hk;rw [aHu (by omega),hce,aI9] at he;obtain⟨cs,h1,h2⟩:=he;obtain⟨ds,hr⟩:=ih e nf (oU i) cs _ hfl h2 (axX hw.2.1 (weightsAll_mem (aJo (aHk _))));exact⟨cs,ds,h1,hr⟩
   obtain⟨b,o,spot⟩:=a
   have hspot:spot=none:=by obtain⟨cs,ds,h1,hr⟩:=row 0 h0;obtain⟨_,h4,h5⟩:=World.cells?_some h1;have:=h5 0 hpos;rw [aHu (by omega)] at this;simpa [Addr.add] using World.cell?_spot this
   subst hspot
   have cell: ∀k,k<len->∃ds vs,Rs (Zu W) W.heap (oU i) ds vs/\∀j,j<(oU i).length->hcell W.heap b (o+k*(oU i).length+j)=vs[j]?:=by
    intro k hk;obtain⟨cs,ds,h1,hr⟩:=row k hk;obtain⟨_,h4,h5⟩:=World.cells?_some h1;refine⟨ds,cs,hr,fun j hj=>?_⟩;have:=h5 j hj;rw [add_add] at this;have e2:(Addr.mk b o none).add (k*(oU i).length+j)=⟨b,o+k*(oU i).length+j,none⟩:=by simp [Addr.add,aHR]
    rw [e2,uK] at this;exact this
   have hb:b<W.heap.size:=by obtain⟨ds,vs,hr,hc⟩:=cell 0 h0;have:=hc 0 hpos;rw [aHu (by rw [hr.len.2]; exact hpos),<- uK] at this;exact afX this
   have ayQ:len*CZ i<=140737488351232:=by
    have h1:(elems.length+rest.length)*P.bytesOf e<=reachBytes:=hw.1
    have h2:len*CZ i<=(elems.length+rest.length)*P.bytesOf e:=aJB (by omega) hby
    have h3:reachBytes=140737488351232:=rfl;omega
   classical
   let ds:Nat->List D:=fun k=>if h:k<len then (cell k h).choose else [];let vs:Nat->List Value:=fun k=>if h:k<len then (cell k h).choose_spec.choose else []
   have spec: ∀k,k<len->Rs (Zu W) W.heap (oU i) (ds k) (vs k)/\∀j,j<(oU i).length->hcell W.heap b (o+k*(oU i).length+j)=(vs k)[j]?:=by intro k hk;have e1:ds k=(cell k hk).choose:=dif_pos hk;have e2:vs k=(cell k hk).choose_spec.choose:=dif_pos hk;rw [e1,e2];exact (cell k hk).choose_spec.choose_spec
   have get: ∀{k:Nat} {r:List D},((List.range len).map ds)[k]?=some r->k<len/\r=ds k:=by
    intro k r hk;rw [aHG] at hk
    have hk':k<len:=by
     rcases aHw k len with h|h
     ·exact h
     ·rw [aH2 (by simpa using h)] at hk; simp at hk
    rw [aIC hk'] at hk;simp only [aHV,aHe] at hk;exact⟨hk',hk.symm⟩
   cases hrow:rowOf i with
   |one c=>
    have hks:oU i= [c]:=by unfold oU; rw [hrow]
    have aE7: ∀{k:Nat} {d:D},((List.range len).map fun k=>(ds k).headD (.i 0))[k]?=some d->k<len/\d=(ds k).headD (.i 0):=by
     intro k d hk;rw [aHG] at hk
     have hk':k<len:=by
      rcases aHw k len with h|h
      ·exact h
      ·rw [aH2 (by simpa using h)] at hk; simp at hk
     rw [aIC hk'] at hk;simp only [aHV,aHe] at hk;exact⟨hk',hk.symm⟩
    have sp1: ∀k,k<len->∃d v,ds k= [d]/\hcell W.heap b (o+k)=some v/\Rd (Zu W) W.heap c d v/\Wd c d:=by
     intro k hk;obtain⟨hr,hc⟩:=spec k hk;rw [hks] at hr hc
     match hdk:ds k,hvk:vs k,hr with
     |[d],[v],.cons r w .nil=> have:=hc 0 (by simp);rw [hvk] at this;exact⟨d,v,rfl,by simpa using this,r,w⟩
    have e:len=((List.range len).map fun k=>(ds k).headD (.i 0)).length:=by simp
    have r:=Rd.one (ro:=Zu W) (h:=W.heap) i c b o cap ((List.range len).map fun k=>(ds k).headD (.i 0)) (fun k=>(vs k).headD undef) hrow (by rw [<- e]; exact hlc) hb
     (fun k d hd=>by
      obtain⟨hk,rfl⟩:=aE7 hd;obtain⟨hr,hc⟩:=spec k hk;rw [hks] at hr hc;have:=hc 0 (by simp)
      match hdk:ds k,hvk:vs k,hr with
      |[d],[v],.cons r w .nil=>
       rw [hvk] at this
       simpa using this)
     (fun k d hd=>by
      obtain⟨hk,rfl⟩:=aE7 hd;obtain⟨hr,hc⟩:=spec k hk;rw [hks] at hr
      match hdk:ds k,hvk:vs k,hr with
      |[d],[v],.cons r w .nil=>exact r)
    rw [<- e] at r;refine⟨_,_,rfl,r,.one i c _ hrow (fun h=>by have:=congrArg List.length h; simp at this; omega) (by rw [<- e]; exact ayQ) fun d hd=>?_⟩;obtain⟨k,hk,rfl⟩:=aHF.1 hd;obtain⟨d,v,h1,_,_,w⟩:=sp1 k (by simpa using hk);rw [h1];exact w
   |many P7=>
    have hks:oU i=P7:=by unfold oU; rw [hrow]
    have e:len=((List.range len).map ds).length:=by simp
    have hlr: ∀r∈(List.range len).map ds,r.length=P7.length:=by intro r hr;obtain⟨k,hk,rfl⟩:=aHF.1 hr;have:=(spec k (by simpa using hk)).1.len.1;rw [hks] at this;exact this
    have r:=Rd.many (ro:=Zu W) (h:=W.heap) i P7 b o cap ((List.range len).map ds) (fun k j=>((vs k)[j]?).getD undef) hrow (by rw [<- e]; exact hlc) hb hlr
     (fun k r j d hr hj=>by
      obtain⟨hk,rfl⟩:=get hr;obtain⟨hrs,hc⟩:=spec k hk;rw [hks] at hrs hc
      have hj':j<P7.length:=by have:=(aHB.1 hj).1;rw [hrs.len.1] at this;exact this
      rw [hc j hj',aHu (by rw [hrs.len.2]; exact hj')]
      rfl)
     (fun k r j d c hr hj hcj=>by
      obtain⟨hk,rfl⟩:=get hr;obtain⟨hrs,hc⟩:=spec k hk;rw [hks] at hrs;obtain⟨v,h1,h2,_⟩:=hrs.at hj hcj;show Rd (Zu W) W.heap c d (((vs k)[j]?).getD undef);rw [h1]
      exact h2)
    rw [<- e] at r;refine⟨_,_,rfl,r,.many i P7 _ hrow (fun h=>by have:=congrArg List.length h; simp at this; omega) (by rw [<- e]; exact ayQ) hlr fun r hr j d c hj hcj=>?_⟩;obtain⟨k,hk,rfl⟩:=aHF.1 hr;have hrs:=(spec k (by simpa using hk)).1;rw [hks] at hrs;obtain⟨v,_,_,h3⟩:=hrs.at hj hcj;exact h3
theorem Nh {fuel:Nat} (ih:Reads P own en W fuel) {n:Nat} {cs:List Value} {e:TypeId} {c1:List CK} (h1:yX P own n e=some c1): ∀(xs:List (DataW H×List MemPlace)) (i:Nat),cs.length=(i+xs.length)*c1.length->
 (∀(j:Nat),j<xs.length->DataW.trod en P W 0 (fun _=>true) true fuel e ((cs.drop ((i+j)*c1.length)).take c1.length)=xs[j]?)->
 (DataW.weightsAll P e (xs.map (·.1))).all (·<=reachBytes)=true->∃ds,Rs (Zu W) W.heap (List.replicate xs.length c1).flatten ds (cs.drop (i*c1.length))
 |[],i,hl,_,_=>by rw [aHE (by rw [hl]; simp)];exact⟨[],.nil⟩
 |x::xs,i,hl,ht,hw=>by
  have h0:=ht 0 (by simp);rw [aHJ] at h0;simp only [aHo,DataW.weightsAll,aJn,aHg] at hw;obtain⟨ds,r1⟩:=ih e n c1 _ x h1 h0 hw.1
  obtain⟨ds',r2⟩:=Nh ih h1 xs (i+1) (by rw [hl,aHq]; congr 1; omega) (fun j hj=>by
   have:=ht (j+1) (by simpa using hj);rw [show i+1+j=i+(j+1) by omega]
   simpa using this) hw.2
  refine⟨ds++ds',?_⟩
  have e1:cs.drop (i*c1.length)=(cs.drop (i*c1.length)).take c1.length++cs.drop ((i+1)*c1.length):=by rw [Nat.succ_mul,<- aJK,aIs]
  rw [e1,aHq,aJL,List.flatten_cons];exact r1.append r2
include ok in
theorem Uz: ∀fuel:Nat,Reads P own en W fuel
 |0=>fun t n P7 cs x _ hx _=>by simp [DataW.trod] at hx
 |fuel+1=>fun t n P7 cs x hf hx hw=>by
  cases n with
  |zero=>simp [yX] at hf
  |succ n=>
   unfold yX at hf;split at hf
   ·rename_i ht;simp only [aHe] at hf;subst hf;obtain⟨b,rfl,_⟩:=DataW.trod_bool ht hx;exact⟨_,.cons (.bool b) (.bool b) .nil⟩
   ·rename_i k ht;simp only [aHe] at hf;subst hf;obtain⟨z,rfl,_,hwf⟩:=DataW.trod_int ht hx;refine⟨_,.cons (.int k z) (.int k z ?_) .nil⟩;simp only [Lit.wf,aHg,decide_eq_true_eq] at hwf;cases k<;>first |exact hwf|trivial
   ·rename_i ht;simp only [aHe] at hf;subst hf;obtain⟨s,rfl,rfl,_⟩:=DataW.trod_string ht hx;refine⟨_,.cons (.str s) (.str s ?_) .nil⟩;simp only [DataW.weights,List.all_cons,List.all_nil,Bool.and_true,decide_eq_true_eq] at hw;exact hw
   ·rename_i e ht;split at hf
    ·rename_i i ho;simp only [aHe] at hf;subst hf;obtain⟨d,v,rfl,r,w⟩:=Xa ok (Uz fuel) ht ho hx hw;exact⟨_,.cons r w .nil⟩
    ·simp at hf
   ·rename_i fs ht;obtain⟨xs,m,hm,rfl,hl,hxl,hxs⟩:=DataW.trod_struct ht hx;simp only [Nat.succ.injEq] at hm;subst hm
    have hw':(DataW.weightsEach P (fs.toList.map (·.type)) (xs.map (·.1))).all (·<=reachBytes)=true:=by simp only [DataW.weights,ht] at hw;exact hw
    have:=JK (Uz fuel) hl fs.toList 0 P7 xs hf (by simpa using hxl) (fun i f hi=>hxs i f (by simpa using hi)) hw';simpa using this
   ·rename_i m e ht;split at hf
    ·rename_i c1 h1;split at hf
     ·rename_i hce;simp only [aHe] at hf;subst hf;obtain⟨xs,m',hm,rfl,hl,hxl,hxs⟩:=DataW.trod_array ht hx;simp only [Nat.succ.injEq] at hm;subst hm;subst hxl
      have hw':(DataW.weightsAll P e (xs.map (·.1))).all (·<=reachBytes)=true:=by simp only [DataW.weights,ht] at hw;exact hw
      rw [hce.2] at hl
      have:=Nh (Uz fuel) h1 xs 0 (by rw [hl,aHn]) (fun j hj=>by
       rw [aHn];have:=hxs j hj;rw [hce.1] at this
       exact this) hw'
      simpa using this
     ·simp at hf
    ·simp at hf
   ·simp at hf
end
end Go.As
end
section
namespace Go.As.Try
open Go hiding Stat
open Go.As Go.Proofs
set_option maxRecDepth 100000
abbrev nO {α:Type} (l r:Tr α):Tr α:=.node none l r
abbrev nS {α:Type} (v:α) (l r:Tr α):Tr α:=.node (some v) l r
abbrev nL {α:Type} (v:α):Tr α:=.node (some v) .nil .nil
abbrev hP (m n:Nat) (l:List Nat):Kz:=⟨m,.pa,n,l⟩
abbrev hR (m n:Nat) (l:List Nat):Kz:=⟨m,.r,n,l⟩
abbrev hE (m n:Nat) (l:List Nat):Kz:=⟨m,.e,n,l⟩
abbrev tF:TI:=⟨.func,1,8,[.Cb],false,none⟩
abbrev zI:AV:=.int .i64 (.lit 0)
abbrev zU:AV:=.int .u8 (.lit 0)
def tab:Tr TI:=(nO (nS tF (nS ⟨.int .i64,1,8,[zI],false,none⟩ (nS ⟨.struct [(0,2,1),(1,3,1),(2,4,1),(3,6,1)],4,24,[zI,zI,.bool (.lit false),zU],true,none⟩ (nS ⟨.pointer 231,1,8,[.lH],false,none⟩ (nS tF (nS tF (nL tF) (nL ⟨.array 23 9,23,368,(repeatL [.str []] 23),false,none⟩)) (nS tF (nL tF) (nL ⟨.array 65 5,65,65,(repeatL [zU] 65),false,none⟩))) (nS ⟨.slice 9,1,24,[.aY],false,none⟩ (nS ⟨.map 36 77,1,8,[.rO],false,none⟩ (nL tF) (nL tF)) (nS tF (nL tF) (nL ⟨.int .i32,1,4,[.int .i32 (.lit (0))],false,none⟩)))) (nS ⟨.slice 50,1,24,[.aY],false,none⟩ (nS ⟨.int .u8,1,1,[zU],false,none⟩ (nS tF (nL ⟨.struct [(0,3,1),(1,4,1),(2,4,1)],3,16,[zI,.bool (.lit false),.bool (.lit false)],true,none⟩) .nil) (nS tF (nL ⟨.struct [(0,165,1),(1,36,1),(2,9,1),(3,9,1),(4,2,1),(5,52,1),(6,128,1),(7,128,1),(8,3,1)],9,128,[zU,zU,.str [],.str [],zI,.aY,.aY,.aY,zI],false,none⟩) (nL ⟨.struct [(0,17,1),(1,17,1),(2,17,1),(3,9,1)],4,40,[.lH,.lH,.lH,.str []],false,none⟩))) (nS ⟨.int .u8,1,1,[zU],false,none⟩ (nS ⟨.struct [(0,22,1),(1,85,1)],2,48,[.aY,.aY],false,none⟩ (nL tF) .nil) (nS ⟨.struct [(0,118,1),(1,9,1),(2,2,1),(3,3,1),(4,3,1),(5,3,1)],6,56,[zU,.str [],zI,zI,zI,zI],true,none⟩ (nL ⟨.array 256 5,256,256,(repeatL [zU] 256),false,none⟩) .nil)))) (nS ⟨.string,1,16,[.str []],false,none⟩ (nS ⟨.struct [(0,17,1)],1,8,[.lH],false,none⟩ (nS tF (nS tF (nL tF) (nL tF)) (nS ⟨.slice 68,1,24,[.aY],false,none⟩ (nL tF) (nL tF))) (nS ⟨.int .u8,1,1,[zU],false,none⟩ (nO (nL ⟨.pointer 149,1,8,[.lH],false,none⟩) (nL ⟨.array 24 5,24,24,(repeatL [zU] 24),false,none⟩)) (nS tF (nL tF) .nil))) (nS ⟨.slice 45,1,24,[.aY],false,none⟩ (nS ⟨.struct [(0,36,1),(1,3,1),(2,2,1),(3,2,1)],4,32,[zU,zI,zI,zI],true,none⟩ (nS ⟨.struct [(0,3,1),(1,74,1),(2,2,1),(3,26,1),(4,43,4)],8,80,[zI,.lH,zI,.aY,zU,zI,zI,zI],false,none⟩ (nL ⟨.map 9 3,1,8,[.rO],false,none⟩) (nL tF)) (nS tF (nL ⟨.pointer 174,1,8,[.lH],false,none⟩) (nL ⟨.int .u8,1,1,[zU],false,none⟩))) (nS ⟨.slice 3,1,24,[.aY],false,none⟩ (nS tF (nL tF) (nL ⟨.int .u64,1,8,[.int .u64 (.lit (0))],false,none⟩)) (nS tF (nL tF) .nil))))) (nS ⟨.int .u8,1,1,[zU],false,none⟩ (nS ⟨.string,1,16,[.str []],false,none⟩ (nS ⟨.pointer 242,1,8,[.lH],false,none⟩ (nS tF (nS tF (nL ⟨.struct [(0,9,1),(1,128,1),(2,3,1)],3,48,[.str [],.aY,zI],false,none⟩) (nL tF)) (nS tF (nL tF) .nil)) (nS ⟨.struct [(0,9,1),(1,47,1),(2,48,1)],3,64,[.str [],.aY,.aY],false,none⟩ (nS ⟨.int .u8,1,1,[zU],false,none⟩ (nL tF) (nL tF)) (nS tF (nL tF) (nL ⟨.struct [(0,12,1),(1,12,1),(2,222,1),(3,235,1),(4,5,1),(5,5,1),(6,236,1),(7,237,1),(8,238,1),(9,239,1),(10,240,1)],11,48,[.int .u64 (.lit (0)),.int .u64 (.lit (0)),.int .u32 (.lit (0)),zU,zU,zU,zU,.Cb,.lH,.int .i32 (.lit (0)),.int .i32 (.lit (0))],false,none⟩)))) (nS ⟨.struct [(0,22,1),(1,23,1)],2,48,[.aY,.aY],false,none⟩ (nS tF (nS ⟨.pointer 76,1,8,[.lH],false,none⟩ (nL tF) (nL tF)) (nS tF (nL tF) (nL ⟨.struct [(0,232,0)],0,0,[],false,none⟩))) (nS ⟨.struct [(0,55,1),(1,9,1),(2,2,1),(3,52,1)],4,56,[zU,.str [],zI,.aY],false,none⟩ (nS ⟨.struct [(0,66,1),(1,3,1)],2,16,[zI,zI],true,none⟩ (nL tF) (nL ⟨.array 37 9,37,592,(repeatL [.str []] 37),false,none⟩)) (nS ⟨.struct [(0,9,1),(1,120,6),(7,89,2),(9,3,1)],10,96,[.str [],zU,.str [],zI,zI,zI,zI,zI,zI,zI],false,none⟩ (nL tF) .nil)))) (nS ⟨.struct [(0,9,1),(1,12,1)],2,24,[.str [],.int .u64 (.lit (0))],false,none⟩ (nS ⟨.int .i32,1,4,[.int .i32 (.lit (0))],false,none⟩ (nS ⟨.struct [(0,3,1),(1,36,1),(2,3,1),(3,2,1),(4,2,1)],5,40,[zI,zU,zI,zI,zI],true,none⟩ (nS ⟨.struct [(0,68,1),(1,9,1),(2,2,1),(3,9,1),(4,3,1)],5,56,[zU,.str [],zI,.str [],zI],true,none⟩ (nL tF) (nL tF)) (nS tF (nL ⟨.int .u8,1,1,[zU],false,none⟩) (nL ⟨.array 64 5,64,64,(repeatL [zU] 64),false,none⟩))) (nS ⟨.struct [(0,51,1),(1,36,1),(2,3,1),(3,3,1),(4,3,1),(5,2,1),(6,52,1)],7,64,[zU,zU,zI,zI,zI,zI,.aY],false,none⟩ (nS ⟨.slice 130,1,24,[.aY],false,none⟩ (nL ⟨.struct [(0,3,1),(1,3,1)],2,16,[zI,zI],true,none⟩) (nL tF)) (nS ⟨.pointer 122,1,8,[.lH],false,none⟩ (nL tF) .nil))) (nS tF (nS ⟨.struct [(0,3,1),(1,43,4)],5,40,[zI,zU,zI,zI,zI],false,none⟩ (nS tF (nL ⟨.struct [(0,139,1),(1,50,3),(4,3,1)],5,80,[.rO,.str [],.aY,.aY,zI],false,none⟩) (nL ⟨.slice 5,1,24,[.aY],false,none⟩)) (nS tF (nL ⟨.struct [(0,172,1),(1,139,1)],2,16,[.rO,.rO],false,none⟩) (nL tF))) (nS ⟨.struct [(0,3,1),(1,2,1),(2,4,1),(3,2,1),(4,59,1),(5,60,1)],6,80,[zI,zI,.bool (.lit false),zI,.aY,.aY],false,none⟩ (nS tF (nL tF) (nL ⟨.array 20 212,20,160,(repeatL [.int .u64 (.lit (0))] 20),false,none⟩)) (nS tF (nL tF) .nil)))))) (nS ⟨.int .i64,1,8,[zI],false,none⟩ (nS ⟨.bool,1,1,[.bool (.lit false)],false,none⟩ (nS ⟨.struct [(0,2,1),(1,3,1),(2,4,1),(3,6,1)],4,24,[zI,zI,.bool (.lit false),zU],true,none⟩ (nS ⟨.pointer 234,1,8,[.lH],false,none⟩ (nS tF (nS tF (nL ⟨.slice 167,1,24,[.aY],false,none⟩) (nL tF)) (nS tF (nL tF) (nL tF))) (nS ⟨.slice 54,1,24,[.aY],false,none⟩ (nS tF (nL tF) (nL tF)) (nS tF (nL tF) (nL ⟨.int .i32,1,4,[.int .i32 (.lit (0))],false,none⟩)))) (nS ⟨.struct [(0,22,1),(1,23,1)],2,48,[.aY,.aY],false,none⟩ (nO (nS tF (nL ⟨.struct [(0,3,1),(1,4,1),(2,4,1)],3,16,[zI,.bool (.lit false),.bool (.lit false)],true,none⟩) (nL tF)) (nS ⟨.map 3 3,1,8,[.rO],false,none⟩ (nL tF) (nL ⟨.array 0 16,0,0,[],false,none⟩))) (nS ⟨.struct [(0,55,1),(1,9,1),(2,2,1),(3,52,1)],4,56,[zU,.str [],zI,.aY],false,none⟩ (nS ⟨.struct [(0,66,1),(1,3,1)],2,16,[zI,zI],true,none⟩ (nL tF) (nL tF)) (nS ⟨.struct [(0,118,1),(1,9,1),(2,2,1),(3,3,1),(4,3,1),(5,3,1)],6,56,[zU,.str [],zI,zI,zI,zI],true,none⟩ (nL tF) .nil)))) (nS ⟨.int .u64,1,8,[.int .u64 (.lit (0))],false,none⟩ (nS ⟨.iface true,1,16,[.E5],false,none⟩ (nS ⟨.int .u8,1,1,[zU],false,none⟩ (nS ⟨.int .u8,1,1,[zU],false,none⟩ (nL tF) (nL tF)) (nS tF (nL tF) (nL ⟨.array 32 5,32,32,(repeatL [zU] 32),false,none⟩))) (nS ⟨.slice 57,1,24,[.aY],false,none⟩ (nS tF (nL ⟨.struct [(0,3,1),(1,3,1)],2,16,[zI,zI],true,none⟩) (nL ⟨.int .u64,1,8,[.int .u64 (.lit (0))],false,none⟩)) (nS tF (nL tF) .nil))) (nS tF (nS ⟨.struct [(0,3,1),(1,43,4)],5,40,[zI,zU,zI,zI,zI],false,none⟩ (nS ⟨.struct [(0,3,1),(1,74,1),(2,2,1),(3,26,1),(4,43,4)],8,80,[zI,.lH,zI,.aY,zU,zI,zI,zI],false,none⟩ (nL ⟨.pointer 142,1,8,[.lH],false,none⟩) (nL tF)) (nS ⟨.array 27 68,27,27,(repeatL [zU] 27),false,none⟩ (nL ⟨.map 9 68,1,8,[.rO],false,none⟩) (nL ⟨.int .u8,1,1,[zU],false,none⟩))) (nS ⟨.slice 2,1,24,[.aY],false,none⟩ (nO .nil (nL tF)) (nS ⟨.array 9 9,9,144,[.str [],.str [],.str [],.str [],.str [],.str [],.str [],.str [],.str []],false,none⟩ (nL tF) .nil))))) (nS ⟨.int .u8,1,1,[zU],false,none⟩ (nS ⟨.string,1,16,[.str []],false,none⟩ (nS ⟨.struct [(0,17,1)],1,8,[.lH],false,none⟩ (nS ⟨.array 2 26,2,48,[.aY,.aY],false,none⟩ (nS ⟨.int .i64,1,8,[zI],false,none⟩ (nL ⟨.struct [(0,9,1),(1,128,1),(2,3,1)],3,48,[.str [],.aY,zI],false,none⟩) (nL ⟨.pointer 167,1,8,[.lH],false,none⟩)) (nS tF .nil (nL tF))) (nS ⟨.struct [(0,9,1),(1,47,1),(2,48,1)],3,64,[.str [],.aY,.aY],false,none⟩ (nO (nL tF) (nL ⟨.array 2 47,2,48,[.aY,.aY],false,none⟩)) (nS tF (nL tF) (nL ⟨.struct [(0,12,1),(1,12,1),(2,222,1),(3,235,1),(4,5,1),(5,5,1),(6,236,1),(7,237,1),(8,238,1),(9,239,1),(10,240,1)],11,48,[.int .u64 (.lit (0)),.int .u64 (.lit (0)),.int .u32 (.lit (0)),zU,zU,zU,zU,.Cb,.lH,.int .i32 (.lit (0)),.int .i32 (.lit (0))],false,none⟩)))) (nS ⟨.slice 62,1,24,[.aY],false,none⟩ (nS ⟨.struct [(0,36,1),(1,3,1),(2,2,1),(3,2,1)],4,32,[zU,zI,zI,zI],true,none⟩ (nS ⟨.pointer 62,1,8,[.lH],false,none⟩ (nL tF) (nL ⟨.array 2 128,2,48,[.aY,.aY],false,none⟩)) (nS tF (nL tF) (nL ⟨.struct [(0,232,0)],0,0,[],false,none⟩))) (nS tF (nO (nL tF) (nL tF)) (nS ⟨.struct [(0,9,1),(1,120,6),(7,89,2),(9,3,1)],10,96,[.str [],zU,.str [],zI,zI,zI,zI,zI,zI,zI],false,none⟩ (nL ⟨.pointer 183,1,8,[.lH],false,none⟩) .nil)))) (nS ⟨.struct [(0,9,1),(1,12,1)],2,24,[.str [],.int .u64 (.lit (0))],false,none⟩ (nS ⟨.slice 70,1,24,[.aY],false,none⟩ (nS ⟨.struct [(0,3,1),(1,36,1),(2,3,1),(3,2,1),(4,2,1)],5,40,[zI,zU,zI,zI,zI],true,none⟩ (nS ⟨.struct [(0,68,1),(1,9,1),(2,2,1),(3,9,1),(4,3,1)],5,56,[zU,.str [],zI,.str [],zI],true,none⟩ (nL ⟨.pointer 136,1,8,[.lH],false,none⟩) (nL tF)) (nO (nL ⟨.struct [(0,165,1),(1,36,1),(2,9,1),(3,9,1),(4,2,1),(5,52,1),(6,128,1),(7,128,1),(8,3,1)],9,128,[zU,zU,.str [],.str [],zI,.aY,.aY,.aY,zI],false,none⟩) (nL ⟨.struct [(0,17,1),(1,17,1),(2,17,1),(3,9,1)],4,40,[.lH,.lH,.lH,.str []],false,none⟩))) (nS ⟨.struct [(0,51,1),(1,36,1),(2,3,1),(3,3,1),(4,3,1),(5,2,1),(6,52,1)],7,64,[zU,zU,zI,zI,zI,zI,.aY],false,none⟩ (nS ⟨.struct [(0,22,1),(1,85,1)],2,48,[.aY,.aY],false,none⟩ (nL tF) (nL tF)) (nS ⟨.int .u8,1,1,[zU],false,none⟩ (nL tF) .nil))) (nS tF (nS tF (nO (nL ⟨.struct [(0,139,1),(1,50,3),(4,3,1)],5,80,[.rO,.str [],.aY,.aY,zI],false,none⟩) (nL tF)) (nS tF (nL ⟨.struct [(0,172,1),(1,139,1)],2,16,[.rO,.rO],false,none⟩) (nL ⟨.pointer 5,1,8,[.lH],false,none⟩))) (nS ⟨.struct [(0,3,1),(1,2,1),(2,4,1),(3,2,1),(4,59,1),(5,60,1)],6,80,[zI,zI,.bool (.lit false),zI,.aY,.aY],false,none⟩ (nS tF (nL tF) (nL ⟨.int .u32,1,4,[.int .u32 (.lit (0))],false,none⟩)) (nS tF (nL tF) .nil)))))))
noncomputable def U9:Tr Func:=(nS Tryz.f0 (nS Tryz.f1 (nS Tryz.f3 (nS Tryz.f7 (nS Tryz.f15 (nS Tryz.f31 (nS Tryz.f63 (nL Tryz.f127) (nL Tryz.f191)) (nS Tryz.f95 (nL Tryz.f159) .nil)) (nS Tryz.f47 (nS Tryz.f79 (nL Tryz.f143) (nL Tryz.f207)) (nS Tryz.f111 (nL Tryz.f175) .nil))) (nS Tryz.f23 (nS Tryz.f39 (nS Tryz.f71 (nL Tryz.f135) (nL Tryz.f199)) (nS Tryz.f103 (nL Tryz.f167) .nil)) (nS Tryz.f55 (nS Tryz.f87 (nL Tryz.f151) .nil) (nS Tryz.f119 (nL Tryz.f183) .nil)))) (nS Tryz.f11 (nS Tryz.f19 (nS Tryz.f35 (nS Tryz.f67 (nL Tryz.f131) (nL Tryz.f195)) (nS Tryz.f99 (nL Tryz.f163) .nil)) (nS Tryz.f51 (nS Tryz.f83 (nL Tryz.f147) .nil) (nS Tryz.f115 (nL Tryz.f179) .nil))) (nS Tryz.f27 (nS Tryz.f43 (nS Tryz.f75 (nL Tryz.f139) (nL Tryz.f203)) (nS Tryz.f107 (nL Tryz.f171) .nil)) (nS Tryz.f59 (nS Tryz.f91 (nL Tryz.f155) .nil) (nS Tryz.f123 (nL Tryz.f187) .nil))))) (nS Tryz.f5 (nS Tryz.f9 (nS Tryz.f17 (nS Tryz.f33 (nS Tryz.f65 (nL Tryz.f129) (nL Tryz.f193)) (nS Tryz.f97 (nL Tryz.f161) .nil)) (nS Tryz.f49 (nS Tryz.f81 (nL Tryz.f145) (nL Tryz.f209)) (nS Tryz.f113 (nL Tryz.f177) .nil))) (nS Tryz.f25 (nS Tryz.f41 (nS Tryz.f73 (nL Tryz.f137) (nL Tryz.f201)) (nS Tryz.f105 (nL Tryz.f169) .nil)) (nS Tryz.f57 (nS Tryz.f89 (nL Tryz.f153) .nil) (nS Tryz.f121 (nL Tryz.f185) .nil)))) (nS Tryz.f13 (nS Tryz.f21 (nS Tryz.f37 (nS Tryz.f69 (nL Tryz.f133) (nL Tryz.f197)) (nS Tryz.f101 (nL Tryz.f165) .nil)) (nS Tryz.f53 (nS Tryz.f85 (nL Tryz.f149) .nil) (nS Tryz.f117 (nL Tryz.f181) .nil))) (nS Tryz.f29 (nS Tryz.f45 (nS Tryz.f77 (nL Tryz.f141) (nL Tryz.f205)) (nS Tryz.f109 (nL Tryz.f173) .nil)) (nS Tryz.f61 (nS Tryz.f93 (nL Tryz.f157) .nil) (nS Tryz.f125 (nL Tryz.f189) .nil)))))) (nS Tryz.f2 (nS Tryz.f4 (nS Tryz.f8 (nS Tryz.f16 (nS Tryz.f32 (nS Tryz.f64 (nL Tryz.f128) (nL Tryz.f192)) (nS Tryz.f96 (nL Tryz.f160) .nil)) (nS Tryz.f48 (nS Tryz.f80 (nL Tryz.f144) (nL Tryz.f208)) (nS Tryz.f112 (nL Tryz.f176) .nil))) (nS Tryz.f24 (nS Tryz.f40 (nS Tryz.f72 (nL Tryz.f136) (nL Tryz.f200)) (nS Tryz.f104 (nL Tryz.f168) .nil)) (nS Tryz.f56 (nS Tryz.f88 (nL Tryz.f152) .nil) (nS Tryz.f120 (nL Tryz.f184) .nil)))) (nS Tryz.f12 (nS Tryz.f20 (nS Tryz.f36 (nS Tryz.f68 (nL Tryz.f132) (nL Tryz.f196)) (nS Tryz.f100 (nL Tryz.f164) .nil)) (nS Tryz.f52 (nS Tryz.f84 (nL Tryz.f148) .nil) (nS Tryz.f116 (nL Tryz.f180) .nil))) (nS Tryz.f28 (nS Tryz.f44 (nS Tryz.f76 (nL Tryz.f140) (nL Tryz.f204)) (nS Tryz.f108 (nL Tryz.f172) .nil)) (nS Tryz.f60 (nS Tryz.f92 (nL Tryz.f156) .nil) (nS Tryz.f124 (nL Tryz.f188) .nil))))) (nS Tryz.f6 (nS Tryz.f10 (nS Tryz.f18 (nS Tryz.f34 (nS Tryz.f66 (nL Tryz.f130) (nL Tryz.f194)) (nS Tryz.f98 (nL Tryz.f162) .nil)) (nS Tryz.f50 (nS Tryz.f82 (nL Tryz.f146) .nil) (nS Tryz.f114 (nL Tryz.f178) .nil))) (nS Tryz.f26 (nS Tryz.f42 (nS Tryz.f74 (nL Tryz.f138) (nL Tryz.f202)) (nS Tryz.f106 (nL Tryz.f170) .nil)) (nS Tryz.f58 (nS Tryz.f90 (nL Tryz.f154) .nil) (nS Tryz.f122 (nL Tryz.f186) .nil)))) (nS Tryz.f14 (nS Tryz.f22 (nS Tryz.f38 (nS Tryz.f70 (nL Tryz.f134) (nL Tryz.f198)) (nS Tryz.f102 (nL Tryz.f166) .nil)) (nS Tryz.f54 (nS Tryz.f86 (nL Tryz.f150) .nil) (nS Tryz.f118 (nL Tryz.f182) .nil))) (nS Tryz.f30 (nS Tryz.f46 (nS Tryz.f78 (nL Tryz.f142) (nL Tryz.f206)) (nS Tryz.f110 (nL Tryz.f174) .nil)) (nS Tryz.f62 (nS Tryz.f94 (nL Tryz.f158) .nil) (nS Tryz.f126 (nL Tryz.f190) .nil)))))))
def htab:Tr (Tr TU):=(nO (nO (nS (nO (nO (nL ⟨[],0,⟨[hR 0 0 [3],hE 1 0 [24],hR 0 1 [3],hE 7 1 [26],hE 15 2 [25,27],hP 31 3 [28],hP 63 3 [29],hR 127 3 [30,3],hP 127 3 [30,1],hE 511 3 [30,31,32],hR 127 4 [30,3],hP 127 4 [30,1],hE 4095 4 [30,34,35],hP 8191 5 [30,33,36],hP 16383 5 [30,37]],5,[(0,[0]),(2,[0,1]),(7,[3]),(10,[3,4])]⟩⟩) (nO .nil (nL ⟨[],0,⟨[hR 0 0 [3],hP 0 0 [8],hP 0 0 [2],hP 0 0 [9],hP 12 0 [78,79],hP 28 0 [80],hR 60 0 [81],hP 0 0 [2],hP 0 0 [9],hP 384 0 [83,84],hP 896 0 [85],hR 1920 0 [86],hE 4095 0 [76,77,82,87],hP 8191 1 [88],hP 16383 1 [75],hP 16383 1 [75],hP 16383 1 [75],hP 0 1 [],hP 163839 1 [89],hE 458751 1 [15,90],hP 1048575 2 [91]],2,[(0,[0]),(6,[0]),(11,[0])]⟩⟩))) (nO (nO .nil (nL ⟨[],0,⟨[hR 0 0 [3],hP 0 0 [10],hP 0 0 [2],hP 0 0 [9],hP 12 0 [61,62],hP 28 0 [63],hR 60 0 [64],hP 0 0 [2],hP 0 0 [9],hP 384 0 [66,67],hP 896 0 [68],hR 1920 0 [69],hE 4095 0 [59,60,65,70],hP 8191 1 [71],hP 16383 1 [58],hP 16383 1 [58],hP 16383 1 [58],hP 0 1 [],hP 163839 1 [72],hE 458751 1 [12,73],hP 1048575 2 [74]],2,[(0,[0]),(6,[0]),(11,[0])]⟩⟩)) .nil)) (nS (nO .nil (nO (nO .nil (nL ⟨[],0,⟨[hP 0 0 [6],hR 1 0 [76],hP 0 0 [8],hP 7 0 [77,78],hR 15 0 [79],hP 0 0 [7],hR 32 0 [81],hP 0 0 [8],hP 224 0 [82,83],hR 480 0 [84],hP 1023 0 [80,85]],0,[(1,[0]),(4,[0]),(6,[0]),(9,[0])]⟩⟩)) (nL ⟨[],0,⟨[hP 0 0 [0],hP 0 0 [5],hP 3 0 [19,20],hR 7 0 [21],hP 0 0 [1],hP 0 0 [5],hP 48 0 [23,24],hR 112 0 [25],hP 0 0 [],hP 0 0 [],hE 783 0 [6,22],hE 2047 1 [7,26]],2,[(3,[0]),(7,[0,1])]⟩⟩))) (nO (nS (nO (nO (nL ⟨[],0,⟨[hP 0 0 [],hR 0 0 [4],hE 1 0 [2,17],hE 7 1 [3,18]],2,[(1,[0,1])]⟩⟩) (nO .nil (nO (nL ⟨[],0,⟨[hP 0 0 [5],hR 1 0 [78],hP 0 0 [11],hP 4 0 [80],hP 12 0 [81],hR 28 0 [82],hP 60 0 [83],hE 127 0 [79,84],hP 255 1 [5],hE 511 1 [86,85]],2,[(1,[0]),(5,[0])]⟩⟩) .nil))) .nil) (nO (nL (nO .nil (nL ⟨[],0,⟨[hR 0 0 [2],hR 0 0 [2],hP 2 0 [9],hP 6 0 [10],hP 14 0 [11],hR 30 0 [12],hR 0 0 [3],hP 64 0 [14],hE 254 0 [13,15],hP 511 1 [8],hP 1023 1 [17],hP 2047 1 [18],hE 4095 1 [19,16]],2,[(0,[0,1]),(1,[0]),(5,[0]),(6,[0])]⟩⟩))) .nil) .nil) (nO (nS (nO (nL ⟨[],0,⟨[hR 0 0 [0],hP 1 0 [4],hP 3 0 [5],hR 7 0 [6],hR 0 0 [0],hP 16 0 [8],hP 48 0 [9],hR 112 0 [10],hP 255 0 [7,11],hP 511 0 [12]],0,[(0,[0]),(3,[0]),(4,[0]),(7,[0])]⟩⟩) (nL ⟨[],0,⟨[hR 0 0 [0],hP 1 0 [13],hP 3 0 [14],hR 7 0 [15],hP 15 0 [16],hP 31 0 [17],hR 63 0 [18],hR 0 0 [0],hP 128 0 [20],hP 384 0 [21],hR 896 0 [22],hE 2047 0 [19,23],hP 4095 1 [24],hP 8191 1 [25,3],hP 16383 1 [25,26],hP 32767 1 [25,27],hR 65535 1 [25,28],hP 131071 1 [25,29],hP 262143 1 [25,30]],1,[(0,[0]),(3,[0]),(6,[0]),(7,[0]),(10,[0]),(16,[1])]⟩⟩)) (nL (nO .nil (nO (nL ⟨[],0,⟨[hP 0 0 [1],hR 1 0 [15],hP 3 0 [16],hP 7 0 [17],hP 15 0 [18,1],hR 31 0 [18,19],hP 63 0 [18,20],hP 127 0 [18,21],hP 255 0 [22],hP 511 0 [23,1],hR 1023 0 [23,24],hE 2047 0 [23,25],hP 4095 1 [23,26],hP 8191 1 [23,27],hP 16383 1 [28],hP 32767 1 [29,1],hR 65535 1 [29,30],hP 131071 1 [29,31],hP 262143 1 [29,32],hP 524287 1 [33],hP 1048575 1 [34,1],hR 2097151 1 [34,35],hR 4194303 1 [34,36],hP 1048575 1 [34,1],hR 9437183 1 [34,38],hE 26214399 1 [34,39],hP 67108863 2 [34,37,40],hP 134217727 2 [34,41],hP 268435455 2 [42],hP 536870911 2 [43,1],hR 1073741823 2 [43,44],hR 2147483647 2 [43,45],hP 4294967295 2 [43,46],hP 8589934591 2 [43,47],hP 17179869183 2 [48],hP 34359738367 2 [49,3],hP 68719476735 2 [49,50],hP 137438953471 2 [49,51],hP 274877906943 2 [52,1],hR 549755813887 2 [52,53],hP 1099511627775 2 [52,54],hP 2199023255551 2 [49,52,55],hP 4398046511103 2 [49,56]],2,[(1,[0]),(5,[0]),(10,[0]),(16,[1]),(21,[1,2]),(22,[1,2]),(24,[1]),(30,[2]),(31,[2]),(39,[2])]⟩⟩) .nil))) .nil) .nil)) (nS (nO (nO .nil (nL ⟨[],0,⟨[hP 0 0 [0],hP 0 0 [3],hP 0 0 [0],hP 0 0 [3],hP 0 0 [0],hP 0 0 [3],hP 48 0 [15,16],hP 112 0 [17],hR 240 0 [18],hE 496 0 [19],hP 0 1 [0],hP 0 1 [3],hP 3072 1 [21,22],hP 7168 1 [23],hR 15360 1 [24],hE 32752 1 [25],hP 65523 2 [11,12],hP 131059 2 [27],hE 262131 2 [28,20],hP 524287 3 [13,14],hP 1048575 3 [29],hE 2097151 3 [30,26]],4,[(8,[0]),(14,[0,1])]⟩⟩)) .nil) (nO (nL (nO (nL ⟨[],0,⟨[hR 0 0 [0],hP 1 0 [3],hP 3 0 [4],hR 7 0 [5],hR 0 0 [0],hP 16 0 [7],hP 48 0 [8],hP 112 0 [9],hR 240 0 [10],hP 511 0 [6],hP 1023 0 [12],hE 2047 0 [13,11]],1,[(0,[0]),(3,[0]),(4,[0]),(8,[0])]⟩⟩) .nil)) .nil) (nO (nL (nO (nO (nO .nil (nO (nO .nil (nL ⟨[],0,⟨[hP 0 0 [10],hP 0 0 [10],hP 2 0 [217],hP 6 0 [218],hR 14 0 [219],hP 0 0 [7],hR 32 0 [221],hP 126 0 [220,222],hP 255 0 [216],hP 511 0 [224],hE 1023 0 [225,223]],1,[(4,[0]),(6,[0])]⟩⟩)) .nil)) (nO (nO (nO (nL ⟨[],0,⟨[hP 0 0 [10],hP 1 0 [142],hP 3 0 [143],hR 7 0 [144],hP 0 0 [7],hR 16 0 [146],hP 63 0 [145,147]],0,[(3,[0]),(5,[0])]⟩⟩) (nL ⟨[],0,⟨[hP 0 0 [7],hR 1 0 [188],hP 3 0 [189],hP 7 0 [190],hP 15 0 [191,7],hR 31 0 [191,192],hP 63 0 [191,193],hP 127 0 [191,194],hP 255 0 [195],hP 511 0 [196,10],hP 1023 0 [196,197],hP 2047 0 [196,198],hR 4095 0 [196,199],hP 511 0 [196,7],hR 8703 0 [196,201],hP 32767 0 [196,200,202],hP 65535 0 [196,203],hP 131071 0 [196,204],hP 262143 0 [205],hP 524287 0 [206,10],hP 1048575 0 [206,207],hP 2097151 0 [206,208],hR 4194303 0 [206,209],hP 524287 0 [206,7],hR 8912895 0 [206,211],hP 33554431 0 [206,210,212],hP 67108863 0 [206,213],hP 134217727 0 [206,214]],0,[(1,[0]),(5,[0]),(12,[0]),(14,[0]),(22,[0]),(24,[0])]⟩⟩)) .nil) .nil)) .nil)) .nil))) (nS (nO .nil (nO .nil (nL ⟨[],0,⟨[hP 0 0 [2],hR 1 0 [23],hP 0 0 [5],hP 7 0 [24,25],hR 15 0 [26],hP 0 0 [1],hP 0 0 [5],hP 96 0 [28,29],hR 224 0 [30],hP 0 0 [2],hR 512 0 [32],hR 1536 0 [33],hE 4095 0 [27,31,34],hP 8191 1 [35]],1,[(1,[0]),(4,[0]),(8,[0]),(10,[0]),(11,[0])]⟩⟩))) (nS (nO .nil (nO .nil (nO .nil (nL ⟨[],0,⟨[hR 0 0 [1],hR 0 0 [7],hP 0 0 [7],hR 4 0 [67],hP 0 0 [8],hP 28 0 [68,69],hR 60 0 [70],hE 127 0 [65,66,71],hP 255 1 [72],hP 511 1 [73],hP 1023 1 [74,7],hR 2047 1 [74,75],hP 1023 1 [74,8],hP 8191 1 [74,76,77],hP 16383 1 [74,78],hR 32767 1 [74,79],hP 1023 1 [74,7],hE 131071 1 [74,80,81],hP 262143 2 [74,82],hP 524287 2 [83]],2,[(0,[0]),(1,[0]),(3,[0]),(6,[0]),(11,[1]),(15,[1])]⟩⟩)))) (nO (nS (nO (nS ⟨[],0,⟨[hR 0 0 [0],hP 1 0 [3],hP 3 0 [4],hP 7 0 [5],hR 15 0 [6],hR 0 0 [0],hP 32 0 [8],hP 96 0 [9],hR 224 0 [10],hP 480 0 [11],hP 992 0 [12],hR 2016 0 [13],hP 4064 0 [14],hP 8191 0 [7,15],hP 16383 0 [16],hR 32767 0 [17,0],hP 65535 0 [17,18],hP 131071 0 [17,19],hP 262143 0 [17,20],hR 524287 0 [17,21],hR 32767 0 [17,0],hP 1081343 0 [17,23],hP 3178495 0 [17,24],hR 7372799 0 [17,25],hP 15761407 0 [17,26],hP 32538623 0 [17,27],hR 66093055 0 [17,28],hP 133201919 0 [17,29],hP 268435455 0 [17,22,30],hP 536870911 0 [17,31]],0,[(0,[0]),(4,[0]),(5,[0]),(8,[0]),(11,[0]),(15,[0]),(19,[0]),(20,[0]),(23,[0]),(26,[0])]⟩⟩ (nL ⟨[],0,⟨[hR 0 0 [0],hP 1 0 [33],hP 3 0 [34],hR 7 0 [35],hP 15 0 [36],hP 31 0 [37],hR 63 0 [38],hR 0 0 [0],hP 128 0 [40],hP 384 0 [41],hP 896 0 [42],hR 1920 0 [43],hP 4095 0 [39,44],hP 8191 0 [36],hP 16383 0 [46],hE 32767 0 [47,45]],1,[(0,[0]),(3,[0]),(6,[0]),(7,[0]),(11,[0])]⟩⟩) .nil) .nil) (nL (nO .nil (nL ⟨[],0,⟨[hP 0 0 [0],hP 0 0 [1],hP 0 0 [2],hP 6 0 [13,14],hP 1 0 [12],hP 31 0 [16,15],hR 63 0 [17]],0,[(6,[0])]⟩⟩))) .nil) (nO (nL (nO .nil (nO (nL ⟨[],0,⟨[hP 0 0 [6],hR 1 0 [13],hP 3 0 [14],hP 7 0 [15],hP 15 0 [16,0],hP 31 0 [16,17],hP 63 0 [16,18],hR 127 0 [16,19],hP 15 0 [16,6],hR 271 0 [16,21],hR 1023 0 [16,20,22],hP 2047 0 [16,23],hP 4095 0 [16,24],hP 8191 0 [25],hP 16383 0 [26,0],hP 16383 0 [26,6],hR 49151 0 [26,28],hE 131071 0 [26,27,29],hP 262143 1 [26,30],hP 524287 1 [26,31]],1,[(1,[0]),(7,[0]),(9,[0]),(10,[0]),(16,[0])]⟩⟩) .nil))) .nil)) (nS (nO (nO (nL ⟨[],0,⟨[hP 0 0 [0],hP 1 0 [11],hP 3 0 [12],hR 7 0 [13],hP 0 0 [0],hP 16 0 [15],hP 48 0 [16],hR 112 0 [17],hP 255 0 [14],hP 511 0 [19],hE 1023 0 [20,18]],1,[(3,[0]),(7,[0])]⟩⟩) .nil) .nil) (nS (nO (nO (nL ⟨[],0,⟨[hR 0 0 [0],hP 1 0 [12],hP 3 0 [13],hR 7 0 [14],hP 15 0 [15],hP 31 0 [16],hR 63 0 [17],hR 0 0 [0],hP 128 0 [19],hP 384 0 [20],hR 896 0 [21],hP 2047 0 [18,22],hP 4095 0 [23]],0,[(0,[0]),(3,[0]),(6,[0]),(7,[0]),(10,[0])]⟩⟩) .nil) .nil) (nL (nL ⟨[],0,⟨[hR 0 0 [0],hP 1 0 [2],hP 3 0 [3],hP 7 0 [4],hR 15 0 [5],hR 0 0 [1],hR 0 0 [0],hE 64 0 [8],hP 255 1 [6,7],hP 511 1 [10],hE 1023 1 [11,9]],2,[(0,[0,1]),(4,[0,1]),(5,[0,1]),(6,[0])]⟩⟩)) .nil) .nil)) (nO (nO (nO (nL (nO .nil (nO (nL ⟨[],9,⟨[hP 0 0 [1],hP 1 0 [23],hP 3 0 [24],hR 7 0 [25],hP 0 0 [0],hE 16 0 [27],hR 15 1 [26],hP 0 1 [],hE 255 1 [26,30]],2,[(3,[0,1]),(6,[0,1])]⟩⟩) .nil))) .nil) .nil) (nS (nO (nL ⟨[],0,⟨[hR 0 0 [0],hP 1 0 [4],hP 3 0 [5],hR 7 0 [6],hP 15 0 [7],hP 31 0 [8],hR 63 0 [9],hR 0 0 [0],hP 128 0 [11],hP 384 0 [12],hR 896 0 [13],hE 2047 0 [10,14],hP 4095 1 [15]],1,[(0,[0]),(3,[0]),(6,[0]),(7,[0]),(10,[0])]⟩⟩) (nO (nL ⟨[],0,⟨[hR 0 0 [0],hP 1 0 [18],hP 3 0 [19],hR 7 0 [20],hR 0 0 [0],hP 16 0 [22],hP 48 0 [23],hR 112 0 [24],hP 240 0 [25],hP 496 0 [26],hR 1008 0 [27],hP 0 0 [3],hP 0 0 [3],hP 4096 0 [30],hE 16368 0 [28,29,31],hP 32767 1 [21],hP 65535 1 [33],hE 131071 1 [34,32]],2,[(0,[0,1]),(3,[0,1]),(4,[0]),(7,[0]),(10,[0])]⟩⟩) .nil)) .nil (nL (nO (nO .nil (nL ⟨[],0,⟨[hP 0 0 [5],hR 1 0 [13],hE 3 0 [14],hP 0 1 [5],hR 8 1 [16],hE 31 1 [17],hP 63 2 [15,18],hP 127 2 [19]],2,[(1,[0]),(4,[0,1])]⟩⟩)) .nil)))))) (nS (nO (nO .nil (nL ⟨[],0,⟨[hP 0 0 [3],hP 0 0 [0],hP 0 0 [4],hP 6 0 [13,14],hP 14 0 [15],hR 30 0 [16],hR 62 0 [17],hP 0 0 [0],hP 0 0 [4],hP 384 0 [19,20],hP 896 0 [21],hR 1920 0 [22],hR 3968 0 [23],hP 8190 0 [18,24],hP 16383 0 [12,25],hP 32767 0 [26]],0,[(5,[0]),(6,[0]),(11,[0]),(12,[0])]⟩⟩)) .nil) (nO (nO (nS (nO .nil (nO .nil (nL ⟨[],0,⟨[hP 0 0 [9],hP 1 0 [47],hP 3 0 [48,3],hR 7 0 [48,49],hP 3 0 [48,5],hR 19 0 [48,51],hP 63 0 [48,50,52],hP 127 0 [48,53],hR 255 0 [48,54],hR 3 0 [48,5],hP 3 0 [48,7],hE 2047 0 [48,55,56,57],hP 4095 1 [48,58],hP 8191 1 [59],hP 16383 1 [60,5],hR 32767 1 [60,61],hP 65535 1 [60,62],hP 131071 1 [60,63],hP 262143 1 [64,8],hP 524287 1 [60,64,65],hP 1048575 1 [60,66],hP 2097151 1 [67]],1,[(3,[0]),(5,[0]),(8,[0]),(9,[0]),(15,[1])]⟩⟩))) .nil (nS (nO .nil (nO .nil (nO (nL ⟨[],0,⟨[hP 0 0 [3],hP 1 0 [34],hP 3 0 [35],hR 7 0 [36],hP 0 0 [5],hR 16 0 [38],hP 0 0 [5],hR 64 0 [40],hE 255 0 [37,39,41]],1,[(3,[0]),(5,[0]),(7,[0])]⟩⟩) .nil))) (nL (nO (nO .nil (nO (nL ⟨[],0,⟨[hP 0 0 [1],hR 1 0 [43],hP 3 0 [44],hP 7 0 [45],hP 15 0 [46,3],hP 31 0 [46,47],hP 63 0 [46,48],hP 127 0 [49],hP 255 0 [50,3],hP 511 0 [50,51],hP 1023 0 [50,52],hP 2047 0 [53],hP 4095 0 [54,3],hP 8191 0 [54,55],hP 16383 0 [54,4,56],hR 32767 0 [54,57],hP 4095 0 [54,1],hR 69631 0 [54,59],hE 262143 0 [54,58,60],hP 524287 1 [54,61],hP 1048575 1 [62]],1,[(1,[0]),(15,[0]),(17,[0])]⟩⟩) .nil)) .nil)) .nil)) (nS (nO (nL ⟨[],0,⟨[hP 0 0 [0],hP 1 0 [3],hP 3 0 [4],hR 7 0 [5],hP 15 0 [6],hP 31 0 [7],hR 63 0 [8],hP 0 0 [0],hP 128 0 [10],hP 384 0 [11],hR 896 0 [12],hP 2047 0 [9,13],hP 4095 0 [14],hP 8191 0 [15,0],hP 16383 0 [15,16],hP 32767 0 [15,17],hR 65535 0 [15,18],hP 131071 0 [15,19],hP 262143 0 [15,20],hR 524287 0 [15,21],hP 8191 0 [15,0],hP 1056767 0 [15,23],hP 3153919 0 [15,24],hR 7348223 0 [15,25],hE 16777215 0 [15,22,26],hP 33554431 1 [15,27],hP 67108863 1 [28]],1,[(3,[0]),(6,[0]),(10,[0]),(16,[0]),(19,[0]),(23,[0])]⟩⟩) .nil) (nL (nO (nO .nil (nL ⟨[],0,⟨[hR 0 0 [0],hP 1 0 [23],hP 3 0 [24],hR 7 0 [25],hP 15 0 [26],hP 31 0 [27],hR 63 0 [28],hR 0 0 [0],hP 128 0 [30],hP 384 0 [31],hR 896 0 [32],hP 2047 0 [29,33]],0,[(0,[0]),(3,[0]),(6,[0]),(7,[0]),(10,[0])]⟩⟩)) (nO .nil (nL ⟨[],0,⟨[hR 0 0 [0],hP 1 0 [35],hP 3 0 [36],hR 7 0 [37],hR 0 0 [0],hP 16 0 [39],hP 48 0 [40],hR 112 0 [41],hP 0 0 [3],hP 256 0 [43],hP 255 0 [38],hP 1279 0 [45],hE 3327 0 [46],hP 8191 1 [42],hP 16383 1 [47],hE 32767 1 [48,44]],2,[(0,[0]),(3,[0]),(4,[0]),(7,[0])]⟩⟩)))) .nil)) (nO (nO (nS (nO .nil (nO (nL ⟨[],0,⟨[hR 0 0 [0],hP 1 0 [22],hP 3 0 [23],hR 7 0 [24],hR 0 0 [0],hP 16 0 [26],hP 48 0 [27],hR 112 0 [28],hP 240 0 [29],hP 496 0 [30],hR 1008 0 [31],hP 2032 0 [32],hP 4095 0 [25],hP 8191 0 [34],hE 16383 0 [35,33]],1,[(0,[0]),(3,[0]),(4,[0]),(7,[0]),(10,[0])]⟩⟩) .nil)) (nL (nO (nL ⟨[],0,⟨[hR 0 0 [0],hP 0 0 [2],hE 3 0 [8,9]],1,[(0,[0])]⟩⟩) (nL ⟨[],0,⟨[hP 0 0 [2],hR 0 0 [0],hP 2 0 [12],hP 6 0 [13],hP 14 0 [14],hR 30 0 [15],hE 63 0 [11,16],hP 127 1 [17],hP 255 1 [18],hP 127 1 [1],hE 639 1 [20],hP 2047 2 [1],hE 4095 2 [21,19]],3,[(1,[0]),(5,[0])]⟩⟩))) .nil) .nil) (nS (nO (nO (nL ⟨[],0,⟨[hR 0 0 [0],hP 1 0 [5],hP 3 0 [6],hP 7 0 [7],hR 15 0 [8],hR 0 0 [0],hP 32 0 [10],hP 96 0 [11],hP 224 0 [12],hR 480 0 [13],hP 1023 0 [9,14],hE 2047 0 [15],hP 4095 1 [],hP 8191 1 [16]],1,[(0,[0]),(4,[0]),(5,[0]),(9,[0])]⟩⟩) .nil) .nil) .nil (nL (nO (nL ⟨[],0,⟨[hP 0 0 [0],hP 1 0 [9],hP 3 0 [10],hR 7 0 [11],hP 0 0 [3],hR 16 0 [13],hR 63 0 [12,14],hP 127 0 [15],hP 255 0 [8],hP 255 0 [8],hP 511 0 [16],hP 2047 0 [17]],0,[(3,[0]),(5,[0]),(6,[0])]⟩⟩) .nil))))) (nS (nO (nO (nO (nL ⟨[],0,⟨[hP 0 0 [12],hE 1 0 [89],hP 0 1 [7],hR 4 1 [91],hR 15 1 [90,92],hP 31 1 [93],hP 63 1 [88],hP 63 1 [88],hP 127 1 [94],hP 511 1 [95]],1,[(3,[0,1]),(4,[1])]⟩⟩) (nO (nL ⟨[],0,⟨[hP 0 0 [11],hR 0 0 [17],hP 1 0 [136],hE 7 0 [9,137],hP 15 1 []],1,[(1,[0])]⟩⟩) .nil)) (nS ⟨[],0,⟨[hP 0 0 [12],hE 1 0 [79],hP 0 1 [7],hR 4 1 [81],hR 15 1 [80,82],hP 31 1 [83],hP 63 1 [78],hP 63 1 [78],hP 127 1 [84],hP 511 1 [85]],1,[(3,[0,1]),(4,[1])]⟩⟩ (nL ⟨[],0,⟨[hP 0 0 [12],hE 1 0 [98],hP 0 1 [7],hR 4 1 [100],hR 15 1 [99,101],hP 31 1 [102]],1,[(3,[0,1]),(4,[1])]⟩⟩) .nil)) (nS ⟨[],0,⟨[hR 0 0 [4],hP 0 0 [1],hE 3 0 [20,21],hP 7 1 [22],hP 15 1 [23],hP 31 1 [24,2],hP 63 1 [24,25],hP 127 1 [24,26],hP 255 1 [27],hP 511 1 [28,2],hP 511 1 [28,4],hR 1535 1 [28,30],hR 3583 1 [28,31],hP 8191 1 [28,29,32],hP 16383 1 [28,33],hP 32767 1 [34],hP 65535 1 [35,7],hR 131071 1 [35,36],hP 262143 1 [35,37],hP 524287 1 [35,38],hP 1048575 1 [39],hP 2097151 1 [40,7],hR 4194303 1 [40,41],hP 2097151 1 [40,11],hR 10485759 1 [40,43],hP 33554431 1 [40,42,44],hP 67108863 1 [40,45],hP 134217727 1 [46],hP 268435455 1 [47,7],hR 536870911 1 [47,48],hE 1073741823 1 [47,49],hP 268435455 2 [47,4],hR 2415919103 2 [47,51],hP 268435455 2 [47,7],hR 8858370047 2 [47,53],hP 32480690175 2 [47,52,54],hP 66840428543 2 [47,55],hR 135559905279 2 [47,56],hP 274877906943 2 [47,50,57],hP 549755813887 2 [47,58]],2,[(0,[0]),(11,[1]),(12,[1]),(17,[1]),(22,[1]),(24,[1]),(29,[1]),(32,[1,2]),(34,[1,2]),(37,[1,2])]⟩⟩ (nS ⟨[],0,⟨[hP 0 0 [2],hP 0 0 [11],hP 0 0 [7],hR 4 0 [64],hP 14 0 [63,65],hP 0 0 [4],hR 32 0 [67],hP 0 0 [7],hR 128 0 [69],hP 480 0 [68,70],hP 992 0 [71],hR 2016 0 [72],hP 0 0 [11],hR 0 0 [7],hP 16383 0 [62,66,73,74,75],hP 32767 0 [76],hP 65535 0 [77]],0,[(3,[0]),(6,[0]),(8,[0]),(11,[0]),(13,[0])]⟩⟩ (nO (nL ⟨[],0,⟨[hP 0 0 [1],hE 1 0 [123],hP 0 1 [2],hP 0 1 [7],hR 8 1 [126],hP 0 1 [7],hR 32 1 [128],hP 96 1 [129],hP 252 1 [125,127,130],hP 3 1 [124],hE 1023 1 [9,131],hP 2047 2 []],2,[(4,[0,1]),(6,[0,1])]⟩⟩) .nil) .nil) (nO (nO (nL ⟨[],0,⟨[hP 0 0 [11],hR 0 0 [17],hP 1 0 [134],hE 7 0 [9,135],hP 15 1 []],1,[(1,[0])]⟩⟩) .nil) .nil))) (nO (nO (nO (nL (nO (nL ⟨[],0,⟨[hP 0 0 [0],hP 0 0 [1],hP 0 0 [2],hP 6 0 [11,12],hP 1 0 [10],hP 31 0 [14,13],hR 63 0 [15],hP 127 0 [16]],0,[(6,[0])]⟩⟩) (nO (nO (nL ⟨[],0,⟨[hP 0 0 [8],hP 0 0 [1],hR 2 0 [39],hP 7 0 [38,40],hP 15 0 [41],hP 31 0 [42,0],hP 31 0 [42,1],hP 31 0 [42,8],hP 223 0 [42,44,45],hP 63 0 [42,43],hP 1023 0 [42,47,46],hR 2047 0 [42,48],hP 4095 0 [42,49],hP 8191 0 [42,50],hP 16383 0 [51,0],hP 16383 0 [51,1],hP 16383 0 [51,8],hP 114687 0 [51,53,54],hP 32767 0 [51,52],hP 524287 0 [51,56,55],hR 1048575 0 [51,57],hP 2097151 0 [51,58],hP 4194303 0 [51,59],hP 8388607 0 [60,7],hP 16777215 0 [60,61],hP 33554431 0 [51,60,62],hP 67108863 0 [42,51,63],hP 134217727 0 [42,64]],0,[(2,[0]),(11,[0]),(20,[0])]⟩⟩) .nil) .nil))) .nil) .nil) (nL (nO (nL ⟨[],0,⟨[hP 0 0 [0],hP 1 0 [3],hP 3 0 [4],hR 7 0 [5],hP 15 0 [6],hP 31 0 [7],hR 63 0 [8],hP 0 0 [0],hP 128 0 [10],hP 384 0 [11],hR 896 0 [12],hP 2047 0 [9,13]],0,[(3,[0]),(6,[0]),(10,[0])]⟩⟩) .nil))) (nS (nO (nO (nS ⟨[],0,⟨[hP 0 0 [10],hP 1 0 [27],hP 3 0 [28],hR 7 0 [29],hP 0 0 [2],hP 31 0 [30,31],hP 0 0 [10],hP 64 0 [33],hP 192 0 [34],hR 448 0 [35],hP 960 0 [36],hP 63 0 [32],hP 4095 0 [37]],0,[(3,[0]),(9,[0])]⟩⟩ .nil (nO .nil (nO .nil (nL ⟨[],0,⟨[hP 0 0 [10],hP 0 0 [10],hP 2 0 [183],hP 6 0 [184],hR 14 0 [185],hP 0 0 [7],hR 32 0 [187],hP 96 0 [188],hE 254 0 [186,189],hP 511 1 [182],hP 1023 1 [191],hE 2047 1 [192,190]],2,[(4,[0]),(6,[0])]⟩⟩)))) .nil) .nil) (nO (nL (nO .nil (nO (nL ⟨[],0,⟨[hR 0 0 [0],hP 1 0 [22],hP 3 0 [23],hR 7 0 [24],hR 0 0 [0],hP 16 0 [26],hP 48 0 [27],hR 112 0 [28],hP 240 0 [29],hP 496 0 [30],hR 1008 0 [31],hP 2032 0 [32],hP 4095 0 [25],hP 8191 0 [34],hE 16383 0 [35,33]],1,[(0,[0]),(3,[0]),(4,[0]),(7,[0]),(10,[0])]⟩⟩) .nil))) (nL (nO (nO .nil (nO (nO .nil (nL ⟨[],0,⟨[hP 0 0 [],hP 0 0 [7],hR 2 0 [87],hP 6 0 [88],hE 1 0 [4,86],hE 31 1 [5,89]],2,[(2,[0,1])]⟩⟩)) .nil)) .nil))) (nL (nO (nO .nil (nL ⟨[],0,⟨[hP 0 0 [0],hP 0 0 [1],hP 3 0 [20,21],hP 0 0 [0],hP 0 0 [2],hP 24 0 [23,24],hE 63 0 [22,25],hP 127 1 [26]],1,[]⟩⟩)) .nil)))))) (nO (nS (nO (nO .nil (nL ⟨[],0,⟨[hP 0 0 [3],hP 0 0 [1],hR 2 0 [22],hP 0 0 [4],hP 14 0 [23,24],hP 30 0 [25],hR 62 0 [26],hR 126 0 [27],hP 0 0 [1],hR 256 0 [29],hP 0 0 [4],hP 1792 0 [30,31],hP 3840 0 [32],hR 7936 0 [33],hR 16128 0 [34],hP 32766 0 [28,35],hP 65535 0 [21,36],hP 131071 0 [37]],0,[(2,[0]),(6,[0]),(7,[0]),(9,[0]),(13,[0]),(14,[0])]⟩⟩)) .nil) (nO .nil (nO (nO (nL (nO (nS ⟨[],0,⟨[hR 0 0 [0],hP 1 0 [3],hP 3 0 [4],hR 7 0 [5],hP 15 0 [6],hP 31 0 [7],hR 63 0 [8],hR 127 0 [9],hR 0 0 [0],hP 256 0 [11],hP 768 0 [12],hR 1792 0 [13],hP 4095 0 [10,14]],0,[(0,[0]),(3,[0]),(6,[0]),(7,[0]),(8,[0]),(11,[0])]⟩⟩ (nL ⟨[],0,⟨[hR 0 0 [0],hP 1 0 [16],hP 3 0 [17],hR 7 0 [18],hR 0 0 [0],hP 16 0 [20],hP 48 0 [21],hR 112 0 [22],hP 240 0 [23],hP 496 0 [24],hR 1008 0 [25],hR 0 0 [0],hP 2048 0 [27],hP 6144 0 [28],hP 14336 0 [29],hR 30720 0 [30],hP 63488 0 [31],hE 131056 0 [26,32],hP 262143 1 [19],hP 524287 1 [34],hE 1048575 1 [35,33]],2,[(0,[0,1]),(3,[0,1]),(4,[0]),(7,[0]),(10,[0]),(11,[0]),(15,[0])]⟩⟩) .nil) .nil)) .nil) .nil)) (nS (nO .nil (nO .nil (nL ⟨[],0,⟨[hP 0 0 [],hP 0 0 [5],hR 2 0 [17],hE 7 0 [16,18],hP 0 1 [],hP 0 1 [5],hR 32 1 [21],hE 127 1 [20,22],hP 111 2 [5],hE 511 2 [24,19],hP 1023 3 [5],hE 2047 3 [25,23]],4,[(2,[0]),(6,[0,1])]⟩⟩))) (nS (nO (nO .nil (nO (nO (nL ⟨[],0,⟨[hR 0 0 [1],hR 0 0 [5],hP 0 0 [5],hR 4 0 [65],hP 0 0 [6],hP 28 0 [66,67],hR 60 0 [68],hE 127 0 [63,64,69],hP 255 1 [70]],1,[(0,[0]),(1,[0]),(3,[0]),(6,[0])]⟩⟩) .nil) .nil)) (nO .nil (nL ⟨[],0,⟨[hR 0 0 [1],hP 0 0 [1],hR 2 0 [27],hP 0 0 [3],hP 14 0 [28,29],hR 30 0 [30],hE 63 0 [26,31],hP 127 1 [32]],1,[(0,[0]),(2,[0]),(5,[0])]⟩⟩))) (nO (nL (nO .nil (nL ⟨[],0,⟨[hR 0 0 [0],hP 1 0 [6],hP 3 0 [7],hR 7 0 [8],hP 15 0 [9],hP 31 0 [10],hR 63 0 [11],hP 0 0 [3],hE 128 0 [13],hP 511 1 [12],hP 1023 1 [14]],1,[(0,[0,1]),(3,[0,1]),(6,[0,1])]⟩⟩))) .nil) .nil) (nO .nil (nO (nL (nO .nil (nL ⟨[],0,⟨[hP 0 0 [0],hP 1 0 [6],hP 3 0 [7],hP 7 0 [8],hR 15 0 [9],hP 0 0 [3],hP 0 0 [0],hP 64 0 [12],hP 192 0 [13],hP 448 0 [14],hR 960 0 [15],hE 2016 0 [11,16],hP 4064 1 [17],hP 8160 1 [18],hP 16383 1 [10,19],hP 0 1 [],hE 65535 1 [4,20]],2,[(4,[0,1]),(10,[0])]⟩⟩))) (nL (nO (nL ⟨[],0,⟨[hP 0 0 [3],hR 1 0 [6],hP 0 0 [0],hP 4 0 [8],hP 12 0 [9],hR 28 0 [10],hP 0 0 [3],hR 64 0 [12],hR 252 0 [11,13],hP 0 0 [0],hP 0 0 [3],hR 1024 0 [16],hE 3584 0 [15,17],hP 8191 1 [7,14,18],hP 0 1 [],hE 32767 1 [4,19]],2,[(1,[0,1]),(5,[0,1]),(7,[0,1]),(8,[0,1]),(11,[0])]⟩⟩) .nil)))))) (nO (nS (nO .nil (nO .nil (nL ⟨[],0,⟨[hP 0 0 [2],hR 1 0 [25],hP 0 0 [5],hP 7 0 [26,27],hR 15 0 [28],hR 0 0 [6],hP 0 0 [2],hR 64 0 [31],hR 192 0 [32],hE 511 0 [29,30,33],hP 1023 1 [34]],1,[(1,[0]),(4,[0]),(5,[0]),(7,[0]),(8,[0])]⟩⟩))) (nS (nO .nil (nO .nil (nL ⟨[],0,⟨[hP 0 0 [0],hP 0 0 [5],hP 3 0 [17,18],hR 7 0 [19],hP 0 0 [1],hP 0 0 [5],hP 48 0 [21,22],hR 112 0 [23],hP 255 0 [20,24]],0,[(3,[0]),(7,[0])]⟩⟩))) (nO (nL (nO (nL ⟨[],0,⟨[hR 0 0 [0],hP 1 0 [3],hP 3 0 [4],hR 7 0 [5],hP 15 0 [6],hP 31 0 [7],hR 63 0 [8],hR 0 0 [0],hP 128 0 [10],hP 384 0 [11],hR 896 0 [12],hP 2047 0 [9,13]],0,[(0,[0]),(3,[0]),(6,[0]),(7,[0]),(10,[0])]⟩⟩) .nil)) .nil) (nO (nS (nO (nL ⟨[],0,⟨[hR 0 0 [0],hP 1 0 [3],hP 3 0 [4],hP 7 0 [5],hR 15 0 [6],hR 0 0 [0],hP 32 0 [8],hP 96 0 [9],hR 224 0 [10],hP 480 0 [11],hP 992 0 [12],hR 2016 0 [13],hR 0 0 [0],hP 4096 0 [15],hP 12288 0 [16],hP 28672 0 [17],hR 61440 0 [18],hP 131040 0 [14,19],hE 262112 0 [20],hP 524287 1 [7],hP 1048575 1 [21]],1,[(0,[0,1]),(4,[0,1]),(5,[0]),(8,[0]),(11,[0]),(12,[0]),(16,[0])]⟩⟩) .nil) (nL (nO .nil (nS ⟨[],0,⟨[hP 0 0 [0],hP 0 0 [3],hR 2 0 [10],hP 0 0 [3],hR 8 0 [12],hE 24 0 [13],hE 63 1 [9,11,14],hP 127 2 [15]],2,[(2,[0,1]),(4,[0])]⟩⟩ (nO (nL ⟨[],0,⟨[hP 0 0 [0],hP 1 0 [27],hP 3 0 [28],hR 7 0 [29],hP 0 0 [3],hR 16 0 [31],hE 63 0 [30,32]],1,[(3,[0]),(5,[0])]⟩⟩) .nil) .nil))) .nil) .nil)) (nO (nO (nL (nO (nS ⟨[],0,⟨[hR 0 0 [0],hP 1 0 [4],hP 3 0 [5],hR 7 0 [6],hR 0 0 [0],hP 16 0 [8],hP 48 0 [9],hR 112 0 [10],hP 255 0 [7,11],hP 511 0 [12]],0,[(0,[0]),(3,[0]),(4,[0]),(7,[0])]⟩⟩ .nil (nL ⟨[],0,⟨[hR 0 0 [0],hP 1 0 [25],hP 3 0 [26],hR 7 0 [27],hR 0 0 [0],hP 16 0 [29],hP 48 0 [30],hR 112 0 [31],hP 240 0 [32],hP 496 0 [33],hR 1008 0 [34],hP 0 0 [0],hE 4080 0 [35,36],hR 0 1 [0],hP 8192 1 [38],hP 24576 1 [39],hR 57344 1 [40],hP 122880 1 [41],hE 262128 1 [37,42],hP 524287 2 [28],hP 1048575 2 [44],hE 2097151 2 [45,43]],3,[(0,[0,1,2]),(3,[0,1,2]),(4,[0]),(7,[0]),(10,[0]),(13,[0,1]),(16,[0,1])]⟩⟩)) (nL ⟨[],0,⟨[hP 0 0 [3],hP 1 0 [13],hP 3 0 [14],hR 7 0 [15],hR 0 0 [0],hP 16 0 [17],hP 48 0 [18],hR 112 0 [19],hP 255 0 [16,20]],0,[(3,[0]),(4,[0]),(7,[0])]⟩⟩))) (nO (nL (nO (nO .nil (nL ⟨[],0,⟨[hP 0 0 [6],hR 0 0 [5],hR 0 0 [0],hE 4 0 [21],hP 14 1 [20,22],hP 31 1 [19,23],hE 63 1 [5,24]],2,[(1,[0,1]),(2,[0])]⟩⟩)) .nil)) .nil)) (nL (nO (nO .nil (nL ⟨[],0,⟨[hR 0 0 [0],hP 1 0 [15],hP 3 0 [16],hR 7 0 [17],hR 0 0 [0],hP 16 0 [19],hP 48 0 [20],hR 112 0 [21],hP 240 0 [22],hP 496 0 [23],hR 1008 0 [24],hR 0 0 [0],hP 2048 0 [26],hP 6144 0 [27],hR 14336 0 [28],hP 30720 0 [29],hE 65520 0 [25,30],hP 131071 1 [18],hP 262143 1 [32],hE 524287 1 [33,31]],2,[(0,[0,1]),(3,[0,1]),(4,[0]),(7,[0]),(10,[0]),(11,[0]),(14,[0])]⟩⟩)) .nil)))) (nS (nO (nO (nO .nil (nL ⟨[],0,⟨[hP 0 0 [11],hP 0 0 [2],hP 0 0 [7],hR 4 0 [88],hP 0 0 [7],hR 16 0 [90],hP 0 0 [12],hP 126 0 [87,89,91,92],hP 1 0 [86],hE 511 0 [9,93],hP 1023 1 []],1,[(3,[0]),(5,[0])]⟩⟩)) (nO (nL ⟨[],0,⟨[hP 0 0 [1],hE 1 0 [75],hP 0 1 [2],hP 0 1 [7],hR 8 1 [78],hP 0 1 [7],hR 32 1 [80],hP 96 1 [81],hP 252 1 [77,79,82],hP 3 1 [76],hE 1023 1 [9,83],hP 2047 2 []],2,[(4,[0,1]),(6,[0,1])]⟩⟩) .nil)) (nS ⟨[],0,⟨[hR 0 0 [4],hP 0 0 [1],hE 3 0 [16,17],hP 7 1 [18],hP 15 1 [19],hP 31 1 [20,2],hP 63 1 [20,21],hP 127 1 [20,22],hP 255 1 [23],hP 511 1 [24,2],hP 511 1 [24,4],hR 1535 1 [24,26],hR 3583 1 [24,27],hP 8191 1 [24,25,28],hP 16383 1 [24,29],hP 32767 1 [30],hP 65535 1 [31,7],hR 131071 1 [31,32],hP 262143 1 [31,33],hP 524287 1 [31,34],hP 1048575 1 [35],hP 2097151 1 [36,7],hR 4194303 1 [36,37],hP 2097151 1 [36,4],hR 10485759 1 [36,39],hR 27262975 1 [36,40],hP 67108863 1 [36,38,41],hP 134217727 1 [36,42],hP 268435455 1 [43],hP 536870911 1 [44,7],hR 1073741823 1 [44,45],hE 2147483647 1 [44,46],hP 536870911 2 [44,4],hR 4831838207 2 [44,48],hP 536870911 2 [44,7],hR 17716740095 2 [44,50],hP 64961380351 2 [44,49,51],hP 133680857087 2 [44,52],hR 271119810559 2 [44,53],hP 549755813887 2 [44,47,54],hP 1099511627775 2 [44,55]],2,[(0,[0]),(11,[1]),(12,[1]),(17,[1]),(22,[1]),(24,[1]),(25,[1]),(30,[1]),(33,[1,2]),(35,[1,2]),(38,[1,2])]⟩⟩ (nO .nil (nL ⟨[],0,⟨[hP 0 0 [11],hP 0 0 [2],hP 0 0 [7],hR 4 0 [96],hP 0 0 [7],hR 16 0 [98],hP 0 0 [12],hP 126 0 [95,97,99,100],hP 1 0 [94],hE 511 0 [9,101],hP 1023 1 []],1,[(3,[0]),(5,[0])]⟩⟩)) .nil)) (nS (nO (nO .nil (nO (nL ⟨[],0,⟨[hP 0 0 [4],hR 1 0 [101],hP 0 0 [10],hP 7 0 [102,103],hR 15 0 [104],hP 31 0 [105],hP 63 0 [106],hP 127 0 [107,4],hR 255 0 [107,108],hP 127 0 [107,10],hP 1023 0 [107,109,110],hR 2047 0 [107,111],hP 127 0 [107,2],hP 8191 0 [107,112,113],hP 16383 0 [107,114],hP 32767 0 [115],hP 65535 0 [116,4],hR 131071 0 [116,117],hP 65535 0 [116,10],hP 524287 0 [116,118,119],hR 1048575 0 [116,120],hP 65535 0 [116,4],hR 2162687 0 [116,122],hP 65535 0 [116,10],hP 14745599 0 [116,123,124],hE 33554431 0 [116,121,125],hP 67108863 1 [116,126],hP 134217727 1 [116,127]],1,[(1,[0]),(4,[0]),(8,[0]),(11,[0]),(17,[0]),(20,[0]),(22,[0])]⟩⟩) .nil)) .nil) (nS (nO (nL ⟨[],0,⟨[hP 0 0 [5],hR 1 0 [9],hP 0 0 [4],hR 4 0 [11],hR 12 0 [12],hE 31 0 [10,13],hP 0 1 [5],hR 64 1 [15],hP 0 1 [4],hR 256 1 [17],hR 768 1 [18],hP 1792 1 [19],hE 4095 1 [16,20],hP 8191 2 [14],hP 16383 2 [21]],2,[(1,[0]),(3,[0]),(4,[0]),(7,[0,1]),(9,[0,1]),(10,[0,1])]⟩⟩) (nO (nL ⟨[],0,⟨[hP 0 0 [5],hR 1 0 [26],hP 3 0 [27],hP 7 0 [28],hP 15 0 [29,5],hR 31 0 [29,30],hP 63 0 [29,31],hP 127 0 [29,32],hP 255 0 [33],hP 511 0 [34,5],hR 1023 0 [34,35],hP 511 0 [34,3],hR 2559 0 [34,37],hR 6655 0 [34,38],hE 16383 0 [34,36,39],hP 32767 1 [34,40],hP 65535 1 [34,41],hP 131071 1 [42],hP 262143 1 [43,3],hR 524287 1 [43,44],hP 262143 1 [43,5],hR 1310719 1 [43,46],hP 4194303 1 [43,45,47],hP 8388607 1 [43,48],hR 16777215 1 [43,49],hP 262143 1 [43,5],hR 33816575 1 [43,51],hE 100925439 1 [43,52],hP 268435455 2 [43,50,53],hP 536870911 2 [43,54],hP 1073741823 2 [55],hP 2147483647 2 [56,5],hR 4294967295 2 [56,57],hR 8589934591 2 [56,58],hP 2147483647 2 [56,5],hR 19327352831 2 [56,60],hE 53687091199 2 [56,61],hP 137438953471 3 [56,59,62],hP 274877906943 3 [56,63],hP 549755813887 3 [64],hP 1099511627775 3 [65,5],hR 2199023255551 3 [65,66],hP 4398046511103 3 [65,67],hP 8796093022207 3 [65,68],hP 17592186044415 3 [69,8],hP 35184372088831 3 [69,70],hP 70368744177663 3 [65,69,71],hP 140737488355327 3 [65,72]],3,[(1,[0]),(5,[0]),(10,[0]),(12,[0]),(13,[0]),(19,[1,2]),(21,[1,2]),(24,[1,2]),(26,[1]),(32,[2,3]),(33,[2,3]),(35,[2]),(41,[3])]⟩⟩) .nil)) .nil (nL (nO (nO (nO (nO (nL ⟨[],0,⟨[hP 0 0 [9],hP 1 0 [61],hP 3 0 [62],hP 7 0 [63,4],hR 15 0 [63,64],hP 31 0 [63,65],hP 63 0 [63,66],hP 127 0 [67],hP 255 0 [68,4],hR 511 0 [68,69],hP 255 0 [68,0],hP 1279 0 [68,71],hP 3327 0 [68,72],hR 7423 0 [68,73],hP 16383 0 [68,70,74],hP 32767 0 [68,75],hP 65535 0 [76],hP 131071 0 [77,4],hR 262143 0 [77,78],hP 524287 0 [77,79],hP 1048575 0 [77,80],hP 2097151 0 [77,81],hE 4194303 0 [77,82],hP 8388607 1 [77,83],hP 16777215 1 [84]],1,[(4,[0]),(9,[0]),(13,[0]),(18,[0])]⟩⟩) .nil) .nil) .nil) .nil))) .nil) (nL (nO (nO (nO (nL ⟨[],0,⟨[hP 0 0 [5],hR 1 0 [27],hP 0 0 [4],hE 4 0 [29],hP 12 1 [30],hE 31 1 [28,31],hP 63 2 [5],hE 127 2 [33,32]],3,[(1,[0,1])]⟩⟩) .nil) .nil) (nO .nil (nO .nil (nL ⟨[],0,⟨[hP 0 0 [],hP 0 0 [4],hP 2 0 [58],hP 6 0 [59],hR 14 0 [60],hE 1 0 [2,57],hE 63 1 [3,61]],2,[(4,[0,1])]⟩⟩)))))))))
end Go.As.Try
end
section
namespace Go.As.Try
open Go Go.As Go.Proofs
set_option maxRecDepth 100000
theorem ajJ:(List.range 244).map tab.get=(List.range 244).map (atM Tryz.prog):=by kernel_rfl
theorem XG:(List.range 210).map U9.get=(List.range 210).map (fun g=>Tryz.prog.funcs[g]?):=by kernel_rfl
theorem aoR:(List.range 210).all (fun g=>match U9.get g with |some f=>aBH (VX (lim 244 tab) (hAt htab) g) f|none=>true)=true:=by kernel_rfl
theorem mixed:Tryz.prog.follows .mixedOrders=true:=by kernel_rfl
end Go.As.Try
namespace Go.Proofs
open Go.Shelf
def Tryz.laysM144_ren:Go.Shelf.Ren:=⟨fun|144=>135|143=>155|219=>169|217=>168|225=>177|224=>178|267=>179|266=>176|314=>185|n=>n,fun|9=>9|4=>4|3=>3|5=>5|46=>219|146=>225|51=>222|n=>n,fun|1=>0|n=>n⟩
theorem Tryz.laysM144:Go.Proofs.LaysM.n144 Tryz.prog Tryz.laysM144_ren where
 mixed:=by kernel_rfl
 f143:=Tryz.func155.trans (congrArg some (by kernel_rfl))
 f144:=Tryz.func135.trans (congrArg some (by kernel_rfl))
 f217:=Tryz.func168.trans (congrArg some (by kernel_rfl))
 f219:=Tryz.func169.trans (congrArg some (by kernel_rfl))
 f224:=Tryz.func178.trans (congrArg some (by kernel_rfl))
 f225:=Tryz.func177.trans (congrArg some (by kernel_rfl))
 f266:=Tryz.func176.trans (congrArg some (by kernel_rfl))
 f267:=Tryz.func179.trans (congrArg some (by kernel_rfl))
 f314:=Tryz.func185.trans (congrArg some (by kernel_rfl))
 t3:=Tryz.underlying3
 a3:=Tryz.isAgg3
 z3:=Tryz.sizeOf3
 v3:=Tryz.zeroValue3
 t4:=Tryz.underlying4
 a4:=Tryz.isAgg4
 z4:=Tryz.sizeOf4
 v4:=Tryz.zeroValue4
 t5:=Tryz.underlying5
 a5:=Tryz.isAgg5
 z5:=Tryz.sizeOf5
 v5:=Tryz.zeroValue5
 t9:=Tryz.underlying9
 a9:=Tryz.isAgg9
 z9:=Tryz.sizeOf9
 v9:=Tryz.zeroValue9
 t46:=Tryz.underlying219
 a46:=Tryz.isAgg219
 z46:=Tryz.sizeOf219
 v46:=Tryz.zeroValue219
 t51:=Tryz.underlying222
 a51:=Tryz.isAgg222
 z51:=Tryz.sizeOf222
 v51:=Tryz.zeroValue222
 t146:=Tryz.underlying225
 a146:=Tryz.isAgg225
 z146:=Tryz.sizeOf225
 v146:=Tryz.zeroValue225
 g1:=by kernel_rfl
 i3:=by kernel_rfl
 i4:=by kernel_rfl
 i5:=by kernel_rfl
 i9:=by kernel_rfl
 i46:=by kernel_rfl
 i51:=by kernel_rfl
 i146:=by kernel_rfl
 m1:=by kernel_rfl
 s1_3:=fun w h=>Go.Proofs.cell_of_shapedOpen_int (zero:=#[.int .i64 0]) (t:=3) h (of_decide_eq_true (by kernel_rfl)) (by kernel_rfl) rfl (by kernel_rfl) (by kernel_rfl) Tryz.underlying3
end Go.Proofs
end

import Derived.Deep.LoopGhost
import Derived.IntWalk
import Derived.ChangeArms
import Derived.DataReads
import GoSem.ClaimJoined
import Derived.OpenShut
import Derived.Test.YtopneoeampkonabGreatDoorAsZS1
set_option linter.unusedSectionVars false
set_option linter.unusedVariables false
set_option linter.unusedSimpArgs false
section
namespace Go.As
noncomputable section
open Go.RowKit
section
variable {P:Program}
theorem w5 {g:FuncId} {fn:Func} {e:Array Value->Sem Value} (hf:P.funcs[g]?=some fn) (mi:(fn.name == "runtime.NumGoroutine")=false) (hb:fn.body.isNone=true) (hn:Extern.findNext fn=none) (he:Extern.find fn=some e)
 {args:Array Value} {w:World} {u:Value} (hr:(e args).run P w= .ok u w):(callFunc g args).run P w= .ok (.value u) w:=by
 have rQ:fn.body=none:=by simpa using hb
 unfold callFunc;simp [hf,rQ,by simpa using mi,hn,he,hr]
def FO (c:Nat):List Nat->Nat
 |[]=>0
 |x::xs=>if x.beq c then FO c xs+1 else FO c xs
def Bv:List Y->St->T (Y×St):=fun args s=>match args with
 |[.str b,.int .u8 (.lit (.ofNat c))]=>if c<256 then .ret (.int .i64 (.lit (Int.ofNat (FO c b))),s) else .fail
 |_=> .fail
theorem IQ {a b:Nat} (ha:a<256) (hb:b<256):(UInt8.ofNat a == UInt8.ofNat b)=a.beq b:=by
 rw [amA];simp only [beq_iff_eq,Nat.beq_eq];constructor
 ·intro h;have:=congrArg UInt8.toNat h;simp only [amN] at this;omega
 grind
theorem Ip {c:Nat} (hc:c<256): ∀{s:List Nat},(∀b∈s,b<256)->Lib.countByte (s.map UInt8.ofNat) (UInt8.ofNat c)=FO c s
 |[],_=>rfl
 |x::xs,h=>by
  have ih:=Ip hc (s:=xs) fun b hb=>h b (by simp [hb]);unfold Lib.countByte at *;rw [aH,List.count_cons,ih,IQ (h x ad) hc];simp only [FO]
  grind
theorem i? [bJ] {g:FuncId} {fn:Func} (hf:P.funcs[g]?=some fn) (mi:(fn.name == "runtime.NumGoroutine")=false) (hb:fn.body.isNone=true) (hn:Extern.findNext fn=none) (he:Extern.find fn=some Extern.BytealgCount.count):kR P g Bv:=by
 intro aml s E w vals u s' r hv hp W;unfold Bv at W;split at W
 ·rename_i b c;split at W
  ·rename_i hc;have:=bE W;simp only [aq] at this;obtain⟨rfl,rfl⟩:=this;simp only [cJ,VR,V.den] at hv;obtain⟨u1,r1,rfl,⟨rfl,NJ⟩,u2,r2,rfl,rfl,rfl⟩:=hv;refine⟨rfl,hp,?_⟩;unfold mr oQ;rw [w5 hf mi hb hn he (Lib.run_countString (dy b) (Int.ofNat c) w)];refine⟨E,fj.refl _ _ _,r,?_⟩;simp only [VR,V.den];have:(Int.ofNat c).toNat.toUInt8=UInt8.ofNat c:=rfl;rw [this];have Z:(dy b).data.toList=b.map UInt8.ofNat:=by simp [dy]
   rw [Z,Ip hc NJ];rfl
  ·simp [T.leaf] at W
 ·simp [T.leaf] at W
def EH (c:Nat):List Nat->Int
 |[]=> -1
 |x::xs=>if x.beq c then 0 else match EH c xs with
  | .ofNat n=> .ofNat (n+1)
  | .negSucc n=> .negSucc n
def Bu:List Y->St->T (Y×St):=fun args s=>match args with
 |[.str b,.int .u8 (.lit (.ofNat c))]=>if c<256 then .ret (.int .i64 (.lit (EH c b)),s) else .fail
 |_=> .fail
theorem HJ {c:Nat} (hc:c<256): ∀{s:List Nat},(∀b∈s,b<256)->Lib.indexByte (s.map UInt8.ofNat) (UInt8.ofNat c)=EH c s
 |[],_=>rfl
 |x::xs,h=>by
  have ih:=HJ hc (s:=xs) fun b hb=>h b (by simp [hb]);have UA:=Lib.indexByte_ge (xs.map UInt8.ofNat) (UInt8.ofNat c);simp only [aH,Lib.indexByte,EH];rw [IQ (h x ad) hc];cases x.beq c
  ·simp only [aC,if_false];rw [ih] at UA ⊢
   cases hi:EH c xs with
   |ofNat n=>rw [hi] at UA; simp
   |negSucc n=>
    grind
  ·rfl
theorem Yl [bJ] {g:FuncId} {fn:Func} (hf:P.funcs[g]?=some fn) (mi:(fn.name == "runtime.NumGoroutine")=false) (hb:fn.body.isNone=true) (hn:Extern.findNext fn=none) (he:Extern.find fn=some Extern.BytealgIndexByte.indexByte):kR P g Bu:=by
 intro aml s E w vals u s' r hv hp W;unfold Bu at W;split at W
 ·rename_i b c;split at W
  ·rename_i hc;have:=bE W;simp only [aq] at this;obtain⟨rfl,rfl⟩:=this;simp only [cJ,VR,V.den] at hv;obtain⟨u1,r1,rfl,⟨rfl,NJ⟩,u2,r2,rfl,rfl,rfl⟩:=hv;refine⟨rfl,hp,?_⟩;unfold mr oQ;rw [w5 hf mi hb hn he (Lib.run_indexByteString (dy b) (Int.ofNat c) w)];refine⟨E,fj.refl _ _ _,r,?_⟩;simp only [VR,V.den];have:(Int.ofNat c).toNat.toUInt8=UInt8.ofNat c:=rfl;rw [this];have Z:(dy b).data.toList=b.map UInt8.ofNat:=by simp [dy]
   rw [Z,HJ hc NJ]
  ·simp [T.leaf] at W
 ·simp [T.leaf] at W
def Lx:List Nat->List Nat->Bool
 |[],_=>true
 |_::_,[]=>false
 |a::x,b::y=>if a.beq b then Lx x y else false
def yW (c:List Nat):List Nat->Bool
 |[]=>Lx c []
 |b::bs=>if Lx c (b::bs) then true else yW c bs
def tV:List Y->St->T (Y×St):=fun args s=>match args with
 |[.str b,.str c]=>if b.length<4294967281 then .ret (.bool (.lit (yW c b)),s) else .fail
 |_=> .fail
theorem QZ: ∀{c s:List Nat},(∀b∈c,b<256)->(∀b∈s,b<256)->(c.map UInt8.ofNat).isPrefixOf (s.map UInt8.ofNat)=Lx c s
 |[],_,_,_=>by simp [Lx]
 |_::_,[],_,_=>by simp [Lx]
 |a::x,b::y,hc,hs=>by
  have ih:=QZ (c:=x) (s:=y) (fun z hz=>hc z (by simp [hz])) (fun z hz=>hs z (by simp [hz]));simp only [aH,List.isPrefixOf,Lx];rw [IQ (hc a ad) (hs b ad),ih]
  grind
theorem index_ge (sub:List UInt8): ∀l:List UInt8,-1<=Lib.index l sub
 |[]=>by unfold Lib.index; split<;>omega
 |b::l=>by
  have ih:=index_ge sub l;unfold Lib.index
  grind
theorem DJ {c:List Nat} (hc: ∀b∈c,b<256): ∀{s:List Nat},(∀b∈s,b<256)->Lib.contains (s.map UInt8.ofNat) (c.map UInt8.ofNat)=yW c s
 |[],_=>by cases c<;>simp [Lib.contains,Lib.index,yW,Lx]
 |b::bs,h=>by
  have ih:=DJ hc (s:=bs) fun z hz=>h z (by simp [hz]);have hp:=QZ hc h;simp only [aH] at hp;unfold Lib.contains at *;simp only [aH,Lib.index,yW]
  grind
theorem MX [bJ] {g:FuncId} (hg: ∀(ρ:Nat->Int) (ro:Nat->Prop) (w:World),bJ.ok ρ ro w.heap->∀s sub:ByteArray,s.size<4294967281->Calls P g #[.string s,.string sub] w fun e w'=>e= .returned (.bool (Lib.contains s.data.toList sub.data.toList))/\w'=w)
 (mD: ∀(args:Array Value) (w:World),(callFunc g args).run P w= .ok (.enter g args) w):kR P g tV:=by
 intro aml s E w vals u s' r hv hp W;unfold tV at W;split at W
 ·rename_i b c;split at W
  ·rename_i hlen;have:=bE W;simp only [aq] at this;obtain⟨rfl,rfl⟩:=this;simp only [cJ,VR] at hv;obtain⟨u1,r1,rfl,⟨rfl,NJ⟩,u2,r2,rfl,⟨rfl,Vu⟩,rfl⟩:=hv;refine⟨rfl,hp,?_⟩;unfold mr oQ;rw [mD];refine Calls.mono (hg E.ρ E.ro w r.ku (dy b) (dy c) (by simpa [dy,ByteArray.size] using hlen)) fun e w' ⟨he,hw⟩=>?_;subst hw;refine⟨_,he,E,fj.refl _ _ _,r,?_⟩;simp only [VR,SB.den];have Z: ∀l:List Nat,(dy l).data.toList=l.map UInt8.ofNat:=by intro l; simp [dy]
   rw [Z,Z,DJ Vu NJ]
  ·simp [T.leaf] at W
 ·simp [T.leaf] at W
end
end
end Go.As
end
section
namespace Go.As
noncomputable section
structure CR where
 m:Nat
 k:Kind
 st:Nat
 rd:List Nat
structure Nz where
 is:List CR
 nE:Nat
 rs:List (Nat×List Nat)
def OK:Kind->Kind->Bool
 | .pa,.pa=>true
 | .e,.e=>true
 | .r,.r=>true
 |_,_=>false
def ym:List Nat->List Nat->Bool
 |[],[]=>true
 |a::x,b::y=>Nat.beq a b&&ym x y
 |_,_=>false
def Bc:List Item->List CR->Bool
 |[],[]=>true
 |x::xs,d::ds=>Nat.beq x.m d.m&&OK x.k d.k&&Nat.beq x.st d.st&&ym x.rd d.rd&&Bc xs ds
 |_,_=>false
def Ba:List (Item×List Nat)->List (Nat×List Nat)->Bool
 |[],[]=>true
 |(x,ks)::xs,(i,js)::ys=>Nat.beq x.i i&&ym ks js&&Ba xs ys
 |_,_=>false
def A0:Nat->List Oper->List CR->List Item
 |i,o::os,d::ds=> ⟨i,o,d.m,d.k,d.st,d.rd⟩ ::A0 (i+1) os ds
 |_,_,_=>[]
def T0 (is:List Item):List (Nat×List Nat)->List (Item×List Nat)
 |[]=>[]
 |(i,ks)::r=>match fu is i with
  |some x=>(x,ks)::T0 is r
  |none=>T0 is r
def statOf (all:List Oper) (H:Nz):Stat:=⟨A0 0 all H.is,H.nE,T0 (A0 0 all H.is) H.rs⟩
def vI (tt:TT) (all:List Oper) (H:Nz):Bool:=match stat tt all with
 |none=>false
 |some q=>Bc q.is H.is&&Nat.beq q.nE H.nE&&Ba q.rs H.rs
theorem Uo {a b:Kind} (h:OK a b=true):a=b:=by cases a<;>cases b<;>simp [OK] at h<;>rfl
theorem Bk: ∀{a b:List Nat},ym a b=true->a=b
 |[],[],_=>rfl
 |[],_::_,h=>by simp [ym] at h
 |_::_,[],h=>by simp [ym] at h
 |a::x,b::y,h=>by simp only [ym,au] at h;rw [az h.1,Bk h.2]
theorem HF {tt:TT} {all:List Oper} {ms:List Nat}: ∀{os:List Oper} {i n:Nat} {ds:List CR},Bc (items tt all ms os i n) ds=true->items tt all ms os i n=A0 i os ds
 |[],i,n,ds,h=>by cases ds<;>simp [items,Bc,A0] at *
 |o::os,i,n,ds,h=>by
  cases ds with
  |nil=>simp [items,Bc] at h
  |cons d ds=> simp only [items,Bc,au] at h;obtain⟨⟨⟨⟨U,Z⟩,h3⟩,h4⟩,h5⟩:=h;have ih:=HF h5;simp only [items,A0];rw [ih,az U,Uo Z,az h3,Bk h4]
theorem QW {is:List Item}: ∀{xs:List (Item×List Nat)} {ys:List (Nat×List Nat)},(∀p∈xs,fu is p.1.i=some p.1)->Ba xs ys=true->T0 is ys=xs
 |[],[],_,_=>rfl
 |[],_::_,_,h=>by simp [Ba] at h
 |_::_,[],_,h=>by simp [Ba] at h
 |(x,ks)::xs,(i,js)::ys,hm,h=>by simp only [Ba,au] at h;have U:=hm (x,ks) ad;simp only [T0];rw [<- az h.1.1,U,<- Bk h.1.2,QW (fun p hp=>hm p (by simp [hp])) h.2]
theorem K4: ∀{i:Nat} {os:List Oper} {ds:List CR} {x:Item},x∈A0 i os ds->i<=x.i/\fu (A0 i os ds) (x.i-i)=some x
 |_,[],_,_,h=>by simp [A0] at h
 |_,_::_,[],_,h=>by simp [A0] at h
 |i,o::os,d::ds,x,h=>by
  simp only [A0,aF] at h ⊢;rcases h with rfl|h
  ·simp [fu]
  ·obtain⟨U,Z⟩:=K4 h;refine⟨J,?_⟩;have:x.i-i=(x.i-(i+1))+1:=J
   rw [this];exact Z
theorem By {tt:TT} {all:List Oper} {H:Nz} (h:vI tt all H=true):stat tt all=some (statOf all H):=by
 unfold vI at h;split at h
 ·grind
 ·rename_i q hq;rw [hq];simp only [au] at h;obtain⟨⟨U,Z⟩,h3⟩:=h;have RL:=hq;unfold stat at RL;simp only at RL;split at RL
  ·simp only [an] at RL;subst RL;have e1:=HF U;simp only at Z h3
   have e3:T0 (A0 0 all H.is) H.rs=_:=QW (is:=A0 0 all H.is) (by
    intro p hp;simp only [bd,amM] at hp;obtain⟨x,⟨hx,_⟩,rfl⟩:=hp;rw [e1] at hx;have:=(K4 hx).2
    simpa using this) h3
   unfold statOf;rw [e3,<- az Z,<- e1]
  grind
end
end Go.As
end
section
namespace Go.As
noncomputable section
def xF (pos:Nat->Nat) (o:Oper):Oper:={ o with after:=o.after.map (fun e=>{ e with on:=pos e.on }),guard:=match o.guard with |none=>none|some (j,b)=>some (pos j,b) }
def posOf:List Nat->Nat->Nat
 |[],_=>0
 |x::xs,i=>match Nat.beq x i with
  |true=>0
  |false=>posOf xs i+1
def Ch (pos:Nat->Nat) (all:List Oper):List Nat->List Oper
 |[]=>[]
 |i::is=>match fu all i with
  |some o=>xF pos o::Ch pos all is
  |none=>[]
def gw (ord:List Nat) (all:List Oper):List Oper:=Ch (posOf ord) all ord
def Jd (ord:List Nat) (n:Nat):Bool:=
 Nat.beq ord.length n&&(List.range n).all (fun i=>match fu ord (posOf ord i) with |some j=>Nat.beq i j|none=>false)&&
 (List.range n).all (fun j=>match fu ord j with |some i=>Nat.blt i n&&Nat.beq (posOf ord i) j|none=>false)
theorem Ly: ∀(ord:List Nat) (i:Nat),posOf ord i<=ord.length
 |[],_=>ay _
 |x::xs,i=>by
  simp only [posOf,aQ];split
  ·omega
  ·have:=Ly xs i; omega
theorem Hd: ∀(ord:List Nat) (i:Nat),posOf ord i<ord.length->ord[posOf ord i]?=some i
 |[],_,h=>by simp [posOf] at h
 |x::xs,i,h=>by
  simp only [posOf,aQ] at h ⊢;split
  ·rename_i he;simp_all
  ·rename_i he;rw [he] at h;simp only at h;simpa using Hd xs i J
structure Perm (n:Nat) (ord:List Nat):Prop where
 len:ord.length=n
 at': ∀i,i<n->ord[posOf ord i]?=some i
 back: ∀j,j<n->∃i,ord[j]?=some i/\i<n/\posOf ord i=j
theorem Ub {ord:List Nat} {n:Nat} (h:Jd ord n=true):Perm n ord:=by
 unfold Jd at h;simp only [au,bj,amB] at h;obtain⟨⟨U,Z⟩,h3⟩:=h;refine⟨az U,fun i hi=>?_,fun j hj=>?_⟩
 ·have:=Z i hi;split at this
  all_goals simp_all [dC]
 simp_all [dC]
theorem Perm.lt {n:Nat} {ord:List Nat} (p:Perm n ord) {i:Nat} (hi:i<n):posOf ord i<n:=by
 have:=p.at' i hi;rw [<- p.len]
 grind
theorem Perm.ge {n:Nat} {ord:List Nat} (p:Perm n ord) {i:Nat} (hi: ¬i<n):posOf ord i=n:=by
 have U:=Ly ord i;rw [p.len] at U;rcases bg (posOf ord i) n with h|h
 ·have Z:=Hd ord i (by rw [p.len]; exact h);obtain⟨k,h3,h4,_⟩:=p.back _ h
  grind
 ·omega
theorem Perm.inj {n:Nat} {ord:List Nat} (p:Perm n ord) {i j:Nat} (hi:i<n) (hj:j<n) (h:posOf ord i=posOf ord j):i=j:=by
 have U:=p.at' i hi;have Z:=p.at' j hj
 grind
theorem Hf {pos:Nat->Nat} {all:List Oper}: ∀{is:List Nat},(∀i∈is,i<all.length)->∀j:Nat,(Ch pos all is)[j]?=(is[j]?).bind fun i=>(all[i]?).map (xF pos)
 |[],_,j=>by simp [Ch]
 |i::is,h,j=>by
  have hi:=h i ad;have ih:=Hf (pos:=pos) (is:=is) fun k hk=>h k (by simp [hk])
  grind [Ch,dC]
section
variable {P:Program}
theorem oz {ord:List Nat} {ops:Array Oper} (p:Perm ops.size ord) {i:Nat} (hi:i<ops.size):(gw ord ops.toList)[posOf ord i]?=(ops[i]?).map (xF (posOf ord)):=by
 unfold gw
 rw [Hf (by
  intro k hk;obtain⟨j,hj,rfl⟩:=am7 hk;obtain⟨i',U,Z,_⟩:=p.back j (by rw [<- p.len]; exact hj);rw [aT hj] at U;simp only [an] at U;rw [U]
  simpa using Z),p.at' i hi]
 simp
theorem vw {ord:List Nat} {ops:Array Oper} (p:Perm ops.size ord):(gw ord ops.toList).length=ops.size:=by
 have h0: ∀j,j<ops.size->(gw ord ops.toList)[j]?.isSome=true:=by
  intro j hj;obtain⟨i,_,Z,h3⟩:=p.back j hj
  grind [oz]
 have hle:(gw ord ops.toList).length<=ops.size:=by
  have: ∀(is:List Nat),(Ch (posOf ord) ops.toList is).length<=is.length:=by
   intro is
   induction is with
   |nil=>simp [Ch]
   |cons i is ih=>simp only [Ch]; split<;>simp; omega
  have:=this ord;rw [p.len] at this;exact this
 rcases bg (gw ord ops.toList).length ops.size with h|h
 all_goals grind
theorem Xz (pos:Nat->Nat) (o:Oper) (a:Act) (w:World) (K:Act->World->Prop) (Q:Exit->Act->World->Prop):(xF pos o).wp P a w K Q=o.wp P a w K Q:=rfl
theorem Oq (pos:Nat->Nat) (o:Oper) (a:Act) (w:World):(xF pos o).asks P a w=o.asks P a w:=rfl
theorem IL {ord:List Nat} {ops:Array Oper} (p:Perm ops.size ord) (tmps:Array Value) (j:Nat):yielded (gw ord ops.toList).toArray tmps (posOf ord j)=yielded ops tmps j:=by
 unfold yielded
 have:((gw ord ops.toList).toArray[posOf ord j]?).bind (·.dst)=(ops[j]?).bind (·.dst):=by
  rw [an6];rcases bg j ops.size with h|h
  ·rw [oz p h];cases ops[j]?<;>rfl
  ·rw [p.ge J,am8 (by rw [vw p]; exact ay _),an7 h]
 grind
theorem K9 {ord:List Nat} {ops:Array Oper} (p:Perm ops.size ord) (tmps:Array Value) (o:Oper) :
 Region.wanted (xF (posOf ord) o) (yielded (gw ord ops.toList).toArray tmps)=Region.wanted o (yielded ops tmps):=by
 unfold Region.wanted xF
 cases hg:o.guard with
 |none=>rfl
 |some g=> obtain⟨j,b⟩:=g;simp only;rw [IL p]
theorem ky {md:Region.Mode} {ops:Array Oper} {listed:Array Bool} {i:Nat}:i∈Region.ready md ops listed↔∃o,ops[i]?=some o/\listed.getD i true=false/\∀e∈o.after.toList,Region.binds md e=true->listed.getD e.on false=true:=by
 unfold Region.ready;simp only [amM,amB,au,amJ];constructor
 ·rintro⟨U,Z,h3⟩;have e:=aon U;refine⟨_,e,Z,?_⟩;rw [e] at h3;simp only [amu,ax,Array.all_eq_true_iff_forall_mem] at h3;intro x hx hb
  grind
 grind
theorem yh {md:Region.Mode} {ord:List Nat} {ops:Array Oper} (p:Perm ops.size ord) {listed jg:Array Bool} (hz:listed.size=ops.size) (JB:jg.size=ops.size) (W: ∀i,i<ops.size->jg[posOf ord i]?=listed[i]?) {i:Nat} (hi:i<ops.size) :
 posOf ord i∈Region.ready md (gw ord ops.toList).toArray jg↔i∈Region.ready md ops listed:=by
 have hg: ∀(k:Nat) (d:Bool),jg.getD (posOf ord k) d=listed.getD k d:=by
  intro k d;simp only [amX];rcases bg k ops.size with h|h
  ·grind
  ·rw [p.ge J,an7 J,an7 J]
 rw [ky,ky,an6,oz p hi,hg];constructor
 ·rintro⟨o,U,Z,h3⟩;rw [aZ] at U;obtain⟨o0,h0,rfl⟩:=U;refine⟨o0,h0,Z,fun e he hb=>?_⟩
  have:=h3 { e with on:=posOf ord e.on } (by
   simp only [xF,anS,bd]
   exact⟨e,he,rfl⟩) hb
  simp_all
 ·rintro⟨o,U,Z,h3⟩;refine⟨xF (posOf ord) o,by rw [U]; rfl,Z,fun e he hb=>?_⟩;simp only [xF,anS,bd] at he;obtain⟨e0,he0,rfl⟩:=he;show jg.getD (posOf ord e0.on) false=true;rw [hg];exact h3 e0 he0 hb
theorem NX {md:Region.Mode} {ord:List Nat} {ops:Array Oper} (p:Perm ops.size ord) {Q:Exit->Act->World->Prop}: ∀(fuel:Nat) (listed jg:Array Bool) (a:Act) (w:World),listed.size=ops.size->jg.size=ops.size->
 (∀i,i<ops.size->jg[posOf ord i]?=listed[i]?)->wpAny P md (gw ord ops.toList).toArray Q fuel jg a w->wpAny P md ops Q fuel listed a w:=by
 have aic: ∀(listed jg:Array Bool),listed.size=ops.size->jg.size=ops.size->(∀i,i<ops.size->jg[posOf ord i]?=listed[i]?)->
  (Region.ready md (gw ord ops.toList).toArray jg= []↔Region.ready md ops listed= []):=by
  intro listed jg hz JB W;constructor
  ·intro h;rw [anE] at h ⊢;intro i hm
   have hi:i<ops.size:=by
    grind [ky]
   exact h _ ((yh p hz JB W hi).2 hm)
  ·intro h;rw [anE] at h ⊢;intro j hm
   have hj:j<ops.size:=by
    grind [ky]
   obtain⟨i,_,Z,h3⟩:=p.back j hj;subst h3;exact h _ ((yh p hz JB W Z).1 hm)
 intro fuel
 induction fuel with
 |zero=> intro listed jg a w hz JB W h;exact⟨(aic _ _ hz JB W).1 h.1,h.2⟩
 |succ fuel ih=>
  intro listed jg a w hz JB W h;refine⟨fun h0=>h.1 ((aic _ _ hz JB W).2 h0),fun i hm=>?_⟩
  have hi:i<ops.size:=by
   grind [ky]
  have hh:=h.2 _ ((yh p hz JB W hi).2 hm)
  have Cr: ∀a w,wpAny P md (gw ord ops.toList).toArray Q fuel (jg.setIfInBounds (posOf ord i) true) a w->wpAny P md ops Q fuel (listed.setIfInBounds i true) a w:=by
   intro a w hw;refine ih _ _ a w (by simp [hz]) (by simp [JB]) (fun k hk=>?_) hw;rw [an8,an8];by_cases hik:i=k
   ·grind
   ·rw [ah hik,ah (fun h=>hik (p.inj hi hk h)),W k hk]
  have Z:=wpOp_mono Cr hh;unfold wpOp at Z ⊢;rw [an6,oz p hi] at Z
  cases ho:ops[i]? with
  |none=>rw [ho] at Z; exact Z
  |some o=> rw [ho] at Z;simp only [amu] at Z ⊢;rw [K9 p,Xz,Oq] at Z;exact Z
structure x! where
 ord:List Nat
 h:Nz
def e_ (tt:TT) (H:Nat->Nat->Option x!) (call:eB) (g id:Nat) (all:List Oper) (s:St):T St:=match H g id with
 |some p=>match p.ord with
  |[]=>FB tt call all (statOf all p.h) s
  |o::os=>match gw (o::os) all with
   |q_=>FB tt call q_ (statOf q_ p.h) s
 |none=> .fail
def af8 (tt:TT) (H:Nat->Nat->Option x!) (g id:Nat) (all:List Oper):Bool:=match H g id with
 |some p=>match p.ord with
  |[]=>vI tt all p.h
  |o::os=>Jd (o::os) all.length&&vI tt (gw (o::os) all) p.h
 |none=>true
theorem d? [bJ] {tt:TT} (cV:eJ P tt) (hm:P.follows .mixedOrders=true) {H:Nat->Nat->Option x!} {call:eB} (hc:iY P call) (g:Nat):wx P (af8 tt H g) (e_ tt H call g):=by
 intro id ops hk E s s' a w Q hd fit h hq;unfold af8 at hk;unfold e_ at h;split at hk
 ·rename_i p hp;rw [hp] at h;simp only at h;split at hk
  ·rename_i he;rw [he] at h;have:=By hk;refine aaR cV hm hc id ops E s s' a w Q hd fit ?_ hq
   grind [draw]
  ·rename_i o os he;rw [he] at h;simp only at h;simp only [au] at hk;have hp:=Ub hk.1;have hp:Perm ops.size (o::os):=by simpa using hp
   have:=By hk.2;refine wp_region_any hm ?_
   have EU: ∀x∈((gw (o::os) ops.toList).toArray).toList,∀d,x.dst=some d->d<a.tmps.size:=by
    intro x hx d hxd;obtain⟨j,hj,rfl⟩:=am7 hx;have YD:j<ops.size:=by rw [<- vw hp]; exact hj
    obtain⟨i,_,Z,h3⟩:=hp.back j YD;have hg:=oz hp Z;rw [h3] at hg
    have hx2:(gw (o::os) ops.toList)[j]?=some ((gw (o::os) ops.toList).toArray.toList[j]):=by
     grind
    rw [hx2] at hg;rw [aon Z] at hg;simp only [amu,an] at hg;rw [hg] at hxd;exact hd (ops[i]) ad d hxd
   have key:=FA (ops:=(gw (o::os) ops.toList).toArray) cV hc EU fit (by
    unfold draw;rw [this]
    exact h) hq
   have iW:(gw (o::os) ops.toList).toArray.size=ops.size:=by simpa using vw hp
   rw [iW] at key;refine NX hp _ _ _ _ _ ad ad (fun i hi=>?_) key;rw [am9,am9,ak hi,ak (hp.lt hi)]
 grind [T.leaf]
end
end
end Go.As
end
section
namespace Go.As
noncomputable section
def Hh (h:Hp):List Nat->Tr dX->Tr dX
 |[],t=>t
 |i::is,t=>match h.get i with
  |some o=>Hh h is (t.put i (some o))
  |none=>Hh h is t
theorem Bh {h:Hp}: ∀(is:List Nat) (t:Tr dX),(∀id o,t.get id=some o->h.get id=some o)->∀id o,(Hh h is t).get id=some o->h.get id=some o
 |[],_,ht,id,o,hg=>ht id o hg
 |i::is,t,ht,id,o,hg=>by
  simp only [Hh] at hg;split at hg
  ·rename_i x hx;refine Bh is _ (fun j y hy=>?_) id o hg
   grind [Tr.bU]
  ·exact Bh is t ht id o hg
def Bb:List (V×List Y)->List (V×List Y)->Bool
 |[],[]=>true
 |(i,a)::x,(j,b)::y=>fm i j&&jd a b&&Bb x y
 |_,_=>false
theorem GY: ∀{a b:List (V×List Y)},Bb a b=true->a=b
 |[],[],_=>rfl
 |[],_::_,h=>by simp [Bb] at h
 |_::_,[],h=>by simp [Bb] at h
 |(i,a)::x,(j,b)::y,h=>by simp only [Bb,au] at h;rw [cX _ _ h.1.1,ga _ _ h.1.2,GY h.2]
def I2:dX->dX->Bool
 | .cells a e,.cells b f=>jd a b&&Nat.beq e f
 | .vec a t e x,.vec b u f y=>fm a b&&Nat.beq t u&&Nat.beq e f&&Bb x y
 |_,_=>false
theorem Ol {a b:dX} (h:I2 a b=true):a=b:=by
 cases a<;>cases b<;>simp only [I2,aC,au] at h
 ·rw [ga _ _ h.1,az h.2]
 ·rw [cX _ _ h.1.1.1,az h.1.1.2,az h.1.2,GY h.2]
def Ca {α:Type} (f:α->α->Bool):Tr α->Tr α->Bool
 | .nil,.nil=>true
 | .node v l r,.node u x y=>(match v,u with |some a,some b=>f a b|none,none=>true|_,_=>false)&&Ca f l x&&Ca f r y
 |_,_=>false
theorem zj {α:Type} {f:α->α->Bool} (hf: ∀a b,f a b=true->a=b): ∀(a b:Tr α),Ca f a b=true->a=b
 | .nil,b,h=>by cases b<;>simp [Ca] at h; rfl
 | .node v l r,b,h=>by
   cases b with
   |nil=>simp [Ca] at h
   |node u x y=>
    simp only [Ca,au] at h;rw [zj hf l x h.1.2,zj hf r y h.2]
    grind
def inL (i:Nat):List Nat->Bool
 |[]=>false
 |j::l=>match Nat.beq i j with
  |true=>true
  |false=>inL i l
theorem JA {i:Nat}: ∀{l:List Nat},inL i l=true↔i∈l
 |[]=>by simp [inL]
 |j::l=>by
  simp only [inL,aF];split
  ·rename_i h; simp [az h]
  ·rename_i h; rw [JA]; simp [anf h]
def tv (i:Nat):List Nat->List Nat
 |[]=>[]
 |j::l=>match Nat.beq i j with
  |true=>tv i l
  |false=>j::tv i l
theorem qY {i k:Nat}: ∀{l:List Nat},k∈tv i l↔k∈l/\k≠i
 |[]=>by simp [tv]
 |j::l=>by
  simp only [tv];split
  ·rename_i h;have:=az h;subst this;rw [qY]
   grind
  ·rename_i h;have:=anf h;simp only [aF];rw [qY]
   grind
def Hx (all:List Oper) (rem:List Nat) (i:Nat):Bool:=match fu all i with
 |some o=>o.after.toList.all fun e=>!Region.binds .any e||(!inL e.on rem&&Nat.blt e.on all.length)
 |none=>false
def M8 (tt:TT) (call:eB) (all:List Oper) (pc:List (SB×Bool)) (tS:Tr Y) (tH:Hp):Nat->List Nat->Tr Y->Hp->Bool
 |0,rem,S,H=>match rem with
  |[]=>Ca eR S tS&&Ca I2 H.m tH.m&&Nat.beq H.next tH.next&&(match H.res with |none=>true|_=>false)
  |_=>false
 |n+1,rem,S,H=>match rem with
  |[]=>false
  |_=>rem.any (Hx all rem)&&rem.all fun i=>match Hx all rem i with
   |false=>true
   |true=>match fu all i with
    |some o=>match So tt call all o ⟨S,H,pc⟩ with
     | .ret (v,s')=>M8 tt call all pc tS tH n (tv i rem) (vn S o.dst v) s'.h
     |_=>false
    |none=>false
section
variable {P:Program}
theorem Xn {E:En} {h:Array Obj} {S:Tr Y} {a:Act} (sr:SR E h S a) {d:Option Nat} {v:Y} {u:Value} (hd: ∀t,d=some t->t<a.tmps.size) (hv:VR E h v u):SR E h (vn S d v) (a.put d u):=by
 cases d with
 |none=>exact sr
 |some t=>exact sr.put (hd t rfl) hv
theorem p? [bJ] {tt:TT} (cV:eJ P tt) {call:eB} (hc:iY P call) {ops:Array Oper} {ρ:Nat->Int} {pc:List (SB×Bool)} (hpc:ca ρ pc) {tS:Tr Y} {tH:Hp} (B!:tH.res=none) {Q:Exit->Act->World->Prop} {m:Nat} (hd: ∀o∈ops.toList,∀d,o.dst=some d->d<m) :
 ∀(n:Nat) (rem:List Nat) (S:Tr Y) (H:Hp) (E:En) (a:Act) (w:World) (listed:Array Bool),M8 tt call ops.toList pc tS tH n rem S H=true->E.ρ=ρ->bS E H w->SR E w.heap S a->a.tmps.size=m->listed.size=ops.size->
  (∀i,i<ops.size->(listed[i]?=some true↔i∉rem))->(∀i∈rem,i<ops.size)->
  (∀(a':Act) (w':World) (E':En),fj E H w E' tH w'->bS E' tH w'->SR E' w'.heap tS a'->a'.tmps.size=m->a'.defers=a.defers->Q .normal a' w')->wpAny P .any ops Q n listed a w:=by
 intro n;have hD: ∀(i:Nat),fu ops.toList i=ops[i]?:=fun i=>by rw [dC,amp]
 have XA: ∀(rem:List Nat) (listed:Array Bool),listed.size=ops.size->(∀i,i<ops.size->(listed[i]?=some true↔i∉rem))->∀i,i∈Region.ready .any ops listed->i∈rem/\Hx ops.toList rem i=true/\i<ops.size:=by
  intro rem listed iW W i hi;obtain⟨o,ho,U,Z⟩:=ky.1 hi;have AU:i<ops.size:=(amD.1 ho).1
  have hf:listed[i]?=some false:=by simp_all
  refine⟨?_,?_,AU⟩
  ·grind
  ·unfold Hx;rw [hD,ho];simp only [bj];intro e he
   cases hb:Region.binds .any e with
   |false=>rfl
   |true=>
    have:=Z e he hb
    have gu:e.on<ops.size:=by
     grind
    simp only [anG,anm,au,amJ];refine⟨?_,by simpa [ana] using gu⟩
    cases akT:inL e.on rem with
    |false=>rfl
    |true=> exfalso;have hm:=JA.1 akT;simp_all
 have aeA: ∀(rem:List Nat) (listed:Array Bool),listed.size=ops.size->(∀i,i<ops.size->(listed[i]?=some true↔i∉rem))->(∀i∈rem,i<ops.size)->rem.any (Hx ops.toList rem)=true->Region.ready .any ops listed≠[]:=by
  intro rem listed iW W hr aiR lg;rw [an9] at aiR;obtain⟨i,hi,hm⟩:=aiR;have AU:=hr i hi
  have:i∈Region.ready .any ops listed:=by
   rw [ky];unfold Hx at hm;rw [hD] at hm;split at hm
   ·rename_i o ho;refine⟨o,ho,?_,fun e he hb=>?_⟩
    ·have e1:listed[i]?=some (listed[i]'J):=by simp [iW,AU]
     simp only [amX,e1,ax]
     grind
    ·rw [bj] at hm;have:=hm e he;rw [hb] at this;simp only [anG,anm,au,amJ] at this;obtain⟨this,gu⟩:=this;have gu:e.on<ops.size:=by simpa [ana] using gu
     have aiA:e.on∉rem:=fun h=>by rw [JA.2 h] at this; simp at this
     simp_all
   grind
  grind
 induction n with
 |zero=>
  intro rem S H E a w listed h hρ r sr ha iW W hr hq;simp only [M8] at h;split at h
  ·simp only [au] at h;obtain⟨⟨⟨U,Z⟩,h3⟩,h4⟩:=h;have e1:=zj kx _ _ U;have e2:=zj (fun _ _=>Ol) _ _ Z;have e3:=az h3
   have e4:H.res=none:=by
    grind
   have eH:H=tH:=by
    obtain⟨m1,n1,r1⟩:=H;obtain⟨m2,n2,r2⟩:=tH
    grind
   subst e1 eH;refine⟨?_,hq a w E (fj.refl _ _ _) r sr ha rfl⟩;rw [anE];intro i hi;have:=(XA [] listed iW W i hi).1
   grind
  grind
 |succ n ih=>
  intro rem S H E a w listed h hρ r sr ha iW W hr hq;simp only [M8] at h;split at h
  ·grind
  ·rename_i gB;simp only [au] at h;refine⟨fun h0=>absurd h0 (aeA rem listed iW W hr h.1),fun i hi=>?_⟩;obtain⟨g1,g2,g3⟩:=XA rem listed iW W i hi;have JF:=(bj.1 h.2) i g1;rw [g2] at JF;simp only at JF;split at JF
   ·rename_i o ho;have zQ:ops[i]?=some o:=by rw [<- hD]; exact ho
    split at JF
    ·rename_i v s' hev;have ak8:=Kk cV hc (ops:=ops) (o:=o) (s:=⟨S,H,pc⟩) (s':=s') (v:=v) (ρ:=ρ) hpc (by rw [hev]; rfl);refine ak8.wpOp hρ r sr zQ fun u E' w' st r' hv=>?_
     have hdo: ∀t,o.dst=some t->t<a.tmps.size:=by intro t ht;rw [ha];exact hd o (Array.mem_toList_iff.2 (an3 zQ)) t ht
     have sr':SR E' w'.heap (vn S o.dst v) (a.put o.dst u):=Xn (sr.cD (st.keeps r)) hdo hv;refine ih (tv i rem) _ _ E' (a.put o.dst u) w' (listed.setIfInBounds i true) JF (st.ρ.trans hρ) r' sr' (by rw [Ed]; exact ha) (by simpa using iW) ?_ ?_ ?_
     ·intro k hk;rw [an8,qY]
      grind
     ·intro k hk;exact hr k (qY.1 hk).1
     ·intro a' w2 E2 u6 r2 sr2 hs2 jK;exact hq a' w2 E2 (st.trans u6) r2 sr2 hs2 (by rw [jK,As.put_defers])
    grind
   grind
end
end
end Go.As
end
section
namespace Go.As
noncomputable section
def Fw (o:Oper) (j:Nat):Bool:=o.after.toList.any fun e=>Region.binds .any e&&Nat.beq e.on j
def I0 (n1:Nat) (all:List Oper):Bool:=
 Nat.blt 0 n1&&Nat.ble n1 all.length&&
 (List.range all.length).all (fun j=>match fu all j with
  |some o=>match Nat.blt j n1 with
   |true=>(o.after.toList.all fun e=>!Region.binds .any e||Nat.blt e.on j)&&(match o.guard with |some (k,_)=>Nat.blt k n1|none=>true)
   |false=>Fw o (n1-1)
  |none=>false)&&
 (match fu all (n1-1) with
  |some o=>(List.range (n1-1)).all fun i=>Fw o i
  |none=>false)
structure PQ (n1:Nat) (ops:Array Oper):Prop where
 pos:0<n1
 le:n1<=ops.size
 back: ∀(i:Nat) (o:Oper),i<n1->ops[i]?=some o->∀e∈o.after.toList,Region.binds .any e=true->e.on<i
 guard: ∀(i:Nat) (o:Oper),i<n1->ops[i]?=some o->∀k b,o.guard=some (k,b)->k<n1
 late: ∀(i:Nat) (o:Oper),n1<=i->ops[i]?=some o->∃e∈o.after.toList,Region.binds .any e=true/\e.on=n1-1
 last: ∀(o:Oper),ops[n1-1]?=some o->∀i,i<n1-1->∃e∈o.after.toList,Region.binds .any e=true/\e.on=i
theorem Ik {o:Oper} {j:Nat} (h:Fw o j=true): ∃e∈o.after.toList,Region.binds .any e=true/\e.on=j:=by unfold Fw at h;rw [an9] at h;simp_all
theorem Oh {n1:Nat} {ops:Array Oper} (h:I0 n1 ops.toList=true):PQ n1 ops:=by
 have hD: ∀(i:Nat),fu ops.toList i=ops[i]?:=fun i=>by rw [dC,amp]
 unfold I0 at h;simp only [au] at h;obtain⟨⟨⟨U,Z⟩,h3⟩,h4⟩:=h;have U:0<n1:=by simpa [ana] using U
 have Z:n1<=ops.size:=by simpa using amC Z
 rw [bj] at h3
 have h3: ∀(i:Nat) (o:Oper),ops[i]?=some o->(match Nat.blt i n1 with
  |true=>(o.after.toList.all fun e=>!Region.binds .any e||Nat.blt e.on i)&&(match o.guard with |some (k,_)=>Nat.blt k n1|none=>true)
  |false=>Fw o (n1-1))=true:=by
  intro i o ho;have hi:i<ops.size:=(amD.1 ho).1;have:=h3 i (amB.2 (by simpa using hi));rw [hD,ho] at this;exact this
 refine⟨U,Z,?_,?_,?_,?_⟩
 ·intro i o hi ho e he hb;have:=h3 i o ho;rw [show Nat.blt i n1=true by simpa [ana] using hi] at this;simp only [au] at this;have:=(bj.1 this.1) e he;simp_all
 ·intro i o hi ho k b hg;have:=h3 i o ho;rw [show Nat.blt i n1=true by simpa [ana] using hi] at this;simp_all
 ·intro i o hi ho;have:=h3 i o ho
  rw [show Nat.blt i n1=false by
   cases hb:Nat.blt i n1 with
   |false=>rfl
   |true=>rw [ana] at hb; omega] at this
  exact Ik this
 ·intro o ho i hi;rw [hD,ho] at h4;exact Ik ((bj.1 h4) i (amB.2 hi))
section
variable {P:Program}
theorem wp_exit {o:Oper} {a:Act} {w:World} {K:Act->World->Prop} {Q1 Q:Exit->Act->World->Prop} (h: ∀e a w,e≠.normal->Q1 e a w->Q e a w) (hh:o.wp P a w K Q1):o.wp P a w K Q:=by
 have W:LetsOut Q1->LetsOut Q:=fun⟨a,w,U⟩=> ⟨a,w,h _ _ _ ad U⟩;unfold Oper.wp at *;generalize (execOp a.eval o).run P w=r at *
 cases r with
 |ok n w'=>
  cases n<;>simp only [Oper.upon] at hh ⊢<;>
   first
    |exact hh
    |exact Calls.mono hh (fun e w'' he=>by cases e<;>first |exact he|exact h _ _ _ ad he|exact W he)
 |halt x w'=>cases x<;>simp only [Oper.upon] at hh ⊢<;>first |exact hh|exact h _ _ _ ad hh
theorem LU {l l':Nat->Bool} {i:Nat} (U:l i=false) (Z:l' i=true) (h: ∀j,j≠i->l' j=l j): ∀n,i<n->left l' n+1=left l n
 |0,hi=>by omega
 |n+1,hi=>by
  simp only [left];by_cases AU:i=n
  ·subst AU
   have: ∀m,m<=i->left l' m=left l m:=by
    intro m
    induction m with
    |zero=>intro _; rfl
    |succ m ih=>
     intro hm
     grind [left]
   grind
  ·have:=LU U Z h n J
   grind
theorem LV {l:Nat->Bool}: ∀n,(∀i,i<n->l i=true)->left l n=0
 |0,_=>rfl
 |n+1,h=>by simp only [left];rw [LV n (fun i hi=>h i J),h n J];rfl
def vU (n1 n:Nat):Array Bool:=(Array.range n).map fun i=>decide (i<n1)
theorem K7 {n1:Nat} {ops:Array Oper} (sf:PQ n1 ops) {Q Q1:Exit->Act->World->Prop} (hq: ∀e a w,e≠.normal->Q1 e a w->Q e a w) (hn: ∀a w,Q1 .normal a w->wpAny P .any ops Q (ops.size-n1) (vU n1 ops.size) a w) :
 ∀(f:Nat) (l1 l:Array Bool) (a:Act) (w:World),l1.size=n1->l.size=ops.size->(∀i,i<n1->l[i]?=l1[i]?)->(∀i,n1<=i->i<ops.size->l[i]?=some false)->left (fun i=>l1.getD i true) n1=f->(l1[n1-1]?=some true->f=0)->
  wpAny P .any (ops.toList.take n1).toArray Q1 f l1 a w->wpAny P .any ops Q (f+(ops.size-n1)) l a w:=by
 have hR: ∀i,i<n1->(ops.toList.take n1).toArray[i]?=ops[i]?:=by
  intro i hi
  grind
 have hRs:(ops.toList.take n1).toArray.size=n1:=by
  have:=sf.le
  grind
 have rP:LetsOut Q1->LetsOut Q:=fun⟨a,w,U⟩=> ⟨a,w,hq _ _ _ ad U⟩
 have vJ: ∀(l:Array Bool) (i:Nat),i<l.size->(l.getD i true=true↔l[i]?=some true)/\(l.getD i false=true↔l[i]?=some true):=by intro l i hi;simp_all
 intro f
 induction f with
 |zero=>
  intro l1 l a w U Z h3 h4 h5 h6 hw;have BA:=Bq n1 h5
  have:l=vU n1 ops.size:=by
   grind [vU]
  rw [this,aK];exact hn a w hw.2
 |succ f ih=>
  intro l1 l a w U Z h3 h4 h5 h6 hw;rw [show f+1+(ops.size-n1)=(f+(ops.size-n1))+1 by omega];have hle:=sf.le;have mh:=sf.pos;have ack:l1[n1-1]?=some true->False:=fun h=>by have:=h6 h; omega
  refine⟨fun lg=>?_,fun i hi=>?_⟩
  ·exfalso
   have BA: ∀i,i<n1->l[i]?=some true:=by
    intro i
    induction i using Nat.strongRecOn with
    |_ i Ge=>
     intro hi;apply Classical.byContradiction;intro tW;have hio:ops[i]?=some (ops[i]'J):=ad
     have:i∈Region.ready .any ops l:=by
      rw [ky];refine⟨_,hio,?_,fun e he hb=>?_⟩
      ·grind
      ·have gu:=sf.back i _ hi hio e he hb
       grind
     grind
   grind
  ·obtain⟨o,ho,g1,g2⟩:=ky.1 hi;have AU:i<ops.size:=(amD.1 ho).1
   have hi1:i<n1:=by
    rcases bg i n1 with h|h
    ·exact h
    ·exfalso;obtain⟨e,e1,e2,e3⟩:=sf.late i o h ho
     grind
   have Bx:l1.getD i true=false:=by
    grind
   have hed: ∀e∈o.after.toList,Region.binds .any e=true->l1.getD e.on false=true:=by
    intro e he hb
    grind
   have hr1:i∈Region.ready .any (ops.toList.take n1).toArray l1:=by
    rw [ky]
    grind
   have oa:=hw.2 i hr1
   have ach: ∀a w,wpAny P .any (ops.toList.take n1).toArray Q1 f (l1.setIfInBounds i true) a w->wpAny P .any ops Q (f+(ops.size-n1)) (l.setIfInBounds i true) a w:=by
    intro a w hw2
    have RR:left (fun j=>(l1.setIfInBounds i true).getD j true) n1=f:=by
     have:=LU (l:=fun j=>l1.getD j true) (l':=fun j=>(l1.setIfInBounds i true).getD j true) (i:=i) Bx (by
      simp only [amX,Array.getElem?_setIfInBounds_self]
      split<;>rfl) (fun j hj=>by
      simp only [amX]
      rw [Array.getElem?_setIfInBounds_ne (fun e=>hj e.symm)]) n1 hi1
     omega
    refine ih _ _ a w (by simpa using U) (by simpa using Z) (fun k hk=>?_) (fun k nI Cu=>?_) RR (fun gu=>?_) hw2
    ·grind
    ·grind
    ·by_cases dU:i=n1-1
     ·rw [<- RR];refine LV n1 fun k hk=>?_;by_cases Cu:k=i
      ·grind
      ·obtain⟨e,e1,e2,e3⟩:=sf.last o (by rw [<- dU]; exact ho) k J
       grind
     grind
   have oa:=wpOp_mono ach oa;unfold wpOp at oa ⊢;rw [hR i hi1,ho] at oa;rw [ho];simp only at oa ⊢
   have aip:Region.wanted o (yielded (ops.toList.take n1).toArray a.tmps)=Region.wanted o (yielded ops a.tmps):=by
    unfold Region.wanted
    cases hg:o.guard with
    |none=>rfl
    |some g=>
     obtain⟨k,b⟩:=g;simp only;have:=sf.guard i o hi1 ho k b hg;unfold yielded
     grind
   rw [aip] at oa;split
   ·rename_i hwt;rw [ak hwt] at oa;rcases oa with h|⟨h,h'⟩
    ·exact .inl (wp_exit hq h)
    grind
   grind
end
end
end Go.As
end
section
namespace Go.As
noncomputable section
def D9 (n1 n:Nat):List Nat:=(List.range (n-n1)).map fun k=>k+n1
def ahZ:Y->List Nat
 | .ptr i _=>[i]
 | .slice i _ _ _=>[i]
 |_=>[]
def aeZ (S:Tr Y):List Nat->List Nat
 |[]=>[]
 |t::ts=>match S.get t with
  |some v=>ahZ v++aeZ S ts
  |none=>aeZ S ts
def RI (all:List Oper) (S:Tr Y):List Nat->List Nat
 |[]=>[]
 |i::is=>match fu all i with
  |some o=>aeZ S (Es o.op)++RI all S is
  |none=>RI all S is
def Xq (tt:TT) (call:eB) (all:List Oper) (pc:List (SB×Bool)):List Nat->Tr Y->Hp->Option (Tr Y×Hp)
 |[],S,H=>some (S,H)
 |i::is,S,H=>match fu all i with
  |some o=>match So tt call all o ⟨S,H,pc⟩ with
   | .ret (v,s')=>Xq tt call all pc is (vn S o.dst v) s'.h
   |_=>none
  |none=>none
def Kr (tt:TT) (call:eB) (all:List Oper) (n1:Nat) (s1:St):T St:=
 match s1.h.res with
 |some _=> .fail
 |none=>match (⟨Hh s1.h (RI all s1.bG (D9 n1 all.length)) .nil,s1.h.next,none⟩ : Hp) with
  |small=>match Xq tt call all s1.pc (D9 n1 all.length) s1.bG small with
   |some (S,H)=>match H.res with
    |none=>match Nat.beq H.next s1.h.next&&M8 tt call all s1.pc S H (all.length-n1) (D9 n1 all.length) s1.bG small with
     |true=> .ret ⟨S,⟨Tr.over H.m (Tr.minus small.m s1.h.m),s1.h.next,none⟩,s1.pc⟩
     |false=> .fail
    |some _=> .fail
   |none=> .fail
structure AQ where
 ord:List Nat
 n1:Nat
 h:Nz
def Im (tt:TT) (H:Nat->Nat->Option AQ) (call:eB) (g id:Nat) (all:List Oper) (s:St):T St:=match H g id with
 |some p=>match p.n1 with
  |0=>match p.ord with
   |[]=>FB tt call all (statOf all p.h) s
   |o::os=>match gw (o::os) all with
    |q_=>FB tt call q_ (statOf q_ p.h) s
  |n1=>(FB tt call (all.take n1) (statOf (all.take n1) p.h) s).bind (Kr tt call all n1)
 |none=> .fail
def KA (tt:TT) (H:Nat->Nat->Option AQ) (g id:Nat) (all:List Oper):Bool:=match H g id with
 |some p=>match p.n1 with
  |0=>match p.ord with
   |[]=>vI tt all p.h
   |o::os=>Jd (o::os) all.length&&vI tt (gw (o::os) all) p.h
  |n1=>I0 n1 all&&vI tt (all.take n1) p.h
 |none=>true
section
variable {P:Program}
theorem Hv {n1 n i:Nat} (h:n1<=n):i∈D9 n1 n↔n1<=i/\i<n:=by
 unfold D9;rw [bd];constructor
 ·rintro⟨k,hk,rfl⟩
  grind
 ·rintro⟨U,Z⟩;exact⟨i-n1,amB.2 J,J⟩
theorem Um (n:Nat): ∀m,m<=n->left (fun i=>(Array.replicate n false).getD i true) m=m:=by
 intro m
 induction m with
 |zero=>intro _; rfl
 |succ m ih=>
  intro hm;have gu:m<n:=J
  simp only [left];rw [ih J];simp [gu]
theorem PD [bJ] {tt:TT} (cV:eJ P tt) {call:eB} (hc:iY P call) {ops:Array Oper} {n1:Nat} (sf:PQ n1 ops) {E:En} {s s1 s':St} {a a1:Act} {w w1:World} {Q:Exit->Act->World->Prop}
 (hd: ∀o∈ops.toList,∀d,o.dst=some d->d<a.tmps.size) (ht:nG E s a w s1 a1 w1) (h:(Kr tt call ops.toList n1 s1).leaf E.ρ=some s') (hq: ∀a' w',nG E s a w s' a' w'->Q .normal a' w') :
 wpAny P .any ops Q (ops.size-n1) (vU n1 ops.size) a1 w1:=by
 obtain⟨d1,z1,E1,D0,f1⟩:=ht;have hlen:ops.toList.length=ops.size:=bo;unfold Kr at h;split at h
 ·simp [T.leaf] at h
 ·rename_i yz;simp only at h;split at h
  ·rename_i S H al9;split at h
   ·rename_i hHr;split at h
    ·rename_i BA;simp only [au] at BA;have hnx:=az BA.1;have:=bE h;subst this
     have oC: ∀id o,(⟨Hh s1.h (RI ops.toList s1.bG (D9 n1 ops.toList.length)) .nil,s1.h.next,none⟩ : Hp).get id=some o->s1.h.get id=some o:=
      fun id o hg=>Bh _ _ (fun _ _ hh=>by simp [Tr.get] at hh) id o hg
     have rs:=f1.rel.part oC (ay _) ad;have hpc:ca E1.ρ s1.pc:=f1.pc;have Vv:=BA.2;rw [hlen] at Vv;refine p? cV hc (ops:=ops) (ρ:=E1.ρ) (pc:=s1.pc) hpc hHr (m:=a.tmps.size) hd (ops.size-n1) (D9 n1 ops.size) s1.bG _ E1 a1 w1 (vU n1 ops.size) Vv rfl (by rw [hlen] at rs; exact rs) f1.sr z1 (by simp [vU]) ?_ ?_ ?_
     ·intro i hi;rw [Hv sf.le];unfold vU
      grind
     ·intro i hi;exact ((Hv sf.le).1 hi).2
     ·intro a2 w2 E2 u6 r2 sr2 z2 d2;rw [hlen] at oC;obtain⟨Hc,e0,_,_,r3,Ll⟩:=YX f1.rel oC u6 r2 s1.h.next (fun id hid=>r2.fresh id J)
      have ei:=Ll.Xg (by rw [e0]; exact ay _) (by rw [e0]) (fun id uO=>by
       rcases u6.D? id uO with U|U|U
       ·exact .inl U
       ·have RZ:s1.h.next<=id/\id<H.next:=U;omega
       ·simp at U)
      subst e0;refine hq a2 w2 ⟨d2.trans d1,z2,E2,D0.trans ?_,?_⟩
      ·grind
      ·refine⟨by rw [hlen]; exact r3,sr2,?_⟩;show ca E2.ρ s1.pc;rw [u6.ρ]
       grind
    ·simp [T.leaf] at h
   ·simp [T.leaf] at h
  ·simp [T.leaf] at h
theorem AA [bJ] {tt:TT} (cV:eJ P tt) (hm:P.follows .mixedOrders=true) {H:Nat->Nat->Option AQ} {call:eB} (hc:iY P call) (g:Nat):wx P (KA tt H g) (Im tt H call g):=by
 intro id ops hk E s s' a w Q hd fit h hq;unfold KA at hk;unfold Im at h;split at hk
 ·rename_i p hp;rw [hp] at h;simp only at h;split at hk
  ·rename_i hn;rw [hn] at h;simp only at h
   have hP:=d? (P:=P) cV hm (H:=fun _ _=>some ⟨p.ord,p.h⟩) hc g id ops (by
    unfold af8
    exact hk) E s s' a w Q hd fit (by
    unfold e_
    exact h) hq
   exact hP
  ·rename_i n1 hn;split at h
   ·rename_i h0
    grind
   ·rename_i n1' _;simp only [au] at hk;have sf:=Oh hk.1;have Dp:=By hk.2;obtain⟨s1,U,Z⟩:=T.fD h;refine wp_region_any hm ?_;have hle:=sf.le;have hRs:(ops.toList.take p.n1).toArray.size=p.n1:=by simp; omega
    have rb: ∀o∈(ops.toList.take p.n1).toArray.toList,∀d,o.dst=some d->d<a.tmps.size:=by
     intro o ho
     grind
    have key:=FA (P:=P) (ops:=(ops.toList.take p.n1).toArray) (Q:=fun e a' w'=>match e with | .normal=>wpAny P .any ops Q (ops.size-p.n1) (vU p.n1 ops.size) a' w'|e=>Q e a' w') cV hc rb fit (s':=s1) (by
     unfold draw;rw [List.toList_toArray,Dp]
     exact U) (fun a' w' ht=>PD cV hc sf hd ht Z hq)
    rw [hRs] at key
    have:=K7 sf (Q:=Q) (fun e a w gB hh=>by
     cases e with
     |normal=>exact absurd rfl gB
     |_=>exact hh) (fun a w hh=>hh) p.n1 (Array.replicate p.n1 false) (Array.replicate ops.size false) a _ ad ad (fun i hi=>by
     rw [am9,am9,ak hi,ak J]) (fun i _ hi=>by
     rw [am9,ak hi]) (by
     exact Um p.n1 p.n1 (ay _)) (fun hh=>by
     rw [am9,ak (by have:=sf.pos; omega)] at hh
     simp at hh) key
    grind
 ·rename_i hh;rw [hh] at h;simp [T.leaf] at h
end
end
end Go.As
end
section
namespace Go.As
noncomputable section
def HE {α:Type} (n:Nat) (t:Tr α) (k:Nat):Option α:=match Nat.ble n k with
 |true=>none
 |false=>t.get k
theorem Ru {α:Type} {n:Nat} {t:Tr α} {f:Nat->Option α} (h:(List.range n).map t.get=(List.range n).map f) {k:Nat} {x:α} (hk:HE n t k=some x):f k=some x:=by
 unfold HE at hk;split at hk
 ·grind
 ·rename_i hle
  have gu:k<n:=by
   have: ¬(n<=k):=by
    intro h;rw [ano h] at hle
    grind
   omega
  have:=congrArg (fun l=>l[k]?) h
  grind
section
variable {P:Program}
theorem J? {n:Nat} {tab:Tr TI} (h:(List.range n).map tab.get=(List.range n).map (M? P)):eJ P (HE n tab):=fun _ _ hk=>M! (Ru h hk)
def aeE (rF:Nat->List Oper->Bool) (f:Func):Bool:=!(f.name == "runtime.NumGoroutine")&&(match f.body with |some c=>kN rF f.ntmps c|none=>true)
def hAt {α:Type} (t:Tr (Tr α)) (g id:Nat):Option α:=match t.get g with
 |some u=>u.get id
 |none=>none
theorem aas {n:Nat} {JO:Tr Func} (h:(List.range n).map JO.get=(List.range n).map (fun g=>P.funcs[g]?)) {rF:Nat->Nat->List Oper->Bool} (hc:(List.range n).all (fun g=>match JO.get g with |some f=>aeE (rF g) f|none=>true)=true):Ve P rF (HE n JO):=by
 intro g fn hk;have U:=Ru h hk;refine⟨U,?_⟩
 have gu:g<n:=by
  unfold HE at hk;split at hk
  ·grind
  ·rename_i hle;rcases bg g n with h|h
   ·exact h
   ·rw [ano h] at hle; simp at hle
 have vJ:JO.get g=some fn:=by
  unfold HE at hk
  grind
 have:=bj.1 hc g (amB.2 gu);rw [vJ] at this;simp only [aeE,au,amJ] at this
 grind
end
end
end Go.As
end
section
namespace Go.As
noncomputable section
structure Ren where
 ns:List V
 bl:List Nat
 sh:List Nat
def Ren.se (r:Ren):V->V
 | .lit n=> .lit n
 | .dK i=>match fu r.ns i with |some e=>e|none=> .dK i
 | .add a b=> .add (r.se a) (r.se b)
 | .sub a b=> .sub (r.se a) (r.se b)
 | .mul a b=> .mul (r.se a) (r.se b)
 | .quo a b=> .quo (r.se a) (r.se b)
 | .rem a b=> .rem (r.se a) (r.se b)
 | .wrap k a=> .wrap k (r.se a)
 | .xK b e=> .xK b (r.se e)
 | .eD d=> .eD d
 | .op o a b=>match o with
   | .len=>ed (r.se a)
   |o=> .op o (r.se a) (r.se b)
 | .ap f a=> .ap f (r.se a)
def Ren.sb (r:Ren):SB->SB
 | .lit b=> .lit b
 | .lt a b=>iU (r.se a) (r.se b)
 | .le a b=> .le (r.se a) (r.se b)
 | .eq a b=>rK (r.se a) (r.se b)
 | .not s=> .not (r.sb s)
 | .and a b=> .and (r.sb a) (r.sb b)
def Ren.id (r:Ren) (i:Nat):Nat:=match fu r.bl i with |some j=>j|none=>0
def Ren.u7 (r:Ren) (i:Nat):Nat:=match fu r.sh i with |some j=>j|none=>0
mutual
def Ren.av (r:Ren):Y->Y
 | .bool b=> .bool (r.sb b)
 | .int k e=> .int k (r.se e)
 | .str s=> .str s
 | .ptr i o=> .ptr (r.id i) (r.u7 i+o)
 | .u9=> .u9
 | .nQ cs=> .nQ (r.CZ cs)
 | .slice i o l c=> .slice (r.id i) (r.u7 i+o) l c
 | .gL=> .gL
 | .ro cs n f=> .ro (r.CZ cs) n f
 | .map i=> .map (r.id i)
 | .tI=> .tI
 | .func f a b=> .func f (r.CZ a) (r.CZ b)
 | .xp=> .xp
 | .iface t v=> .iface t (r.av v)
 | .yn=> .yn
 | .agg cs=> .agg (r.CZ cs)
 | .tuple cs=> .tuple (r.CZ cs)
 | .LI i=> .LI i
 | .xK k ks=> .xK k ks
 | .emp=> .emp
 | .eD e t=> .eD (r.se e) t
 | .kG e=> .kG (r.se e)
 | .pV i n t=>match r.u7 i with
   |0=> .pV (r.id i) (r.se n) t
   |_=> .LI 0
 | .Ax i es x o=>match r.u7 i with
   |0=> .Ax (r.id i) es (r.se x) o
   |_=> .LI 0
 | .u5 i lo n t=>match r.u7 i with
   |0=> .u5 (r.id i) (r.se lo) (r.se n) t
   |_=> .LI 0
 | .any=> .any
 | .xU z t=> .xU (r.se z) t
def Ren.CZ (r:Ren):List Y->List Y
 |[]=>[]
 |x::xs=>r.av x::r.CZ xs
end
mutual
def mg (n:Nat):Y->Bool
 | .ptr i _=>Nat.blt i n
 | .slice i _ _ _=>Nat.blt i n
 | .map i=>Nat.blt i n
 | .pV i _ _=>Nat.blt i n
 | .Ax i _ _ _=>Nat.blt i n
 | .u5 i _ _ _=>Nat.blt i n
 | .nQ cs=>oZ n cs
 | .ro cs _ _=>oZ n cs
 | .func _ a b=>oZ n a&&oZ n b
 | .iface _ v=>mg n v
 | .agg cs=>oZ n cs
 | .tuple cs=>oZ n cs
 |_=>true
def oZ (n:Nat):List Y->Bool
 |[]=>true
 |x::xs=>mg n x&&oZ n xs
end
def Ren.env (r:Ren) (ρ:Nat->Int) (i:Nat):Int:=match fu r.ns i with |some e=>e.den ρ|none=>ρ i
theorem Hq {α:Type}: ∀{l:List α} {i:Nat},l.length<=i->fu l i=none
 |[],_,_=>rfl
 |_::_,0,h=>by simp at h
 |_::l,i+1,h=>by simp only [fu]; exact Hq (by simpa using h)
theorem Ren.ml {r:Ren} (h:r.ns.length<=900) {ρ:Nat->Int} {i:Nat} (hi:900<=i):r.env ρ i=ρ i:=by
 grind [Ren.env,Hq]
theorem Ren.eA {r:Ren} (h:r.ns.length<=900) (ρ:Nat->Int): ∀e:V,(r.se e).den ρ=e.den (r.env ρ)
 | .lit n=>rfl
 | .dK i=>by simp only [Ren.se,V.den,Ren.env];split<;>rfl
 | .add a b=>by simp only [Ren.se,V.den,Ren.eA h ρ a,Ren.eA h ρ b]
 | .sub a b=>by simp only [Ren.se,V.den,Ren.eA h ρ a,Ren.eA h ρ b]
 | .mul a b=>by simp only [Ren.se,V.den,Ren.eA h ρ a,Ren.eA h ρ b]
 | .quo a b=>by simp only [Ren.se,V.den,Ren.eA h ρ a,Ren.eA h ρ b]
 | .rem a b=>by simp only [Ren.se,V.den,Ren.eA h ρ a,Ren.eA h ρ b]
 | .wrap k a=>by simp only [Ren.se,V.den,Ren.eA h ρ a]
 | .xK b e=>by simp only [Ren.se,V.den,Ren.eA h ρ e];rw [Ren.ml h J]
 | .eD d=>rfl
 | .op o a b=>by
   cases o with
   |len=> simp only [Ren.se,cL,Ren.eA h ρ a];simp [V.den,fT.den]
   |_=>simp only [Ren.se,V.den,Ren.eA h ρ a,Ren.eA h ρ b]
 | .ap f a=>by simp only [Ren.se,V.den,Ren.eA h ρ a];rw [Ren.ml h (by unfold jO; omega)]
theorem Ren.A9 {r:Ren} (h:r.ns.length<=900) (ρ:Nat->Int): ∀c:SB,(r.sb c).den ρ=c.den (r.env ρ)
 | .lit b=>rfl
 | .lt a b=>by simp only [Ren.sb,eg,SB.den,Ren.eA h]
 | .le a b=>by simp only [Ren.sb,SB.den,Ren.eA h]
 | .eq a b=>by simp only [Ren.sb,gY,SB.den,Ren.eA h]
 | .not s=>by simp only [Ren.sb,SB.den,Ren.A9 h ρ s]
 | .and a b=>by simp only [Ren.sb,SB.den,Ren.A9 h ρ a,Ren.A9 h ρ b]
def En.ig (E:En) (r:Ren):En:={ ρ:=r.env E.ρ,θ:=fun i=>((E.θ (r.id i)).1,(E.θ (r.id i)).2+r.u7 i),κ:=fun i=>E.κ (r.id i)-r.u7 i,dm:=fun i=>i<r.bl.length/\E.dm (r.id i),ro:=E.ro,hd:=E.hd }
theorem yL {i n:Nat} (h:Nat.blt i n=true):i<n:=by simp_all
mutual
theorem VR.ig {E:En} {r:Ren} {h:Array Obj} (W:r.ns.length<=900): ∀(x:Y) (u:Value),mg r.bl.length x=true->VR E h (r.av x) u->VR (E.ig r) h x u
 | .bool b,u,_,hv=>by simp only [Ren.av,VR,En.ig,Ren.A9 W] at *; exact hv
 | .int k e,u,_,hv=>by simp only [Ren.av,VR,En.ig,Ren.eA W] at *; exact hv
 | .str s,u,_,hv=>by simp only [Ren.av,VR] at *; exact hv
 | .ptr i o,u,hi,hv=>by simp only [Ren.av,VR,En.ig,mg] at *; exact⟨by rw [hv.1,amq],yL hi,hv.2⟩
 | .u9,u,_,hv=>by simp only [Ren.av,VR] at *; exact hv
 | .nQ cs,u,hi,hv=>by simp only [Ren.av,VR,mg] at *;obtain⟨b,o,us,U,Z,h3,h4⟩:=hv;exact⟨b,o,us,U,Z,cJ.ig W cs us hi h3,h4⟩
 | .slice i o l c,u,hi,hv=>by
   simp only [Ren.av,VR,mg] at *;obtain⟨U,a,cap,Z,h3,h4⟩:=hv;refine⟨⟨yL hi,U⟩,a,cap,Z,h3,?_⟩
   cases c with
   |exact k=>
    simp only [eZ,En.ig] at *
    grind
   |rest es=>
    simp only [eZ,En.ig] at *
    grind
 | .gL,u,_,hv=>by simp only [Ren.av,VR] at *; exact hv
 | .ro cs n f,u,hi,hv=>by simp only [Ren.av,VR,mg] at *;obtain⟨b,o,cap,us,U,Z,h3,h4,h5,h6⟩:=hv;exact⟨b,o,cap,us,U,Z,h3,h4,cJ.ig W cs us hi h5,h6⟩
 | .map i,u,hi,hv=>by simp only [Ren.av,VR,En.ig,mg] at *; exact⟨hv.1,yL hi,hv.2⟩
 | .tI,u,_,hv=>by simp only [Ren.av,VR] at *; exact hv
 | .func f a b,u,hi,hv=>by simp only [Ren.av,VR,mg,au] at *;obtain⟨us,ws,U,Z,h3⟩:=hv;exact⟨us,ws,U,cJ.ig W a us hi.1 Z,cJ.ig W b ws hi.2 h3⟩
 | .xp,u,_,hv=>by simp only [Ren.av,VR] at *; exact hv
 | .iface t v,u,hi,hv=>by simp only [Ren.av,VR,mg] at *;obtain⟨y,U,Z⟩:=hv;exact⟨y,U,VR.ig W v y hi Z⟩
 | .yn,u,_,hv=>by simp only [Ren.av,VR] at *; exact hv
 | .agg cs,u,hi,hv=>by simp only [Ren.av,VR,mg] at *;obtain⟨us,U,Z⟩:=hv;exact⟨us,U,cJ.ig W cs us hi Z⟩
 | .tuple cs,u,hi,hv=>by simp only [Ren.av,VR,mg] at *;obtain⟨us,U,Z⟩:=hv;exact⟨us,U,cJ.ig W cs us hi Z⟩
 | .LI i,u,_,hv=>by simp only [Ren.av,VR] at hv
 | .xK k ks,u,_,hv=>by
   simp only [Ren.av,VR,En.ig] at *;rw [Ren.ml W J];rcases hv with hv|⟨b,o,n,cap,U,Z,h3,h4,h5⟩
   ·grind
   ·refine .inr ⟨b,o,n,cap,U,Z,h3,h4,fun i j kd hi hj=>?_⟩;rw [Ren.ml W J]
    grind
 | .emp,u,_,hv=>by simp only [Ren.av,VR] at *; exact hv
 | .eD e t,u,_,hv=>by simp only [Ren.av,VR,En.ig,Ren.eA W] at *; exact hv
 | .kG e,u,_,hv=>by simp only [Ren.av,VR,En.ig,Ren.eA W] at *; exact hv
 | .pV i n t,u,hi,hv=>by
   simp only [Ren.av] at hv;split at hv
   ·rename_i hs;simp only [VR,En.ig,mg,Ren.eA W] at *;obtain⟨U,k,a,cap,Z,h3,h4,h5⟩:=hv;refine⟨⟨yL hi,U⟩,k,a,cap,Z,h3,h4,?_⟩;simp only [eZ,hs] at *
    grind
   ·simp [VR] at hv
 | .any,u,_,_=>by simp only [VR]
 | .xU z t,u,_,hv=>by simp only [Ren.av,VR,En.ig,Ren.eA W] at *; exact hv
 | .u5 i lo n t,u,hi,hv=>by
   simp only [Ren.av] at hv;split at hv
   ·rename_i hs;simp only [VR,En.ig,mg,Ren.eA W] at *;obtain⟨U,l,k,a,cap,Z,h3,h4,h5,h6⟩:=hv;refine⟨⟨yL hi,U⟩,l,k,a,cap,Z,h3,h4,h5,?_⟩;simp only [eZ,hs] at *
    grind
   ·simp [VR] at hv
 | .Ax i es x o,u,hi,hv=>by
   simp only [Ren.av] at hv;split at hv
   ·rename_i hs;simp only [VR,En.ig,mg,Ren.eA W] at *;obtain⟨U,k,Z,h3⟩:=hv;exact⟨⟨yL hi,U⟩,k,Z,by rw [h3,hs,bw]⟩
   ·simp [VR] at hv
theorem cJ.ig {E:En} {r:Ren} {h:Array Obj} (W:r.ns.length<=900): ∀(xs:List Y) (us:List Value),oZ r.bl.length xs=true->cJ E h (r.CZ xs) us->cJ (E.ig r) h xs us
 |[],us,_,hv=>by simp only [Ren.CZ,cJ] at *; exact hv
 |x::xs,us,hi,hv=>by simp only [Ren.CZ,cJ,oZ,au] at *;obtain⟨u,vs,U,Z,h3⟩:=hv;exact⟨u,vs,U,VR.ig W x u hi.1 Z,cJ.ig W xs vs hi.2 h3⟩
end
theorem abb {E:En} {r:Ren} {h:Array Obj} {xs ys:List Y} {us:List Value} (hs:jd (r.CZ xs) ys=true) (hv:cJ E h ys us):cJ E h (r.CZ xs) us:=by
 grind [ga]
def sM (r:Ren):List (Y×Y×Nat)->List (Y×Y×Nat)->Bool
 |[],[]=>true
 |(k,v,_)::xs,(k',v',_)::ys=>match eR (r.av k) k' with
  |true=>match eR (r.av v) v' with
   |true=>sM r xs ys
   |false=>false
  |false=>false
 |_,_=>false
def Kl (n:Nat):List (Y×Y×Nat)->Bool
 |[]=>true
 |(k,v,_)::xs=>mg n k&&mg n v&&Kl n xs
def LH (n:Nat):List (V×List Y)->Bool
 |[]=>true
 |(_,cs)::l=>oZ n cs&&LH n l
def nq (r:Ren):List (V×List Y)->List (V×List Y)->Bool
 |[],[]=>true
 |(i,a)::x,(j,b)::y=>fm (r.se i) j&&jd (r.CZ a) b&&nq r x y
 |_,_=>false
def Mm (n:Nat):List (V×Y)->Bool
 |[]=>true
 |(_,v)::l=>mg n v&&Mm n l
def nr (r:Ren):List (V×Y)->List (V×Y)->Bool
 |[],[]=>true
 |(i,a)::x,(j,b)::y=>fm (r.se i) j&&eR (r.av a) b&&nr r x y
 |_,_=>false
def OA (n:Nat):dX->Bool
 | .uo _ _ _ ov=>Mm n ov
 | .vec _ _ _ ov=>LH n ov
 | .cells cs _=>oZ n cs
 | .map es _=>Kl n es
 | .kU _ _=>true
 | .kQ _ _=>true
def eN (r:Ren) (k:Nat):dX->dX->Bool
 | .cells cs e,.cells ds f=>match Nat.beq e f with
   |true=>match eS k ds with
    |some ds=>jd (r.CZ cs) ds
    |none=>false
   |false=>false
 | .map es _,.map fs _=>sM r es fs
 | .kU s p,.kU t q=>iu s t&&Nat.beq p q&&Nat.beq k 0
 | .kQ e t,.kQ e' t'=>fm (r.se e) e'&&Nat.beq t t'&&Nat.beq k 0
 | .uo e t fq ov,.uo e' t' ahc jE=>fm (r.se e) e'&&Nat.beq t t'&&decide (fq=ahc)&&nr r ov jE&&Nat.beq k 0
 | .vec e t ty ov,.vec e' t' Wg jE=>fm (r.se e) e'&&Nat.beq t t'&&Nat.beq ty Wg&&nq r ov jE&&Nat.beq k 0
 |_,_=>false
theorem e9.ig {E:En} {r:Ren} {h:Array Obj} (W:r.ns.length<=900): ∀{xs ys:List (Y×Y×Nat)} {es:List MapEntry},Kl r.bl.length xs=true->sM r xs ys=true->e9 E h ys es->e9 (E.ig r) h xs es
 |[],[],es,_,_,h=>by simp only [e9] at *; exact h
 |[],_::_,_,_,hs,_=>by simp [sM] at hs
 |(_,_,_)::_,[],_,_,hs,_=>by simp [sM] at hs
 |(k,v,b)::xs,(k',v',b')::ys,es,hi,hs,h=>by
  simp only [Kl,au] at hi;simp only [sM] at hs;simp only [e9] at *;obtain⟨e,rr,rfl,U,Z,_,h4⟩:=h;split at hs
  ·rename_i e1;split at hs
   ·rename_i e2;refine⟨e,rr,rfl,VR.ig W k _ hi.1.1 (by rw [kx _ _ e1]; exact U),VR.ig W v _ hi.1.2 (by rw [kx _ _ e2]; exact Z),trivial,e9.ig W hi.2 hs h4⟩
   grind
  grind
theorem qG {r:Ren}: ∀xs:List Y,(r.CZ xs).length=xs.length
 |[]=>rfl
 |_::xs=>by simp [Ren.CZ,qG xs]
theorem Hk {r:Ren} (W:r.ns.length<=900) {ρ:Nat->Int} {i:Nat}: ∀{ov jE:List (V×List Y)},nq r ov jE=true->ep ρ i jE=(ep (r.env ρ) i ov).map r.CZ
 |[],[],_=>rfl
 |[],_::_,h=>by simp [nq] at h
 |_::_,[],h=>by simp [nq] at h
 |(j,a)::x,(k,b)::y,h=>by
  simp only [nq,au] at h;have U:=cX _ _ h.1.1;have Z:=ga _ _ h.1.2;simp only [ep];rw [<- U,Ren.eA W,<- Z,Hk W h.2]
  grind
theorem Hj {n:Nat}: ∀{ov:List (V×List Y)},LH n ov=true->∀p∈ov,oZ n p.2=true
 |[],_,p,hp=>by simp at hp
 |(j,a)::x,h,p,hp=>by
  simp only [LH,au] at h;rcases aF.1 hp with rfl|hp
  ·grind
  ·exact Hj h.2 p hp
theorem uE {E:En} {r:Ren} {h:Array Obj} (W:r.ns.length<=900) {row:Row} {ov jE:List (V×List Y)} (hs:nq r ov jE=true) (hi:LH r.bl.length ov=true): ∀(ds:List D) (i:Nat) {us:List Value},
 cJ E h (bH E.ρ row jE ds i) us->cJ (E.ig r) h (bH (E.ig r).ρ row ov ds i) us
 |[],_,us,hv=>by simp only [bH,cJ] at *; exact hv
 |d::ds,i,us,hv=>by
  simp only [bH] at *;obtain⟨a,b,rfl,U,Z⟩:=hv.split;refine cJ.append ?_ (uE W hs hi ds (i+1) Z);rw [Hk W hs] at U;show cJ (E.ig r) h (match ep (r.env E.ρ) i ov with |some cs=>cs|none=>ic row (.eD d)) a
  cases ho:ep (r.env E.ρ) i ov with
  |none=> rw [ho] at U;simp only [Option.map_none] at U;exact (gD (E:=E.ig r)).2 (show xA E.ro h row (dec (enc d)) a from (gD (E:=E)).1 U)
  |some cs=> rw [ho] at U;simp only [amu] at U;obtain⟨p,p1,p2,_⟩:=lE ho;exact cJ.ig W cs a (by rw [<- p2]; exact Hj hi p p1) U
theorem D4 {r:Ren} {row:Row}: ∀{ov jE:List (V×List Y)},nq r ov jE=true->tG row jE->tG row ov
 |[],[],_,h=>h
 |[],_::_,h,_=>by simp [nq] at h
 |_::_,[],h,_=>by simp [nq] at h
 |(j,a)::x,(k,b)::y,h,ho=>by
  simp only [nq,au] at h;intro p hp;rcases aF.1 hp with rfl|hp
  ·have:=congrArg List.length (ga _ _ h.1.2);rw [qG] at this;simp only;rw [this];exact ho (k,b) ad
  ·exact D4 h.2 (fun q hq=>ho q (by simp [hq])) p hp
theorem Rg {r:Ren} (W:r.ns.length<=900) {ρ:Nat->Int} {n:Int}: ∀{ov jE:List (V×Y)},nr r ov jE=true->mu ρ n jE=(mu (r.env ρ) n ov).map r.av
 |[],[],_=>rfl
 |[],_::_,h=>by simp [nr] at h
 |_::_,[],h=>by simp [nr] at h
 |(j,a)::x,(k,b)::y,h=>by simp only [nr,au] at h;have U:=cX _ _ h.1.1;have Z:=kx _ _ h.1.2;simp only [mu];rw [<- U,Ren.eA W,<- Z,Rg W h.2];split<;>simp
theorem zk {r:Ren} (W:r.ns.length<=900) {ρ:Nat->Int}: ∀{ov jE:List (V×Y)},nr r ov jE=true->(ov.map fun p=>p.1.den (r.env ρ))=jE.map fun p=>p.1.den ρ
 |[],[],_=>rfl
 |[],_::_,h=>by simp [nr] at h
 |_::_,[],h=>by simp [nr] at h
 |(j,a)::x,(k,b)::y,h=>by simp only [nr,au] at h;have U:=cX _ _ h.1.1;simp only [aH];rw [<- U,Ren.eA W,zk W h.2]
theorem AR.congr {ρ ρ':Nat->Int} {ds:List D} {ov jE:List (V×Y)} (h:AR ρ ds ov) (hk:(jE.map fun p=>p.1.den ρ')=ov.map fun p=>p.1.den ρ):AR ρ' ds jE:=by refine⟨h.1,fun p hp=>?_,by rw [hk]; exact h.2.2⟩;have:p.1.den ρ'∈jE.map fun p=>p.1.den ρ':=bd.2 ⟨p,hp,rfl⟩;rw [hk] at this;obtain⟨q,hq,he⟩:=bd.1 this;rw [<- he];exact h.2.1 q hq
theorem HW {n:Nat} {ρ:Nat->Int} {m:Int} {v:Y}: ∀{ov:List (V×Y)},Mm n ov=true->mu ρ m ov=some v->mg n v=true
 |[],_,h=>by simp [mu] at h
 |(_,u)::l,hi,h=>by
  simp only [Mm,au] at hi;simp only [mu] at h;split at h
  ·simp only [an] at h; subst h; exact hi.1
  ·exact HW hi.2 h
theorem pF.ig {E:En} {r:Ren} {h:Array Obj} (W:r.ns.length<=900) {B:Nat} {key:D} {j ty:Nat} {c:FC} {d:D} {u:Value} (ho:pF E h B key j ty c d u):pF (E.ig r) h B key j ty c d u:=by
 cases c with
 |ck c=>exact ho
 |mp t=>exact ho
 |own t=>
  rcases ho with ho|⟨b,o,n,cap,a,arr,lo,hi,U,Z,h3,h4,h5,h6,h7⟩
  ·exact .inl ho
  ·refine .inr ⟨b,o,n,cap,a,arr,lo,hi,U,Z,h3,h4,h5,h6,?_⟩;rcases h7 with h7|⟨g1,g2,us,g3,g4⟩
   ·exact .inl h7
   ·exact .inr ⟨g1,g2,us,uE W (ov:=[]) (jE:=[]) rfl rfl _ _ g3,g4⟩
theorem qL.ig {E:En} {r:Ren} {h:Array Obj} (W:r.ns.length<=900) {B t:Nat} {fq:List Nat} {key d:D} {v:Value} (ho:qL E h B t fq key d v):qL (E.ig r) h B t fq key d v:=by
 unfold qL at *;split at ho
 ·obtain⟨c,U,Z⟩:=ho;exact⟨c,U,Z.ig W⟩
 ·obtain⟨b,o,arr,lo,hi,U,Z,h3,h4,h5,h6⟩:=ho;refine⟨b,o,arr,lo,hi,U,Z,h3,h4,h5,fun j c hc=>?_⟩;obtain⟨u,g1,g2,g3⟩:=h6 j c hc;exact⟨u,g1,g2,g3.ig W⟩
theorem eY.ig {E:En} {r:Ren} {h:Array Obj} (W:r.ns.length<=900) {B t:Nat} {fq:List Nat} {ov jE:List (V×Y)} (hs:nr r ov jE=true) (hi:Mm r.bl.length ov=true): ∀{ds:List D} {es:List MapEntry},eY E h B t fq jE ds es->eY (E.ig r) h B t fq ov ds es
 |[],_,ho=>ho
 |d::ds,_,⟨e,rr,n,U,Z,h3,h4,h5⟩=>by
  refine⟨e,rr,n,U,Z,h3,?_,eY.ig W hs hi h5⟩;have he:=Rg W (ρ:=E.ρ) (n:=n) hs
  show match mu (r.env E.ρ) n ov with |some v=>VR (E.ig r) h v e.val|none=>qL (E.ig r) h B t fq (.i n) (Gx d) e.val
  cases hv:mu (r.env E.ρ) n ov with
  |none=> rw [hv] at he;rw [he] at h4;exact h4.ig W
  |some v=> rw [hv] at he;rw [he] at h4;exact VR.ig W v _ (HW hi hv) h4
theorem OR.ig {E:En} {r:Ren} {h:Array Obj} (W:r.ns.length<=900) {id:Nat} {o o':dX} (hi:OA r.bl.length o=true) (hs:eN r (r.u7 id) o o'=true) (ho:OR E h (r.id id) o'):OR (E.ig r) h id o:=by
 cases o with
 |cells cs e=>
  cases o' with
  |cells ds f=>
   simp only [eN] at hs;simp only [OA] at hi;split at hs
   ·rename_i he;have he:=az he;subst he;split at hs
    ·rename_i ds' ES;simp only [OR] at *;obtain⟨arr,lo,hi',us,U,Z,h3,h4,h5,h6,h7⟩:=ho;obtain⟨g1,g2,g3⟩:=Z.eS ES;have hlen:=congrArg List.length (ga _ _ hs);rw [qG] at hlen;refine⟨arr,lo,hi',us.drop (r.u7 id),U,cJ.ig W cs _ hi (abb hs g1),fun i u hu=>?_,?_,?_,h6,fun u hu=>h7 u (amn hu)⟩
     ·rw [amV] at hu;have:=h3 _ u hu;show arr[(E.θ (r.id id)).2+r.u7 id+i]?=some u
      grind
     ·show cs.length<=E.κ (r.id id)-r.u7 id;omega
     ·show (E.θ (r.id id)).2+r.u7 id+(E.κ (r.id id)-r.u7 id)=arr.size;omega
    grind
   grind
  |map _ _=>simp [eN] at hs
  |kU _ _=>simp [eN] at hs
  |vec _ _ _ _=>simp [eN] at hs
  |kQ _ _=>simp [eN] at hs
  |uo _ _ _ _=>simp [eN] at hs
 |map es c=>
  cases o' with
  |map fs d=> simp only [eN] at hs;simp only [OA] at hi;simp only [OR] at *;obtain⟨bT,c',U,Z⟩:=ho;exact⟨bT,c',U,e9.ig W hi hs Z⟩
  |cells _ _=>simp [eN] at hs
  |kU _ _=>simp [eN] at hs
  |vec _ _ _ _=>simp [eN] at hs
  |kQ _ _=>simp [eN] at hs
  |uo _ _ _ _=>simp [eN] at hs
 |kU s p=>
  cases o' with
  |kU t q=> simp_all [eN,mG,OR,En.ig]
  |cells _ _=>simp [eN] at hs
  |map _ _=>simp [eN] at hs
  |vec _ _ _ _=>simp [eN] at hs
  |kQ _ _=>simp [eN] at hs
  |uo _ _ _ _=>simp [eN] at hs
 |kQ e t=>
  cases o' with
  |cells _ _=>simp [eN] at hs
  |map _ _=>simp [eN] at hs
  |kU _ _=>simp [eN] at hs
  |vec _ _ _ _=>simp [eN] at hs
  |uo _ _ _ _=>simp [eN] at hs
  |kQ e' t'=> simp only [eN,au] at hs;have U:=cX _ _ hs.1.1;have Z:=az hs.1.2;subst U Z;simp only [OR] at *;have qc:e.den (E.ig r).ρ=(r.se e).den E.ρ:=(Ren.eA W E.ρ e).symm;rw [qc];exact ho
 |vec e t ty ov=>
  cases o' with
  |cells _ _=>simp [eN] at hs
  |map _ _=>simp [eN] at hs
  |kU _ _=>simp [eN] at hs
  |kQ _ _=>simp [eN] at hs
  |uo _ _ _ _=>simp [eN] at hs
  |vec e' t' Wg jE=>
   simp only [eN,au] at hs;simp only [OA] at hi;have U:=cX _ _ hs.1.1.1.1;have Z:=az hs.1.1.1.2;have h3:=az hs.1.1.2;have h4:=az hs.2;have tq:=hs.1.2;subst U Z h3;simp only [OR] at *;obtain⟨h0,arr,lo,hi',us,q1,q2,q3,q4,q5,q6,q7⟩:=ho;have pI:=D4 tq h0.1;have qc:e.den (E.ig r).ρ=(r.se e).den E.ρ:=(Ren.eA W E.ρ e).symm;rw [qc];refine⟨⟨pI,h0.2⟩,arr,lo,hi',us,q1,uE W tq hi _ _ q2,?_,?_,?_,q6,q7⟩
   ·intro i u hu;show arr[(E.θ (r.id id)).2+r.u7 id+i]?=some u
    grind
   ·show _<=E.κ (r.id id)-r.u7 id
    grind [cM]
   ·show (E.θ (r.id id)).2+r.u7 id+(E.κ (r.id id)-r.u7 id)=arr.size
    grind
 |uo e t fq ov=>
  cases o' with
  |cells _ _=>simp [eN] at hs
  |map _ _=>simp [eN] at hs
  |kU _ _=>simp [eN] at hs
  |kQ _ _=>simp [eN] at hs
  |vec _ _ _ _=>simp [eN] at hs
  |uo e' t' ahc jE=> simp only [eN,au,decide_eq_true_eq] at hs;simp only [OA] at hi;have U:=cX _ _ hs.1.1.1.1;have Z:=az hs.1.1.1.2;have h3:=hs.1.1.2;have tq:=hs.1.2;subst U Z h3;simp only [OR] at *;obtain⟨n0,bT,c',g1,g2⟩:=ho;have qc:e.den (E.ig r).ρ=(r.se e).den E.ρ:=(Ren.eA W E.ρ e).symm;rw [qc];exact⟨n0.congr (zk W tq),bT,c',g1,eY.ig W tq hi g2⟩
end
end Go.As
end
section
namespace Go.As
noncomputable section
open Go.RowKit
structure CS where
 k:Nat
 bG:List (Nat×Y)
 dI:List dX
 pc:List (SB×Bool)
 m:V
def n5:List (Nat×Y)->Tr Y->Tr Y
 |[],t=>t
 |(i,v)::l,t=>n5 l (t.put i (some v))
def oX:List dX->Nat->Tr dX->Tr dX
 |[],_,t=>t
 |o::os,i,t=>oX os (i+1) (t.put i (some o))
def CS.st (c:CS):St:=⟨n5 c.bG .nil,⟨oX c.dI 0 .nil,c.dI.length,none⟩,c.pc⟩
structure Gs where
 ns:Tr V
 bl:Tr (Nat×Nat)
def Gs.num (g:Gs) (i:Nat) (e:V):Gs:=match g.ns.get i with
 |some _=>g
 |none=> ⟨g.ns.put i (some e),g.bl⟩
def Gs.om (g:Gs) (i j k:Nat):Gs:=match g.bl.get i with
 |some _=>g
 |none=> ⟨g.ns,g.bl.put i (some (j,k))⟩
def yB (x y:V) (g:Gs):Gs:=match x with
 | .dK i=>g.num i y
 |_=>g
def aiY:SB->SB->Gs->Gs
 | .not a,.not b,g=>aiY a b g
 | .eq a b,.eq c d,g=>yB b d (yB a c g)
 |_,_,g=>g
mutual
def UB:Y->Y->Gs->Gs
 | .bool a,.bool b,g=>aiY a b g
 | .int _ e,.int _ f,g=>yB e f g
 | .ptr i o,.ptr j p,g=>g.om i j (p-o)
 | .slice i o _ _,.slice j p _ _,g=>g.om i j (p-o)
 | .map i,.map j,g=>g.om i j 0
 | .agg a,.agg b,g=>z7 a b g
 | .tuple a,.tuple b,g=>z7 a b g
 | .iface _ a,.iface _ b,g=>UB a b g
 | .func _ a b,.func _ c d,g=>z7 b d (z7 a c g)
 | .nQ a,.nQ b,g=>z7 a b g
 | .ro a _ _,.ro b _ _,g=>z7 a b g
 | .eD a _,.eD b _,g=>yB a b g
 | .kG a,.kG b,g=>yB a b g
 | .pV i a _,.pV j b _,g=>(yB a b g).om i j 0
 | .Ax i _ a _,.Ax j _ b _,g=>(yB a b g).om i j 0
 | .xU a _,.xU b _,g=>yB a b g
 | .u5 i l a _,.u5 j k b _,g=>(yB l k (yB a b g)).om i j 0
 |_,_,g=>g
def z7:List Y->List Y->Gs->Gs
 |x::xs,y::ys,g=>z7 xs ys (UB x y g)
 |_,_,g=>g
end
def YN:List (Y×Y×Nat)->List (Y×Y×Nat)->Gs->Gs
 |(k,v,_)::xs,(k',v',_)::ys,g=>YN xs ys (UB v v' (UB k k' g))
 |_,_,g=>g
def acp:List (V×List Y)->List (V×List Y)->Gs->Gs
 |(i,a)::x,(j,b)::y,g=>acp x y (z7 a b (yB i j g))
 |_,_,g=>g
def acq:List (V×Y)->List (V×Y)->Gs->Gs
 |(i,a)::x,(j,b)::y,g=>acq x y (UB a b (yB i j g))
 |_,_,g=>g
def alc (k:Nat) (o o':dX) (g:Gs):Gs:=match o,o' with
 | .cells a _,.cells b _=>match eS k b with
   |some b=>z7 a b g
   |none=>g
 | .map a _,.map b _=>YN a b g
 | .vec a _ _ ov,.vec b _ _ jE=>acp ov jE (yB a b g)
 | .kQ a _,.kQ b _=>yB a b g
 | .uo a _ _ ov,.uo b _ _ jE=>acq ov jE (yB a b g)
 |_,_=>g
def Ds (s:Tr Y):List (Nat×Y)->Gs->Gs
 |[],g=>g
 |(t,v)::l,g=>match s.get t with
  |some v'=>Ds s l (UB v v' g)
  |none=>Ds s l g
def BB (h:Hp):List dX->Nat->Gs->Gs
 |[],_,g=>g
 |o::os,i,g=>match g.bl.get i with
  |some (j,k)=>match h.get j with
   |some o'=>BB h os (i+1) (alc k o o' g)
   |none=>BB h os (i+1) g
  |none=>BB h os (i+1) g
def yr (g:Tr V):Nat->Nat->List V
 |0,_=>[]
 |n+1,i=>match g.get i with
  |some e=>e::yr g n (i+1)
  |none=> .lit 0::yr g n (i+1)
def Jr (g:Tr (Nat×Nat)):Nat->Nat->List Nat
 |0,_=>[]
 |n+1,i=>match g.get i with
  |some (e,_)=>e::Jr g n (i+1)
  |none=>0::Jr g n (i+1)
def Jq (g:Tr (Nat×Nat)):Nat->Nat->List Nat
 |0,_=>[]
 |n+1,i=>match g.get i with
  |some (_,e)=>e::Jq g n (i+1)
  |none=>0::Jq g n (i+1)
def CS.lR (c:CS) (s:St):Ren:=match BB s.h c.dI 0 (Ds s.bG c.bG ⟨.nil,.nil⟩) with
 |⟨ns,bl⟩=> ⟨yr ns c.k 0,Jr bl c.dI.length 0,Jq bl c.dI.length 0⟩
def Rk (i:Nat):List Nat->Bool
 |[]=>true
 |j::l=>match Nat.beq i j with
  |true=>false
  |false=>Rk i l
def xc:List Nat->Bool
 |[]=>true
 |i::l=>Rk i l&&xc l
def Da (r:Ren) (n:Nat) (s:Tr Y):List (Nat×Y)->Bool
 |[]=>true
 |(t,v)::l=>match s.get t with
  |some v'=>mg n v&&eR (r.av v) v'&&Da r n s l
  |none=>false
def Bj (r:Ren) (n:Nat) (h:Hp):List dX->Nat->Bool
 |[],_=>true
 |o::os,i=>match h.get (r.id i) with
  |some o'=>OA n o&&eN r (r.u7 i) o o'&&Bj r n h os (i+1)
  |none=>false
def M4 (pc:List (SB×Bool)) (e:V):Option Int×Option Int:=match e with
 | .lit z=>(some z,some z)
 |e=>bounds e pc
def RH (a b:Int):Bool:=decide (-9223372036854775808<=a)&&decide (b<=9223372036854775807)
def FX (pc:List (SB×Bool)) (e:V):Option Int×Option Int:=match e with
 | .wrap .i64 (.add a b)=>match M4 pc a,M4 pc b with
   |(some la,some ha),(some lb,some hb)=>if RH (la+lb) (ha+hb) then (some (la+lb),some (ha+hb)) else bounds e pc
   |_,_=>bounds e pc
 | .wrap .i64 (.sub a b)=>match M4 pc a,M4 pc b with
   |(some la,some ha),(some lb,some hb)=>if RH (la-hb) (ha-lb) then (some (la-hb),some (ha-lb)) else bounds e pc
   |_,_=>bounds e pc
 |e=>M4 pc e
def FZ (a b:Option Int):Bool:=match a,b with
 |some x,some y=>decide (x<y)
 |_,_=>false
def KD (a b:Option Int):Bool:=match a,b with
 |some x,some y=>decide (x<=y)
 |_,_=>false
def A_ (pc:List (SB×Bool)) (c:SB) (v:Bool):Bool:=
 match kO pc c with
 |some b=>b == v
 |none=>match c with
  | .lt a b=>match v with
    |true=>FZ (FX pc a).2 (FX pc b).1
    |false=>KD (FX pc b).2 (FX pc a).1
  | .eq a b=>match v with
    |true=>false
    |false=>FZ (FX pc a).2 (FX pc b).1||FZ (FX pc b).2 (FX pc a).1
  |_=>false
def Du (pv:List (SB×Bool)->SB->Bool->Bool) (r:Ren) (pc:List (SB×Bool)):List (SB×Bool)->Bool
 |[]=>true
 |(c,v)::l=>pv pc (r.sb c) v&&Du pv r pc l
def CS.fits (pv:List (SB×Bool)->SB->Bool->Bool) (c:CS) (s:St) (r:Ren):Bool:=
 Nat.ble r.ns.length 900&&Nat.beq r.bl.length c.dI.length&&xc r.bl&&Da r c.dI.length s.bG c.bG&&Bj r c.dI.length s.h c.dI 0&&Du pv r s.pc c.pc
theorem vm: ∀{l:List (Nat×Y)} {t:Tr Y} {i:Nat} {v:Y},(n5 l t).get i=some v->(i,v)∈l\/t.get i=some v
 |[],t,i,v,h=> .inr h
 |(j,x)::l,t,i,v,h=>by
  simp only [n5] at h;rcases vm h with h|h
  all_goals grind [Tr.bU]
theorem j5: ∀{l:List dX} {i:Nat} {t:Tr dX} {j:Nat},(oX l i t).get j=if i<=j/\j<i+l.length then l[j-i]? else t.get j
 |[],i,t,j=>by rw [ah ad];rfl
 |o::os,i,t,j=>by
  simp only [oX];rw [j5,Tr.bU]
  grind
theorem LM {i:Nat}: ∀{l:List Nat},Rk i l=true->i∉l
 |[],_=>by simp
 |j::l,h=>by
  simp only [Rk] at h;split at h
  ·grind
  ·rename_i hb;have:=anf hb;simp [this,LM h]
theorem pC: ∀{l:List Nat},xc l=true->∀{i j x:Nat},fu l i=some x->fu l j=some x->i=j
 |[],_,i,_,_,h,_=>by simp [fu] at h
 |y::l,hd,i,j,x,U,Z=>by
  simp only [xc,au] at hd;have hn:=LM hd.1
  have hm: ∀{i:Nat} {l:List Nat} {x:Nat},fu l i=some x->x∈l:=by
   intro i l x h
   grind [dC]
  cases i with
  |zero=>
   cases j with
   |zero=>rfl
   |succ j=>
    grind [fu]
  |succ i=>
   cases j with
   |zero=>
    grind [fu]
   |succ j=> simp only [fu] at U Z;rw [pC hd.2 U Z]
theorem B8 {r:Ren} {n:Nat} {s:Tr Y}: ∀{l:List (Nat×Y)},Da r n s l=true->∀{t:Nat} {v:Y},(t,v)∈l->∃v',s.get t=some v'/\mg n v=true/\r.av v=v'
 |[],_,_,_,h=>by simp at h
 |(t0,v0)::l,hs,t,v,h=>by
  simp only [Da] at hs;split at hs
  ·rename_i v' hv;simp only [au] at hs;rcases aF.1 h with h|h
   ·grind [kx]
   ·exact B8 hs.2 h
  grind
theorem jx {r:Ren} {n:Nat} {h:Hp}: ∀{l:List dX} {i:Nat},Bj r n h l i=true->∀{j:Nat} {o:dX},l[j]?=some o->∃o',h.get (r.id (i+j))=some o'/\OA n o=true/\eN r (r.u7 (i+j)) o o'=true
 |[],_,_,_,_,h=>by simp at h
 |o0::os,i,hs,j,o,hj=>by
  simp only [Bj] at hs;split at hs
  ·rename_i o' ho;simp only [au] at hs
   cases j with
   |zero=>
    grind
   |succ j=>
    have:=jx hs.2 (j:=j) (by simpa using hj)
    grind
  grind
def w? (pv:List (SB×Bool)->SB->Bool->Bool):Prop:= ∀(ρ:Nat->Int) (pc:List (SB×Bool)) (c:SB) (v:Bool),ca ρ pc->pv pc c v=true->c.den ρ=v
theorem AL {ρ:Nat->Int} {pc:List (SB×Bool)} (hp:ca ρ pc) (e:V):sg (M4 pc e).1 (M4 pc e).2 (e.den ρ):=by
 unfold M4
 grind [sg,V.den,mL]
theorem EI {a b x:Int} (h:RH a b=true) (U:a<=x) (Z:x<=b):IntKind.i64.wrap x=x:=by
 simp only [RH,au,decide_eq_true_eq] at h;rw [<- mj]
 grind [uX]
theorem S5 {ρ:Nat->Int} {pc:List (SB×Bool)} (hp:ca ρ pc) (e:V):sg (FX pc e).1 (FX pc e).2 (e.den ρ):=by
 unfold FX;split
 ·rename_i a b;have ha:=AL hp a;have hb:=AL hp b;split
  ·rename_i la ha' lb JI e1 e2;rw [e1] at ha;rw [e2] at hb;have a1:=ha.1 la rfl;have a2:=ha.2 ha' rfl;have b1:=hb.1 lb rfl;have b2:=hb.2 JI rfl;split
   ·rename_i hi;simp only [V.den];rw [EI hi J J];constructor<;>intro l W<;>simp at W<;>omega
   ·exact mL hp
  ·exact mL hp
 ·rename_i a b;have ha:=AL hp a;have hb:=AL hp b;split
  ·rename_i la ha' lb JI e1 e2;rw [e1] at ha;rw [e2] at hb;have a1:=ha.1 la rfl;have a2:=ha.2 ha' rfl;have b1:=hb.1 lb rfl;have b2:=hb.2 JI rfl;split
   ·rename_i hi;simp only [V.den];rw [EI hi J J];constructor<;>intro l W<;>simp at W<;>omega
   ·exact mL hp
  ·exact mL hp
 grind [AL]
theorem BW {a b:Option Int} {x y:Int} (h:FZ a b=true) (U: ∀z,a=some z->x<=z) (Z: ∀z,b=some z->z<=y):x<y:=by
 unfold FZ at h
 grind
theorem PM {a b:Option Int} {x y:Int} (h:KD a b=true) (U: ∀z,a=some z->x<=z) (Z: ∀z,b=some z->z<=y):x<=y:=by
 unfold KD at h
 grind
theorem Ov:w? A_:=by
 intro ρ pc c v hp h;unfold A_ at h;split at h
 ·rename_i b hb
  grind [gW]
 ·split at h
  ·have ha:=fun a=>S5 hp a;split at h
   ·have:=BW h (ha _).2 (ha _).1
    grind [SB.den]
   ·have:=PM h (ha _).2 (ha _).1
    grind [SB.den]
  ·have ha:=fun a=>S5 hp a;split at h
   ·grind
   ·simp only [amY] at h;simp only [SB.den,beq_eq_false_iff_ne,ne_eq];rcases h with h|h
    ·have:=BW h (ha _).2 (ha _).1;omega
    ·have:=BW h (ha _).2 (ha _).1;omega
  grind
theorem Fb {pv:List (SB×Bool)->SB->Bool->Bool} (hpv:w? pv) {r:Ren} (W:r.ns.length<=900) {ρ:Nat->Int} {pc:List (SB×Bool)} (hp:ca ρ pc): ∀{l:List (SB×Bool)},Du pv r pc l=true->ca (r.env ρ) l
 |[],_=>by intro c b h; simp at h
 |(c0,v0)::l,h=>by
  simp only [Du,au] at h;intro c b hm;rcases aF.1 hm with hm|hm
  ·simp only [aq] at hm;obtain⟨rfl,rfl⟩:=hm;rw [<- Ren.A9 W];exact hpv ρ pc _ _ hp h.1
  ·exact Fb hpv W hp h.2 c b hm
theorem Af [bJ] {pv:List (SB×Bool)->SB->Bool->Bool} (hpv:w? pv) {E:En} {c:CS} {s:St} {r:Ren} {a:Act} {w:World} (f:Fit E s a w) (h:c.fits pv s r=true):r.ns.length<=900/\Fit (E.ig r) c.st a w/\
 ∀id o,c.st.h.get id=some o->∃o',s.h.get (r.id id)=some o':=by
 unfold CS.fits at h;simp only [au] at h;obtain⟨⟨⟨⟨⟨U,Z⟩,h3⟩,h4⟩,h5⟩,h6⟩:=h;have W:=amC U;have hn:=az Z
 have vJ: ∀id o,c.st.h.get id=some o->c.dI[id]?=some o:=by
  intro id o ho;have:(oX c.dI 0 .nil).get id=some o:=ho
  grind [j5,Tr.get]
 refine⟨W,⟨⟨?_,?_,?_,?_,f.rel.sq,bJ.ig f.rel.ku fun i hi=>Ren.ml W hi,?_⟩,?_,Fb hpv W f.pc h6⟩,?_⟩
 ·intro id hid hd;have:id<r.bl.length:=hd.1;have hid:c.dI.length<=id:=hid;omega
 ·intro x hx
  grind [CS.st]
 ·intro id o ho;obtain⟨o',g1,g2,g3⟩:=jx h5 (vJ id o ho);rw [aK] at g1 g3;obtain⟨q1,q2,q3⟩:=f.rel.live _ _ g1;have gu:=(bk.1 (vJ id o ho)).1;exact⟨⟨J,q1⟩,OR.ig W (by rw [hn]; exact g2) g3 q2,q3⟩
 ·intro id OO o o' ho zQ he;obtain⟨p,g1,_⟩:=jx h5 (vJ id o ho);obtain⟨p',R6,_⟩:=jx h5 (vJ OO o' zQ);rw [aK] at g1 R6;have heq:=f.rel.inj _ _ _ _ g1 R6 he;have gu:=(bk.1 (vJ id o ho)).1;have ae9:=(bk.1 (vJ OO o' zQ)).1;unfold Ren.id at heq
  cases e1:fu r.bl id with
  |none=>rw [dC,anj] at e1; omega
  |some x=>
   cases e2:fu r.bl OO with
   |none=>rw [dC,anj] at e2; omega
   |some y=> rw [e1,e2] at heq;simp only at heq;subst heq;exact pC h3 e1 e2
 ·intro b x hb;obtain⟨q1,q2,q3⟩:=f.rel.hid b x hb;refine⟨q1,q2,fun id o ho=>?_⟩;obtain⟨o',g1,_⟩:=jx h5 (vJ id o ho);rw [aK] at g1;exact q3 _ o' g1
 ·intro t v ht;have:(n5 c.bG .nil).get t=some v:=ht;rcases vm this with h|h
  ·obtain⟨v',g1,g2,g3⟩:=B8 h4 h;obtain⟨u,q1,q2⟩:=f.sr t v' g1
   grind [VR.ig]
  grind [Tr.get]
 grind [jx]
end
end Go.As
end
section
namespace Go.As
noncomputable section
open Go.RowKit
structure z_ where
 w0:World
 ro:Nat->Prop
 ρ0:Nat->Int
structure Top [bJ] (B:z_) (E:En) (s:St) (a:Act) (w:World):Prop where
 fit:Fit E s a w
 hi: ∀i,900<=i->E.ρ i=B.ρ0 i
 ro: ∀b,B.ro b->E.ro b
 below:Below B.w0.heap.size B.w0 w
 own: ∀id o,s.h.get id=some o->B.w0.heap.size<=(E.θ id).1
theorem Top.then [bJ] {B:z_} {E:En} {s s':St} {a a':Act} {w w':World} (t:Top B E s a w) (h:nG E s a w s' a' w'): ∃E',Top B E' s' a' w'/\E'.ρ=E.ρ:=by
 obtain⟨_,_,E',st,f'⟩:=h;refine⟨E',⟨f',fun i hi=>by rw [st.ρ]; exact t.hi i hi,fun b hb=>st.ro b (t.ro b hb),?_,?_⟩,st.ρ⟩
 ·refine t.below.trans ⟨st.os,st.tape,st.output,st.size,fun k hk=>?_⟩
  exact st.cD k (amH hk t.below.size) fun id o ho he=>by have:=t.own id o ho;omega
 ·intro id o ho;rcases bg (E'.θ id).1 w.heap.size with h|h
  ·obtain⟨sX,o0,h0,he⟩:=st.own id o ho h;rw [<- he];exact t.own sX o0 h0
  ·exact bq t.below.size h
theorem Top.fits [bJ] {pv:List (SB×Bool)->SB->Bool->Bool} (hpv:w? pv) {B:z_} {E:En} {c:CS} {s:St} {r:Ren} {a:Act} {w:World} (t:Top B E s a w) (h:c.fits pv s r=true):r.ns.length<=900/\Top B (E.ig r) c.st a w:=by
 obtain⟨W,f,ho⟩:=Af hpv t.fit h;refine⟨W,f,fun i hi=>?_,t.ro,t.below,fun id o hid=>?_⟩
 ·show r.env E.ρ i=_;rw [Ren.ml W hi];exact t.hi i hi
 ·obtain⟨o',h'⟩:=ho id o hid;exact t.own _ _ h'
inductive Fr where
 |seq (p:List Nat) (c:Code)
 |block (id:Nat)
def Ju {α:Type}:T α->(α->Bool)->Bool
 | .fail,_=>false
 | .ret a,f=>f a
 | .split _ x y,f=>Ju x f&&Ju y f
structure Cfg where
 tt:TT
 call:eB
 draw:Nat->List Oper->St->T St
 lf:Nat
 pv:List (SB×Bool)->SB->Bool->Bool
 res:List ResultVar
def Cfg.ev (g:Cfg) (c:Code) (s:St):T (Ex×St):=jL g.tt g.call g.draw g.lf c s
def isTrue:Option (List Y)->Bool
 |some [.bool (.lit b)]=>b
 |_=>false
def Zf (g:Cfg) (e:Ex) (s:St):Bool:=match e with
 | .exit _=>false
 |_=>isTrue (lI g.tt s g.res)
def aeB:Y->Y->Bool
 | .int _ (.lit a),.int _ (.lit b)=>a == b
 | .int _ (.lit _),.int _ _=>false
 | .slice _ _ n _,.slice _ _ m _=>Nat.beq n m
 | .slice _ _ _ _,_=>false
 | .gL,.gL=>true
 | .gL,_=>false
 |_,_=>true
def quick (s:Tr Y):List (Nat×Y)->Bool
 |[]=>true
 |(t,v)::l=>match s.get t with
  |some v'=>match aeB v v' with
   |true=>quick s l
   |false=>false
  |none=>false
def KH (pv:List (SB×Bool)->SB->Bool->Bool) (s:St):List CS->Bool
 |[]=>false
 |c::cs=>match quick s.bG c.bG with
  |false=>KH pv s cs
  |true=>match c.fits pv s (c.lR s) with
   |true=>true
   |false=>KH pv s cs
abbrev ajE:=List Nat->Option (List CS)
mutual
def go (g:Cfg) (fB:ajE):Nat->List Nat->Code->List Fr->St->Bool
 |0,_,_,_,_=>false
 |n+1,p,c,fr,s=>match fB p with
  |some cs=>KH g.pv s cs
  |none=>match c with
   | .seq a b=>go g fB n (0::p) a (.seq (1::p) b::fr) s
   | .block id b=>go g fB n (0::p) b (.block id::fr) s
   |c=>Ju (g.ev c s) fun (e,s')=>cont g fB n fr e s'
def cont (g:Cfg) (fB:ajE):Nat->List Fr->Ex->St->Bool
 |0,_,_,_=>false
 |n+1,fr,e,s=>match fr with
  |[]=>Zf g e s
  | .seq p c::fr=>match e with
    | .normal=>go g fB n p c fr s
    |e=>cont g fB n fr e s
  | .block id::fr=>match e with
    | .exit j=>match Nat.beq j id with
      |true=>cont g fB n fr .normal s
      |false=>cont g fB n fr (.exit j) s
    |e=>cont g fB n fr e s
end
def apart (pc:List (SB×Bool)) (x:V):List V->Bool
 |[]=>true
 |y::l=>match decEq pc x y with
  |some false=>apart pc x l
  |_=>false
structure Hint where
 ts:List (SB×Bool):=[]
 xs:List V:=[]
 n:Nat:=0
section
variable {P:Program} {g:Cfg} {rF:Nat->List Oper->Bool} {N:Nat} {body:Code} {B:z_} {Q:Exit->Act->World->Prop}
structure al0 [bJ] (P:Program) (g:Cfg) (rF:Nat->List Oper->Bool):Prop where
 tt:eJ P g.tt
 call:iY P g.call
 draw:wx P rF g.draw
 pv:w? g.pv
theorem Top.pc [bJ] {B:z_} {E:En} {s:St} {a:Act} {w:World} {pc:List (SB×Bool)} (t:Top B E s a w) (hp:ca E.ρ pc):Top B E { s with pc:=pc } a w:=
 ⟨⟨t.fit.rel,t.fit.sr,hp⟩,t.hi,t.ro,t.below,t.own⟩
end
end
end Go.As
end
section
namespace Go.As
noncomputable section
def Ni (h:Hp) (o:dX):Hp:=⟨h.m.put h.next (some o),h.next+1,h.res⟩
def aaw {α:Type} (c:FC) (x:V) (ty:Nat) (s:St) (k:Y->St->T α):T α:=match c with
 | .ck c=>k (r9 c x) s
 | .mp t=>k (.map s.h.next) { s with h:=Ni s.h (.kQ x t) }
 | .own t=>kB s (qW (ed x) (.lit 0)) fun s b=>match b with
   |false=>k (.pV s.h.next (ed x) t) { s with h:=Ni s.h (.vec x t ty []) }
   |true=>kB s (qW (nk x) (.eD (.i 3))) fun s b=>match b with
    |true=>k (.slice s.h.next 0 0 (.rest (rowOf t).es)) { s with h:=Ni s.h (.cells [] ty) }
    |false=>k (.xU x t) s
def Sg {α:Type} (fq:List Nat) (x:V):List FC->Nat->St->(List Y->St->T α)->T α
 |[],_,s,k=>k [] s
 |c::cs,j,s,k=>aaw c (jw j x) (fq.getD (j+2) 0) s fun v s=>Sg fq x cs (j+1) s fun vs s=>k (v::vs) s
def aaC {α:Type} (t:Nat) (fq:List Nat) (x:V) (s:St) (k:Y->St->T α):T α:=match (rz t).ptr with
 |false=>match (rz t).cs with
  |[c]=>aaw c x (fq.getD 1 0) s k
  |_=> .fail
 |true=>Sg fq x (rz t).cs 0 s fun vs s=>k (.ptr s.h.next 0) { s with h:=Ni s.h (.cells vs (fq.getD 0 0)) }
def aav {α:Type} (id:Nat) (x:V) (s:St) (k:St->T α):T α:=match s.h.get id with
 |some o=>match o with
  | .uo e t fq ov=>uh x ov s fun r s=>match r with
    |some _=>k s
    |none=>kB s (HR e (nO x)) fun s b=>match b with
     |true=>k s
     |false=>aaC t fq (.op .Gq e (nO x)) { s with h:=s.h.drop id } fun v s=>k { s with h:=s.h.put id (.uo e t fq ((x,v)::ov)) }
  |_=>k s
 |none=>k s
def abc (E:En) (H:Hp) (b:Nat):Prop:=(∃id o,H.get id=some o/\(E.θ id).1=b)\/∃x,E.hd b=some x
structure View [bJ] (E:En) (H:Hp) (w:World) (E':En) (H':Hp):Prop where
 rel:bS E' H' w
 kp:fU E w.heap E' w.heap
 sO: ∀b,E'.ro b->E.ro b\/abc E H b
 hold: ∀b,abc E' H' b->abc E H b
theorem View.refl [bJ] {E:En} {H:Hp} {w:World} (r:bS E H w):View E H w E H:=
 ⟨r,⟨rfl,fun _ h=>h,fun _ _=>rfl,fun _ _=>rfl,fun _ h=>h,fun _ _=>rfl⟩,fun _ h=> .inl h,fun _ h=>h⟩
theorem View.trans [bJ] {E E1 E2:En} {H H1 H2:Hp} {w:World} (a:View E H w E1 H1) (b:View E1 H1 w E2 H2):View E H w E2 H2:=
 ⟨b.rel,⟨b.kp.ρ.trans a.kp.ρ,fun id h=>b.kp.dm id (a.kp.dm id h),fun id h=>(b.kp.θ id (a.kp.dm id h)).trans (a.kp.θ id h),fun id h=>(b.kp.κ id (a.kp.dm id h)).trans (a.kp.κ id h),fun x h=>b.kp.ro x (a.kp.ro x h),fun _ _=>rfl⟩,
  fun x h=>(b.sO x h).elim (a.sO x) fun h=> .inr (a.hold x h),fun x h=>a.hold x (b.hold x h)⟩
theorem fU.trans {E E1 E2:En} {h:Array Obj} (a:fU E h E1 h) (b:fU E1 h E2 h):fU E h E2 h:=
 ⟨b.ρ.trans a.ρ,fun id h=>b.dm id (a.dm id h),fun id h=>(b.θ id (a.dm id h)).trans (a.θ id h),fun id h=>(b.κ id (a.dm id h)).trans (a.κ id h),fun x h=>b.ro x (a.ro x h),fun _ _=>rfl⟩
theorem View.aeF [bJ] {E E':En} {H H':Hp} {w:World} (r:bS E H w) (s:fj E H w E' H' w) (r':bS E' H' w):View E H w E' H':=by
 refine⟨r',s.keeps r,fun b hb=>?_,fun b hb=>?_⟩
 ·rcases s.sO b hb with h|h|h
  ·exact .inl h
  ·exact .inr (.inl h)
  ·have:=r'.sq b hb;omega
 ·rcases hb with ⟨id,o,U,Z⟩|⟨x,U⟩
  ·obtain⟨sX,o0,g1,g2⟩:=s.own id o U (gx r' U);exact .inl ⟨sX,o0,g1,g2.trans Z⟩
  ·exact .inr ⟨x,by rw [<- s.hd]; exact U⟩
theorem vS (H:Hp) (o:dX) (j:Nat):(Ni H o).get j=if j=H.next then some o else H.get j:=by simp [Ni,Hp.get,Tr.bU]
def En.ND (E:En) (b o c n:Nat):En:={ E.ext n (b,o) c with hd:=fun q=>if q=b then none else E.hd q }
theorem A5 [bJ] {E:En} {H:Hp} {w:World} (r:bS E H w) (b o c:Nat):fU E w.heap (E.ND b o c H.next) w.heap:=by have hu: ∀{i:Nat},E.dm i->i≠H.next:=fun h e=>r.fresh _ (ay _) (e▸h);exact⟨rfl,fun _ h=> .inr h,fun _ h=>En.ext_θ E H.next (b,o) c (hu h),fun _ h=>En.ext_κ E H.next (b,o) c (hu h),fun _ h=>h,fun _ _=>rfl⟩
theorem TQ [bJ] {E:En} {H:Hp} {w:World} (r:bS E H w) {b o c:Nat} {x:Nat×D×Nat} (hb:E.hd b=some x) (hx: ∀id o,H.get id=some o->nf o=true\/(E.θ id).1≠x.1) (ao:dX)
 (ho:OR (E.ND b o c H.next) w.heap H.next ao):View E H w (E.ND b o c H.next) (Ni H ao):=by
 have hu: ∀{i:Nat},E.dm i->i≠H.next:=fun h e=>r.fresh _ (ay _) (e▸h);obtain⟨q1,q2,q3⟩:=r.hid b x hb;have kp:=A5 r b o c;have hθ: ∀{i:Nat},E.dm i->(E.ND b o c H.next).θ i=E.θ i:=fun h=>kp.θ _ h;have hθn:(E.ND b o c H.next).θ H.next=(b,o):=En.ext_θ_new E H.next (b,o) c;refine⟨⟨fun id hid hd=>?_,fun q hq=>?_,fun id o2 Z=>?_,fun i j o1 o2 U Z he=>?_,r.sq,r.ku,fun q y hq=>?_⟩,kp,fun _ h=> .inl h,fun q hq=>?_⟩
 ·have hid:H.next+1<=id:=hid;rcases hd with hd|hd
  ·have hd:id=H.next:=hd;omega
  ·exact r.fresh id J hd
 ·obtain⟨g1,g2⟩:=r.res q hq;refine⟨Nat.lt_succ_of_lt g1,?_⟩;rintro (hd|hd)
  ·have hd:q=H.next:=hd;omega
  ·exact g2 hd
 ·rw [vS] at Z;split at Z
  ·rename_i he;simp only [an] at Z;subst Z he;exact⟨.inl rfl,ho,by rw [hθn]; exact q2⟩
  ·obtain⟨g1,g2,g3⟩:=r.live id o2 Z;refine⟨.inr g1,g2.Yc kp g1 rfl ?_,by rw [hθ g1]; exact g3⟩;rcases hx id o2 Z with h|h
   ·exact .inl h
   ·refine .inr fun key q j hq=> ⟨?_,rfl⟩;show (if q=b then none else E.hd q)=_;rw [ah]
    ·exact hq
    ·rintro rfl;rw [hb] at hq;simp only [an] at hq;rw [hq] at h;exact h rfl
 ·rw [vS] at U Z;split at U<;>split at Z
  ·omega
  ·rename_i e1 _;have g:=(r.live j o2 Z).1;rw [e1,hθn,hθ g] at he;exact absurd he.symm (q3 j o2 Z)
  ·rename_i _ e1;have g:=(r.live i o1 U).1;rw [e1,hθn,hθ g] at he;exact absurd he (q3 i o1 U)
  ·rw [hθ (r.live i o1 U).1,hθ (r.live j o2 Z).1] at he;exact r.inj i j o1 o2 U Z he
 ·have hq:(if q=b then none else E.hd q)=some y:=hq;split at hq
  ·simp at hq
  ·rename_i gB;obtain⟨p1,p2,p3⟩:=r.hid q y hq;refine⟨p1,p2,fun id o2 Z=>?_⟩;rw [vS] at Z;split at Z
   ·rename_i he;rw [he,hθn];exact fun e=>gB e.symm
   ·rw [hθ (r.live id o2 Z).1];exact p3 id o2 Z
 ·rcases hq with ⟨id,o2,Z,he⟩|⟨y,hq⟩
  ·rw [vS] at Z;split at Z
   ·rename_i e;rw [e,hθn] at he;have he:b=q:=he;exact .inr ⟨x,by rw [<- he]; exact hb⟩
   ·rw [hθ (r.live id o2 Z).1] at he;exact .inl ⟨id,o2,Z,he⟩
  ·have hq:(if q=b then none else E.hd q)=some y:=hq;split at hq
   ·simp at hq
   ·exact .inr ⟨y,hq⟩
theorem Lw [bJ] {E:En} {H:Hp} {w:World} (r:bS E H w) {id:Nat} {ao:dX} (hd:E.dm id) (lZ: ¬E.ro (E.θ id).1) (gB: ∀j o,H.get j=some o->j≠id/\(E.θ j).1≠(E.θ id).1) (hh: ∀x,E.hd (E.θ id).1≠some x) (ho:OR E w.heap id ao):bS E (H.put id ao) w:=by
 have hg: ∀j o,(H.put id ao).get j=some o->(j=id/\o=ao)\/(j≠id/\H.get j=some o):=by
  intro j o h;rw [Hp.bU] at h;split at h
  ·rename_i e; simp only [an] at h; exact .inl ⟨e,h.symm⟩
  ·rename_i e; exact .inr ⟨e,h⟩
 refine⟨r.fresh,r.res,fun j o h=>?_,fun i j o1 o2 U Z he=>?_,r.sq,r.ku,fun q y hq=>?_⟩
 ·rcases hg j o h with ⟨rfl,rfl⟩|⟨_,h⟩
  ·exact⟨hd,ho,lZ⟩
  ·exact r.live j o h
 ·rcases hg i o1 U with ⟨e1,_⟩|⟨e1,g1⟩ <;>rcases hg j o2 Z with ⟨e2,_⟩|⟨e2,g2⟩
  ·omega
  ·rw [e1] at he;exact absurd he.symm (gB j o2 g2).2
  ·rw [e2] at he;exact absurd he (gB i o1 g1).2
  ·exact r.inj i j o1 o2 g1 g2 he
 ·obtain⟨p1,p2,p3⟩:=r.hid q y hq;refine⟨p1,p2,fun j o h=>?_⟩;rcases hg j o h with ⟨rfl,rfl⟩|⟨_,h⟩
  ·exact fun e=>hh y (by rw [e]; exact hq)
  ·exact p3 j o h
structure oS [bJ] (B:Nat) (key:D) (Z?:Nat->Prop) (w:World) (E:En) (H:Hp) (E':En) (H':Hp):Prop where
 view:View E H w E' H'
 hd: ∀b x,E.hd b=some x->E'.hd b=some x\/∃j,Z? j/\x=(B,key,j)
 EU: ∀b x,E'.hd b=some x->E.hd b=some x
 new: ∀id o,H'.get id=some o->H.get id=some o\/(nf o=true/\H.next<=id)
 Rj:H.next<=H'.next
 ro: ∀b,E'.ro b->E.ro b
theorem oS.refl [bJ] {B:Nat} {key:D} {Z?:Nat->Prop} {w:World} {E:En} {H:Hp} (r:bS E H w):oS B key Z? w E H E H:=
 ⟨View.refl r,fun _ _ h=> .inl h,fun _ _ h=>h,fun _ _ h=> .inl h,ay _,fun _ h=>h⟩
theorem oS.trans [bJ] {B:Nat} {key:D} {Z? J1 J2:Nat->Prop} {w:World} {E E1 E2:En} {H H1 H2:Hp} (a:oS B key J1 w E H E1 H1) (b:oS B key J2 w E1 H1 E2 H2) (U: ∀j,J1 j->Z? j) (Z: ∀j,J2 j->Z? j):oS B key Z? w E H E2 H2:=by
 refine⟨a.view.trans b.view,fun q x h=>?_,fun q x h=>a.EU q x (b.EU q x h),fun id o h=>?_,bq a.Rj b.Rj,fun q h=>a.ro q (b.ro q h)⟩
 ·rcases a.hd q x h with h|⟨j,h,e⟩
  ·rcases b.hd q x h with h|⟨j,h,e⟩
   ·exact .inl h
   ·exact .inr ⟨j,Z j h,e⟩
  ·exact .inr ⟨j,U j h,e⟩
 ·rcases b.new id o h with h|⟨h,g⟩
  ·exact a.new id o h
  ·exact .inr ⟨h,bq a.Rj g⟩
theorem oS.nf [bJ] {B:Nat} {key:D} {Z?:Nat->Prop} {w:World} {E E':En} {H H':Hp} (a:oS B key Z? w E H E' H') (r:bS E H w) (hx: ∀id o,H.get id=some o->nf o=true\/(E.θ id).1≠B): ∀id o,H'.get id=some o->nf o=true\/(E'.θ id).1≠B:=by
 intro id o h;rcases a.new id o h with h|⟨h,_⟩
 ·rcases hx id o h with g|g
  ·exact .inl g
  ·exact .inr (by rw [a.view.kp.θ id (r.live id o h).1]; exact g)
 ·exact .inl h
theorem oS.own [bJ] {B:Nat} {key:D} {Z?:Nat->Prop} {w:World} {E E':En} {H H':Hp} (a:oS B key Z? w E H E' H') {j ty:Nat} (hj: ¬Z? j) {c:FC} {d:D} {u:Value} (ho:pF E w.heap B key j ty c d u):pF E' w.heap B key j ty c d u:=
 ho.cD a.view.kp fun b hb=>by
  rcases a.hd b _ hb with h|⟨i,h,e⟩
  ·exact⟨h,rfl⟩
  ·simp only [aq,true_and] at e;exact absurd (e▸h) hj
theorem tD [bJ] {E:En} {H:Hp} {w:World} (r:bS E H w) {b o c B j:Nat} {key:D} (hb:E.hd b=some (B,key,j)) (hx: ∀id o,H.get id=some o->nf o=true\/(E.θ id).1≠B) (ao:dX) (hn:nf ao=true)
 (ho:OR (E.ND b o c H.next) w.heap H.next ao):oS B key (·= j) w E H (E.ND b o c H.next) (Ni H ao):=by
 refine⟨TQ r hb hx ao ho,fun q x h=>?_,fun q x h=>?_,fun id o h=>?_,amz _,fun _ h=>h⟩
 ·show (if q=b then none else E.hd q)=some x\/_;split
  ·rename_i e;subst e;rw [hb] at h;simp only [an] at h;exact .inr ⟨j,rfl,h.symm⟩
  ·exact .inl h
 ·have h:(if q=b then none else E.hd q)=some x:=h;split at h
  ·simp at h
  ·exact h
 ·rw [vS] at h;split at h
  ·rename_i e;simp only [an] at h;exact .inr ⟨by rw [<- h]; exact hn,J⟩
  ·exact .inl h
theorem Rd.i3 {ro:Nat->Prop} {h:Array Obj} {t:Nat} {u:Value} (r:Rd ro h (.sl t) (.i 3) u):False:=by
 generalize hd:D.i 3=d at r
 cases r with
 |nil t=>simp at hd
 |wO t a cap=>simp at hd
 |one t c b o cap ds f hr hc hb U Z=>cases ds<;>simp [dL] at hd
 |many t cs b o cap rows f hr hc hb W U Z=>cases rows<;>simp [dL] at hd
theorem Rd.akg {ro:Nat->Prop} {h:Array Obj} {t:Nat} {d:D} {x:Option Addr} {c:Nat} (r:Rd ro h (.sl t) d (.slice x 0 c)):d.l= []:=by
 generalize hu:Value.slice x 0 c=u at r
 cases r with
 |nil t=>rfl
 |wO t a cap=>rfl
 |one t c b o cap ds f hr hc hb U Z=> simp only [Value.slice.injEq] at hu;rw [bD];exact amv hu.2.1.symm
 |many t cs b o cap rows f hr hc hb W U Z=> simp only [Value.slice.injEq] at hu;rw [bD,amv hu.2.1.symm];rfl
theorem Si [bJ] {α:Type} {ρ:Nat->Int} {c:FC} {x:V} {ty:Nat} {s:St} {k:Y->St->T α} {y:α} {E:En} {w:World} {B j:Nat} {key:D} {u:Value} (hρ:E.ρ=ρ) (r:bS E s.h w) (hp:ca ρ s.pc) (hx: ∀id o,s.h.get id=some o->nf o=true\/(E.θ id).1≠B)
 (ho:pF E w.heap B key j ty c (dec (x.den ρ)) u) (h:(aaw c x ty s k).leaf ρ=some y) :
 ∃v h' ew E',ca ρ ew/\oS B key (·= j) w E s.h E' h'/\VR E' w.heap v u/\(k v { s with h:=h',pc:=ew }).leaf ρ=some y:=by
 cases c with
 |ck c=> refine⟨_,s.h,s.pc,E,hp,oS.refl r,?_,h⟩;rw [nY,hρ];exact Rd.cell ho
 |mp t=>
  obtain⟨b,bT,c,rfl,Z,h3,h4⟩:=ho;refine⟨_,_,s.pc,E.ND b 0 0 s.h.next,hp,tD r Z hx (.kQ x t) rfl ?_,?_,h⟩
  ·simp only [OR];have hθ:(E.ND b 0 0 s.h.next).θ s.h.next=(b,0):=En.ext_θ_new E s.h.next (b,0) 0;rw [hθ];exact⟨bT,c,h3,by show lB E.ro w.heap t (dec (x.den E.ρ)).l bT.toList; rw [hρ]; exact h4⟩
  ·simp only [VR];have hθ:(E.ND b 0 0 s.h.next).θ s.h.next=(b,0):=En.ext_θ_new E s.h.next (b,0) 0;rw [hθ];exact⟨rfl,.inl rfl⟩
 |own t=>
  simp only [aaw] at h;obtain⟨fW,fL,U⟩:=cR hp h;rw [iZ,cL] at U;simp only [V.den] at U;rcases ho with ⟨⟨a,rfl⟩,Z⟩|⟨b,o,n,cap,a,arr,lo,hi,rfl,g2,g3,g4,g5,g6,g7⟩
  ·have W:=Z.akg;rw [W] at U;obtain⟨kz,kg,h3⟩:=cR (s:={ s with pc:=fW }) fL U;rw [iZ,mA] at h3;simp only [V.den] at h3
   have gB:(enc (dec (x.den ρ)) == enc (.i 3))=false:=by rw [beq_eq_false_iff_ne];intro e;rw [fg e] at Z;exact Z.i3
   rw [gB] at h3;refine⟨_,s.h,kz,E,kg,oS.refl r,?_,h3⟩;simp only [VR];rw [hρ];exact⟨⟨a,rfl⟩,Z⟩
  ·have hθ: ∀c,(E.ND b o c s.h.next).θ s.h.next=(b,o):=fun c=>En.ext_θ_new E s.h.next (b,o) c;have hκ: ∀c,(E.ND b o c s.h.next).κ s.h.next=c:=fun c=>En.ext_κ_new E s.h.next (b,o) c;rcases g7 with ⟨rfl,hd⟩|⟨q1,rfl,us,q3,q4,q5⟩
   ·rw [hd] at U;obtain⟨kz,kg,h3⟩:=cR (s:={ s with pc:=fW }) fL U;rw [iZ,mA] at h3;simp only [V.den,hd,beq_self_eq_true] at h3;refine⟨_,_,kz,E.ND b o (cap*(rowOf t).es) s.h.next,kg,tD r g3 hx (.cells [] ty) rfl ?_,?_,h3⟩
    ·simp only [OR];rw [hθ,hκ];refine⟨arr,lo,hi,[],g4,by simp only [cJ],fun i u hu=>by simp at hu,amR _,?_,g6,ad⟩;rcases g5 with ⟨_,g5⟩|⟨g5,_,g8⟩
     ·exact g5
     ·rw [g5,ams]; exact g8
    ·simp only [VR];refine⟨.inl rfl,a,cap,rfl,amR _,?_⟩;simp only [eZ];rw [hθ,hκ];rcases g5 with ⟨g5,_⟩|⟨g5,_,_⟩
     ·exact .inl ⟨g5,aK _⟩
     ·exact .inr ⟨g5,trivial,by rw [g5,ams]⟩
   ·have mh:0<(dec (x.den ρ)).l.length:=by
     have:=q1.2.2;exact amI.2 this
    have gB:(((dec (x.den ρ)).l.length:Int) == 0)=false:=by rw [beq_eq_false_iff_ne]; omega
    rw [gB] at U
    have g5:a=⟨b,o,none⟩/\o+cap*(rowOf t).es=arr.size:=by
     rcases g5 with g5|⟨_,g5,_⟩
     ·exact g5
     ·omega
    have tq:tG (rowOf t) []:=fun p hp=>by simp at hp
    have hlen:(bH E.ρ (rowOf t) [] (dec (x.den ρ)).l 0).length<=cap*(rowOf t).es:=by rw [cM tq];exact amO _ g2
    have kp:=A5 r b o (cap*(rowOf t).es);refine⟨_,_,fW,E.ND b o (cap*(rowOf t).es) s.h.next,fL,tD r g3 hx (.vec x t ty []) rfl ?_,?_,U⟩
    ·simp only [OR];rw [hθ,hκ];show (tG (rowOf t) []/\tj (rowOf t) (dec (x.den E.ρ)))/\∃arr lo hi us,w.heap[b]?=some (.cells arr ty (lo,hi))/\cJ _ w.heap (bH E.ρ (rowOf t) [] (dec (x.den E.ρ)).l 0) us/\_;rw [hρ];rw [hρ] at q3 hlen;exact⟨⟨tq,q1⟩,arr,lo,hi,us,g4,cJ.cD kp _ _ q3,q4,(by show (bH E.ρ (rowOf t) [] (dec (x.den E.ρ)).l 0).length<=_; rw [hρ]; exact hlen),g5.2,g6,q5⟩
    ·simp only [VR];refine⟨.inl rfl,(dec (x.den ρ)).l.length,a,cap,?_,rfl,g2,?_⟩
     ·show (ed x).den E.ρ=_;rw [cL,hρ]
     ·simp only [eZ];rw [hθ,hκ];exact .inl ⟨g5.1,aK _⟩
theorem Mq [bJ] {α:Type} {ρ:Nat->Int} {fq:List Nat} {x:V} {y:α} {w:World} {B:Nat} {key:D}: ∀{cs:List FC} {j:Nat} {s:St} {k:List Y->St->T α} {E:En} {us:List Value},E.ρ=ρ->bS E s.h w->ca ρ s.pc->(∀id o,s.h.get id=some o->nf o=true\/(E.θ id).1≠B)->
 us.length=cs.length->(∀i c u,cs[i]?=some c->us[i]?=some u->pF E w.heap B key (j+i+1) (fq.getD (j+i+2) 0) c ((dec (x.den ρ)).hd (j+i)) u)->(Sg fq x cs j s k).leaf ρ=some y->
 ∃vs h' ew E',ca ρ ew/\oS B key (fun i=>j<i) w E s.h E' h'/\cJ E' w.heap vs us/\(k vs { s with h:=h',pc:=ew }).leaf ρ=some y
 |[],j,s,k,E,us,hρ,r,hp,hx,W,ho,h=>by have:us= []:=amv W;subst this;exact⟨[],s.h,s.pc,E,hp,oS.refl r,by simp only [cJ],h⟩
 |c::cs,j,s,k,E,[],hρ,r,hp,hx,W,ho,h=>by simp at W
 |c::cs,j,s,k,E,u::us,hρ,r,hp,hx,W,ho,h=>by
  simp only [Sg] at h;have h0:=ho 0 c u rfl rfl;rw [bw,<- pY] at h0;obtain⟨v,U,fW,E1,fL,f1,v1,g1⟩:=Si hρ r hp hx h0 h;have hρ1:E1.ρ=ρ:=f1.view.kp.ρ.trans hρ
  obtain⟨vs,Z,kz,E2,kg,f2,v2,g2⟩:=Mq (s:={ s with h:=U,pc:=fW }) (us:=us) hρ1 f1.view.rel fL (f1.nf r hx) (by simpa using W) (fun i c' u' hc hu=>by
   have:=ho (i+1) c' u' (by simpa using hc) (by simpa using hu);have e1:j+(i+1)=j+1+i:=J
   rw [e1] at this
   exact f1.own J this) g1
  refine⟨v::vs,Z,kz,E2,kg,f1.trans f2 (fun i hi=>by omega) (fun i hi=>by omega),?_,g2⟩;rw [bX];exact⟨u,us,rfl,VR.cD f2.view.kp _ _ v1,v2⟩
theorem aaB [bJ] {α:Type} {ρ:Nat->Int} {t:Nat} {fq:List Nat} {x:V} {y:α} {w:World} {B:Nat} {key:D} {s:St} {k:Y->St->T α} {E:En} {u:Value} (hρ:E.ρ=ρ) (r:bS E s.h w) (hp:ca ρ s.pc) (hx: ∀id o,s.h.get id=some o->nf o=true\/(E.θ id).1≠B)
 (ho:qL E w.heap B t fq key (dec (x.den ρ)) u) (h:(aaC t fq x s k).leaf ρ=some y) :
 ∃v h' ew E',ca ρ ew/\oS B key (fun _=>True) w E s.h E' h'/\VR E' w.heap v u/\(k v { s with h:=h',pc:=ew }).leaf ρ=some y:=by
 unfold qL at ho;unfold aaC at h;split at ho
 ·rename_i OV;rw [OV] at h;obtain⟨c,hc,ho⟩:=ho;rw [hc] at h;obtain⟨v,U,fW,E1,fL,f1,v1,g1⟩:=Si hρ r hp hx ho h;exact⟨v,U,fW,E1,fL,⟨f1.view,fun b x hb=>(f1.hd b x hb).imp id fun⟨j,_,e⟩=> ⟨j,trivial,e⟩,f1.EU,f1.new,f1.Rj,f1.ro⟩,v1,g1⟩
 ·rename_i OV;rw [OV] at h;obtain⟨b,o,arr,lo,hi,rfl,Z,h3,h4,h5,h6⟩:=ho
  have BA: ∃us:List Value,us.length=(rz t).cs.length/\∀j u,us[j]?=some u->arr[o+j]?=some u:=by
   refine⟨(arr.toList.drop o).take (rz t).cs.length,?_,fun j u hu=>?_⟩
   ·rw [bh,br,bo]; omega
   ·rw [amW] at hu;split at hu
    ·rw [amV,amp] at hu;exact hu
    ·simp at hu
  obtain⟨us,W,HL⟩:=BA
  have kJ: ∀i c u,(rz t).cs[i]?=some c->us[i]?=some u->u.oneCell'=true/\pF E w.heap B key (i+1) (fq.getD (i+2) 0) c ((dec (x.den ρ)).hd i) u:=by intro i c u hc hu;obtain⟨u',p1,p2,p3⟩:=h6 i c hc;rw [HL i u hu] at p1;simp only [an] at p1;subst p1;exact⟨p2,p3⟩
  obtain⟨vs,U,fW,E1,fL,f1,v1,g1⟩:=Mq (j:=0) (us:=us) hρ r hp hx W (fun i c u hc hu=>by
   rw [aK]
   exact (kJ i c u hc hu).2) h
  have RX:E1.hd b=some (B,key,0):=by
   rcases f1.hd b _ Z with q|⟨j,q1,q2⟩
   ·exact q
   ·simp only [aq,true_and] at q2;omega
  have hθ:(E1.ND b o (arr.size-o) U.next).θ U.next=(b,o):=En.ext_θ_new E1 U.next (b,o) (arr.size-o);have hκ:(E1.ND b o (arr.size-o) U.next).κ U.next=arr.size-o:=En.ext_κ_new E1 U.next (b,o) (arr.size-o);have kp:=A5 f1.view.rel b o (arr.size-o);have hvl:=v1.length
  have f2:=tD (o:=o) (c:=arr.size-o) f1.view.rel RX (f1.nf r hx) (.cells vs (fq.getD 0 0)) rfl (by
   simp only [OR];rw [hθ,hκ];refine⟨arr,lo,hi,us,h3,cJ.cD kp _ _ v1,HL,J,J,h5,fun u hu=>?_⟩;obtain⟨i,hi'⟩:=anF hu;have dU:=(bk.1 hi').1;have akU:i<(rz t).cs.length:=J
   exact (kJ i _ u (aT akU) hi').1)
  refine⟨_,_,fW,_,fL,f1.trans f2 (fun _ _=>trivial) (fun _ _=>trivial),?_,g1⟩;simp only [VR];rw [hθ];exact⟨by rw [bw],.inl rfl⟩
theorem eY.one {E:En} {h:Array Obj} {B t:Nat} {fq:List Nat} {ov:List (V×Y)} {n:Int} {d:D} (tq:mu E.ρ n ov=none): ∀{ds:List D} {es:List MapEntry},(ds.map jl).Nodup->dj ds (.i n)=some d->eY E h B t fq ov ds es->
 ∃en:MapEntry,qL E h B t fq (.i n) d en.val/\∀e1∈es,e1.key= .int .i64 n->e1=en
 |[],_,_,hf,_=>by simp [dj] at hf
 |a::ds,_,zR,hf,⟨e0,rr,m,h0,q1,q2,q3,q4⟩=>by
  subst h0;have hk:jl a= .i m:=by rw [q1]; rfl
  simp only [aH,amL] at zR;simp only [dj] at hf;by_cases hm:m=n
  ·subst hm;rw [ak hk] at hf;simp only [an] at hf;rw [tq,hf] at q3;refine⟨e0,q3,fun e1 U Z=>?_⟩;rcases aF.1 U with rfl|U
   ·rfl
   ·obtain⟨i,hi⟩:=anF U;exact absurd (eY.set.eY.Dl q4 hi Z) (by rw [<- hk]; exact zR.1)
  ·rw [ah (by rw [hk]; simpa using hm)] at hf;obtain⟨en,p1,p2⟩:=eY.one tq zR.2 hf q4;refine⟨en,p1,fun e1 U Z=>?_⟩;rcases aF.1 U with rfl|U
   ·rw [q2] at Z;simp only [Value.int.injEq,true_and] at Z;exact absurd Z hm
   ·exact p2 e1 U Z
theorem eY.Y1 {E E3:En} {h:Array Obj} (kp:fU E h E3 h) {B t:Nat} {fq:List Nat} {ov:List (V×Y)} {n:Int} {x:V} {v:Y} (hx:x.den E.ρ=n) (tq:mu E.ρ n ov=none) (hd: ∀b m j,m≠n->E.hd b=some (B,.i m,j)->E3.hd b=some (B,.i m,j)) :
 ∀{ds:List D} {es:List MapEntry},(∀e1∈es,e1.key= .int .i64 n->VR E3 h v e1.val)->eY E h B t fq ov ds es->eY E3 h B t fq ((x,v)::ov) ds es
 |[],_,_,ho=>ho
 |a::ds,_,hv,⟨e0,rr,m,h0,q1,q2,q3,q4⟩=>by
  subst h0;refine⟨e0,rr,m,rfl,q1,q2,?_,eY.Y1 kp hx tq hd (fun e1 U Z=>hv e1 (by simp [U]) Z) q4⟩;simp only [mu,kp.ρ,hx];by_cases hm:n=m
  ·rw [ak hm];exact hv e0 ad (by rw [q2,hm])
  ·rw [ah hm];split at q3
   ·exact VR.cD kp _ _ q3
   ·exact q3.cD kp fun b j hb=> ⟨hd b m j (fun e=>hm e.symm) hb,rfl⟩
theorem aau [bJ] {α:Type} {ρ:Nat->Int} {id:Nat} {x:V} {y:α} {w:World} {s:St} {k:St->T α} {E:En} (hρ:E.ρ=ρ) (r:bS E s.h w) (hp:ca ρ s.pc) (h:(aav id x s k).leaf ρ=some y) :
 ∃h' ew E',ca ρ ew/\View E s.h w E' h'/\(k { s with h:=h',pc:=ew }).leaf ρ=some y:=by
 unfold aav at h;split at h
 ·rename_i o W;split at h
  ·rename_i e t fq ov;obtain⟨fW,fL,U⟩:=yD hp h
   cases tq:mu ρ (x.den ρ) ov with
   |some v=>rw [tq] at U; exact⟨s.h,fW,E,fL,View.refl r,U⟩
   |none=>
    rw [tq] at U;obtain⟨kz,kg,Z⟩:=cR (s:={ s with pc:=fW }) fL U;rw [wY] at Z;simp only [V.den,fT.den,sJ] at Z;obtain⟨g0,bT,c',g1,g2⟩:=Ai r W;rw [hρ] at g0 g2;have hm: ∀n,mu E.ρ n ov=mu ρ n ov:=fun n=>by rw [hρ]
    cases hf:dj (dec (e.den ρ)).l (.i (x.den ρ)) with
    |none=> rw [hf] at Z;exact⟨s.h,kz,E,kg,View.refl r,Z⟩
    |some d=>
     rw [hf] at Z;simp only [aN,if_true] at Z;have Z:(aaC t fq (.op .Gq e (nO x)) { s with pc:=kz,h:=s.h.drop id } fun v s=>k { s with h:=s.h.put id (.uo e t fq ((x,v)::ov)) }).leaf ρ=some y:=Z
     have hdx:dec ((V.op .Gq e (nO x)).den ρ)=d:=by simp only [V.den,fT.den,bC,sJ,hf,ax]
     obtain⟨en,akE,huq⟩:=eY.one (by rw [hρ]; exact tq) g0.1 hf g2;obtain⟨dst,drl⟩:=xb r id;have Uy:=(r.live id _ W).1
     have HO:id<s.h.next:=by
      rcases bg id s.h.next with q|q
      ·exact q
      ·exact absurd Uy (r.fresh id q)
     have YI: ∀j o,(s.h.drop id).get j=some o->s.h.get j=some o/\j≠id:=by
      intro j o hj;rw [Hp.lr] at hj;split at hj
      ·simp at hj
      ·rename_i e; exact⟨hj,e⟩
     have hx0: ∀j o,(s.h.drop id).get j=some o->nf o=true\/(E.θ j).1≠(E.θ id).1:=by intro j o hj;obtain⟨q1,q2⟩:=YI j o hj;exact .inr fun e=>q2 (r.inj j id _ _ q1 W e)
     obtain⟨v,h3,Vn,E3,JC,f3,v3,g3⟩:=aaB (s:={ s with pc:=kz,h:=s.h.drop id }) (B:=(E.θ id).1) (key:=.i (x.den ρ)) hρ drl kg hx0 (by rw [hdx]; exact akE) Z;have hθ:=f3.view.kp.θ id Uy;have hρ3:E3.ρ=ρ:=f3.view.kp.ρ.trans hρ
     have hnn: ∀j o,h3.get j=some o->j≠id/\(E3.θ j).1≠(E3.θ id).1:=by
      intro j o hj;rcases f3.new j o hj with q|⟨_,q⟩
      ·obtain⟨q1,q2⟩:=YI j o q;refine⟨q2,?_⟩;rw [hθ,f3.view.kp.θ j (r.live j o q1).1];exact fun e=>q2 (r.inj j id _ _ q1 W e)
      ·have q:s.h.next<=j:=q;refine⟨J,fun e=>?_⟩;rw [hθ] at e;rcases f3.view.hold _ (.inl ⟨j,o,hj,rfl⟩) with ⟨i0,o0,q1,q2⟩|⟨y0,q1⟩
       ·obtain⟨q3,q4⟩:=YI i0 o0 q1;exact q4 (r.inj i0 id _ _ q3 W (q2.trans e))
       ·rw [e] at q1;exact (r.hid _ _ q1).2.2 id _ W rfl
     have C_:bS E3 (h3.put id (.uo e t fq ((x,v)::ov))) w:=by
      refine Lw f3.view.rel (f3.view.kp.dm id Uy) ?_ hnn ?_ ?_
      ·rw [hθ];exact fun hr=>(r.live id _ W).2.2 (f3.ro _ hr)
      ·rw [hθ];intro q hq;exact (r.hid _ _ (f3.EU _ _ hq)).2.2 id _ W rfl
      ·simp only [OR];rw [hρ3,hθ];refine⟨⟨g0.1,fun p hp=>?_,?_⟩,bT,c',g1,?_⟩
       ·rcases aF.1 hp with rfl|hp
        ·rcases Ag (E:=E) (i:=0) (dt:=.int .i64) ⟨_,rfl⟩ (x.den ρ) g2 with ⟨q1,_⟩|⟨_,_,_,_,q2,_⟩
         ·rw [hf] at q1; simp at q1
         ·exact q2
        ·exact g0.2.1 p hp
       ·simp only [aH,amL];exact⟨Jf tq,g0.2.2⟩
       ·exact eY.Y1 f3.view.kp (x:=x) (by rw [hρ]) (by rw [hρ]; exact tq) (fun b m j hm hb=>by
         rcases f3.hd b _ hb with q|⟨j',_,q⟩
         ·exact q
         ·simp only [aq,D.i.injEq,true_and] at q
          exact absurd q.1 hm) (fun e1 U Z=>by rw [huq e1 U Z]; exact v3) g2
     refine⟨_,Vn,E3,JC,⟨C_,f3.view.kp,fun b hb=> .inl (f3.ro b hb),fun b hb=>by
      rcases hb with ⟨j,o,q1,q2⟩|q
      ·rw [Hp.bU] at q1;split at q1
       ·rename_i e;rw [e,hθ] at q2;exact .inl ⟨id,_,W,q2⟩
       ·rcases f3.view.hold b (.inl ⟨j,o,q1,q2⟩) with ⟨i0,o0,p1,p2⟩|p
        ·exact .inl ⟨i0,o0,(YI i0 o0 p1).1,p2⟩
        ·exact .inr p
      ·rcases f3.view.hold b (.inr q) with ⟨i0,o0,p1,p2⟩|p
       ·exact .inl ⟨i0,o0,(YI i0 o0 p1).1,p2⟩
       ·exact .inr p⟩,g3⟩
  ·exact⟨s.h,s.pc,E,hp,View.refl r,h⟩
 ·exact⟨s.h,s.pc,E,hp,View.refl r,h⟩
end
end Go.As
end
section
namespace Go.As
noncomputable section
def Ud {α:Type} (c:FC) (v:Y) (ty:Nat) (s:St) (k:V->St->T α):T α:=match c with
 | .ck c=>O9 v s fun v s=>match nB c v with
   |some x=>k x s
   |none=> .fail
 | .mp t=>match v with
   | .map i=>match s.h.get i with
     |some o=>match o with
      | .kQ e t'=>match Nat.beq t t' with
        |true=>k e { s with h:=s.h.drop i }
        |false=> .fail
      |_=> .fail
     |none=> .fail
   |_=> .fail
 | .own t=>match v with
   | .gL=>k (.eD (.i 1)) s
   | .xU z t'=>match Nat.beq t t' with
     |true=>k z s
     |false=> .fail
   | .slice i o n c=>match c with
     | .exact m=>match n with
       |0=>match m with
        |0=>k (.eD (.i 2)) s
        |_=> .fail
       |_=> .fail
     | .rest es=>match s.h.get i with
       |some ob=>match ob with
        | .cells cs Wg=>if es=(rowOf t).es/\Wg=ty/\o+n*es=cs.length then match n with
         |0=>k (.eD (.i 3)) { s with h:=s.h.drop i }
         |m+1=>match lz (rowOf t) (.eD (.i 0)) (m+1) (cs.drop o) with
          |some e=>k e { s with h:=s.h.drop i }
          |none=> .fail
         else .fail
        |_=> .fail
       |none=> .fail
   | .pV i n t'=>match Nat.beq t t' with
     |true=>match B2 s.h i t with
      |some (e,Wg)=>match Nat.beq Wg ty&&fm n (ed e) with
       |true=>k e { s with h:=s.h.drop i }
       |false=> .fail
      |none=> .fail
     |false=> .fail
   | .u5 i lo n t'=>match Nat.beq t t' with
     |true=>match B2 s.h i t with
      |some (e,Wg)=>match Nat.beq Wg ty with
       |true=>yk e lo n s fun s=>kB s (qW n (.lit 0)) fun s b=>match b with
        |true=>k (.eD (.i 3)) { s with h:=s.h.drop i }
        |false=>k (Ek e lo n) { s with h:=s.h.drop i }
       |false=> .fail
      |none=> .fail
     |false=> .fail
   |_=> .fail
def Hg {α:Type} (fq:List Nat):List FC->Nat->List Y->St->(V->St->T α)->T α
 |[],_,[],s,k=>k (.eD (.i 0)) s
 |c::cs,j,v::vs,s,k=>Ud c v (fq.getD (j+2) 0) s fun a s=>Hg fq cs (j+1) vs s fun b s=>k (eL a b) s
 |_,_,_,_,_=> .fail
def aeC {α:Type} (t:Nat) (fq:List Nat) (v:Y) (s:St) (k:V->St->T α):T α:=match (rz t).ptr with
 |false=>match (rz t).cs with
  |[c]=>Ud c v (fq.getD 1 0) s k
  |_=> .fail
 |true=>match v with
  | .ptr i o=>match o with
    |0=>match s.h.get i with
     |some ob=>match ob with
      | .cells cs ty=>match Nat.beq ty (fq.getD 0 0) with
        |true=>Hg fq (rz t).cs 0 cs { s with h:=s.h.drop i } k
        |false=> .fail
      |_=> .fail
     |none=> .fail
    |_=> .fail
  |_=> .fail
def Ra {α:Type} (t:Nat) (fq:List Nat):List (V×Y)->V->St->(V->St->T α)->T α
 |[],e,s,k=>k e s
 |(x,v)::l,e,s,k=>aeC t fq v s fun d s=>Ra t fq l (.op .zD e (eL (nO x) d)) s k
def W_ {α:Type} (id:Nat) (s:St) (k:St->T α):T α:=match s.h.get id with
 |some o=>match o with
  | .uo e t fq ov=>Ra t fq ov e { s with h:=s.h.drop id } fun e' s=>k { s with h:=s.h.put id (.uo e' t fq []) }
  |_=>k s
 |none=>k s
structure mq [bJ] (w:World) (E:En) (H:Hp) (E':En) (H':Hp):Prop where
 view:View E H w E' H'
 mono: ∀b x,E.hd b=some x->E'.hd b=some x
 sub: ∀id o,H'.get id=some o->H.get id=some o
 hold: ∀b,E'.ro b\/(∃x,E'.hd b=some x)->E.ro b\/(∃x,E.hd b=some x)\/∃id o,H.get id=some o/\(E.θ id).1=b
theorem mq.refl [bJ] {w:World} {E:En} {H:Hp} (r:bS E H w):mq w E H E H:=⟨View.refl r,fun _ _ h=>h,fun _ _ h=>h,fun _ h=>h.imp id .inl⟩
theorem mq.trans [bJ] {w:World} {E E1 E2:En} {H H1 H2:Hp} (r:bS E H w) (a:mq w E H E1 H1) (b:mq w E1 H1 E2 H2):mq w E H E2 H2:=by
 refine⟨a.view.trans b.view,fun q x h=>b.mono q x (a.mono q x h),fun id o h=>a.sub id o (b.sub id o h),fun q h=>?_⟩;rcases b.hold q h with h|h|⟨id,o,U,Z⟩
 ·exact a.hold q (.inl h)
 ·exact a.hold q (.inr h)
 ·have h3:=a.sub id o U;rw [a.view.kp.θ id (r.live id o h3).1] at Z;exact .inr (.inr ⟨id,o,h3,Z⟩)
theorem mq.aeG [bJ] {w:World} {E E':En} {H H':Hp} (r:bS E H w) (f:K2 E w H E' H'):mq w E H E' H':=by
 refine⟨View.aeF r f.ei f.rel,fun b x h=>by rw [f.ei.hd]; exact h,f.sub.get,fun b h=>?_⟩;rcases h with h|⟨x,h⟩
 ·rcases f.ei.sO b h with g|g|g
  ·exact .inl g
  ·exact .inr (.inr g)
  ·have:=f.rel.sq b h;omega
 ·exact .inr (.inl ⟨x,by rw [<- f.ei.hd]; exact h⟩)
theorem mq.own [bJ] {w:World} {E E':En} {H H':Hp} (a:mq w E H E' H') {B:Nat} {key:D} {j ty:Nat} {c:FC} {d:D} {u:Value} (ho:pF E w.heap B key j ty c d u):pF E' w.heap B key j ty c d u:=
 ho.cD a.view.kp fun b hb=> ⟨a.mono b _ hb,rfl⟩
def En.Uz (E:En) (b:Nat) (x:Nat×D×Nat):En:={ E with hd:=fun q=>if q=b then some x else E.hd q }
theorem sZ [bJ] {E:En} {H:Hp} {w:World} (r:bS E H w) {i:Nat} {o:dX} (W:H.get i=some o) (x:Nat×D×Nat):mq w E H (E.Uz (E.θ i).1 x) (H.drop i):=by
 have hg: ∀j o,(H.drop i).get j=some o->H.get j=some o/\j≠i:=by
  intro j o hj;rw [Hp.lr] at hj;split at hj
  ·simp at hj
  ·rename_i e; exact⟨hj,e⟩
 have kp:fU E w.heap (E.Uz (E.θ i).1 x) w.heap:=⟨rfl,fun _ h=>h,fun _ _=>rfl,fun _ _=>rfl,fun _ h=>h,fun _ _=>rfl⟩
 have mono: ∀b y,E.hd b=some y->(E.Uz (E.θ i).1 x).hd b=some y:=by
  intro b y hb;show (if b=(E.θ i).1 then some x else E.hd b)=_;rw [ah]
  ·exact hb
  ·exact fun e=>(r.hid b y hb).2.2 i o W e.symm
 have qd: ∀b y,(E.Uz (E.θ i).1 x).hd b=some y->b=(E.θ i).1\/E.hd b=some y:=by
  intro b y hb;have hb:(if b=(E.θ i).1 then some x else E.hd b)=some y:=hb;split at hb
  ·rename_i e; exact .inl e
  ·exact .inr hb
 refine⟨⟨⟨r.fresh,r.res,fun j o2 Z=>?_,fun a b o1 o2 U Z he=>r.inj a b o1 o2 (hg _ _ U).1 (hg _ _ Z).1 he,r.sq,r.ku,fun b y hb=>?_⟩,kp,fun _ h=> .inl h,fun b hb=>?_⟩,mono,fun j o2 Z=>(hg j o2 Z).1,fun b hb=>?_⟩
 ·obtain⟨g1,g2,g3⟩:=r.live j o2 (hg j o2 Z).1;exact⟨g1,g2.cD kp g1 rfl fun key b q hb=> ⟨mono b _ hb,rfl⟩,g3⟩
 ·rcases qd b y hb with rfl|hb
  ·refine⟨gx r W,(r.live i o W).2.2,fun j o2 Z e=>?_⟩;obtain⟨q1,q2⟩:=hg j o2 Z;exact q2 (r.inj j i o2 o q1 W e)
  ·obtain⟨q1,q2,q3⟩:=r.hid b y hb;exact⟨q1,q2,fun j o2 Z=>q3 j o2 (hg j o2 Z).1⟩
 ·rcases hb with ⟨j,o2,Z,he⟩|⟨y,hb⟩
  ·exact .inl ⟨j,o2,(hg j o2 Z).1,he⟩
  ·rcases qd b y hb with rfl|hb
   ·exact .inl ⟨i,o,W,rfl⟩
   ·exact .inr ⟨y,hb⟩
 ·rcases hb with hb|⟨y,hb⟩
  ·exact .inl hb
  ·rcases qd b y hb with rfl|hb
   ·exact .inr (.inr ⟨i,o,W,rfl⟩)
   ·exact .inr (.inl ⟨y,hb⟩)
theorem tY (E:En) (b:Nat) (x:Nat×D×Nat):(E.Uz b x).hd b=some x:=by show (if b=b then some x else E.hd b)=_;rw [ak rfl]
theorem QC {E:En} {h:Array Obj} {i:Nat} {e:V} {t ty:Nat} (ho:OR E h i (.vec e t ty [])) {l k:Nat} (hk:l+k<=(dec (e.den E.ρ)).l.length) :
 ∃arr lo hi us,h[(E.θ i).1]?=some (.cells arr ty (lo,hi))/\(E.θ i).2+E.κ i=arr.size/\(∀q,lo<=q->q<hi->arr.size<=q)/\cJ E h (bH E.ρ (rowOf t) [] (((dec (e.den E.ρ)).l.take (l+k)).drop l) 0) us/\
  (∀q u,us[q]?=some u->arr[(E.θ i).2+l*(rowOf t).es+q]?=some u)/\∀u∈us,u.oneCell'=true:=by
 simp only [OR] at ho;obtain⟨⟨tq,_⟩,arr,lo,hi,us,U,Z,h3,h4,h5,h6,h7⟩:=ho;generalize (dec (e.den E.ρ)).l=L at *
 have hL:L=L.take l++((L.take (l+k)).drop l++L.drop (l+k)):=by
  rw [List.drop_take,show l+k-l=k by omega]
  have e1:(L.drop l).take k++L.drop (l+k)=L.drop l:=by rw [<- aoa,amE]
  rw [e1,amE]
 have h2':=Z;rw [hL,iy,iy] at h2';obtain⟨a,bc,rfl,a1,a2⟩:=h2'.split;obtain⟨b,c,rfl,b1,b2⟩:=a2.split
 have Vv:a.length=l*(rowOf t).es:=by rw [a1.length,cM tq,bh,an5 J]
 refine⟨arr,lo,hi,b,U,h5,h6,b1,fun q u hu=>?_,fun u hu=>h7 u (by simp [hu])⟩;have gu:=(bk.1 hu).1
 have:=h3 (l*(rowOf t).es+q) u (by
  rw [anV J,aoi J,Vv,aob]
  exact hu)
 rw [<- amq] at this;exact this
theorem Fz {α:Type}: ∀{n:Nat} {l:List α},n<=l.length->As.eS n l=some (l.drop n)
 |0,_,_=>rfl
 |n+1,[],h=>by simp at h
 |n+1,_::l,h=>by simp only [As.eS,anU];exact Fz (by simpa using h)
theorem Rb [bJ] {α:Type} {ρ:Nat->Int} {c:FC} {v:Y} {ty:Nat} {s:St} {k:V->St->T α} {y:α} {E:En} {w:World} {u:Value} (B:Nat) (key:D) (j:Nat) (hρ:E.ρ=ρ) (r:bS E s.h w) (hp:ca ρ s.pc) (hv:VR E w.heap v u) (h:(Ud c v ty s k).leaf ρ=some y) :
 ∃x h' ew E',ca ρ ew/\mq w E s.h E' h'/\pF E' w.heap B key j ty c (dec (x.den ρ)) u/\(k x { s with h:=h',pc:=ew }).leaf ρ=some y:=by
 cases c with
 |ck c=>
  simp only [Ud] at h;obtain⟨v',U,fW,E1,fL,f,q,g⟩:=JR hρ r hp h;split at g
  ·rename_i x hx;refine⟨x,U,fW,E1,fL,mq.aeG r f,?_,g⟩;have:=(lL (q u hv) hx).rd (nW hx);rw [f.ρ,hρ] at this;exact this
  ·simp [T.leaf] at g
 |mp t=>
  simp only [Ud] at h;split at h
  ·rename_i i;split at h
   ·rename_i o W;split at h
    ·rename_i e t';split at h
     ·rename_i ht;have ht:=az ht;subst ht;have ho:=(r.live i _ W).2.1;simp only [OR] at ho;obtain⟨bT,c',g1,g2⟩:=ho;simp only [VR] at hv;obtain⟨rfl,_⟩:=hv;rw [hρ] at g2;exact⟨e,_,s.pc,_,hp,sZ r W (B,key,j),⟨(E.θ i).1,bT,c',rfl,tY _ _ _,g1,g2⟩,h⟩
     ·simp [T.leaf] at h
    ·simp [T.leaf] at h
   ·simp [T.leaf] at h
  ·simp [T.leaf] at h
 |own t=>
  simp only [Ud] at h;split at h
  ·simp only [VR] at hv;subst hv;refine⟨_,s.h,s.pc,E,hp,mq.refl r,.inl ⟨⟨none,rfl⟩,?_⟩,h⟩;simp only [V.den,bC];exact .nil t
  ·rename_i z t';split at h
   ·rename_i ht;have ht:=az ht;subst ht;simp only [VR] at hv;rw [hρ] at hv;exact⟨_,s.h,s.pc,E,hp,mq.refl r,.inl hv,h⟩
   ·simp [T.leaf] at h
  ·rename_i i o n c;split at h
   ·rename_i m;split at h
    ·split at h
     ·simp only [VR,eZ] at hv;obtain⟨_,a,cap,rfl,_,rfl,_⟩:=hv;refine⟨_,s.h,s.pc,E,hp,mq.refl r,.inl ⟨⟨some a,rfl⟩,?_⟩,h⟩;simp only [V.den,bC];exact .wO t a 0
     ·simp [T.leaf] at h
    ·simp [T.leaf] at h
   ·rename_i es;split at h
    ·rename_i ob W;split at h
     ·rename_i cs Wg;split at h
      ·rename_i hc;obtain⟨rfl,rfl,hlen⟩:=hc;have ho:=(r.live i _ W).2.1;simp only [OR] at ho;obtain⟨arr,lo,hi,us,g1,g2,g3,g4,g5,g6,g7⟩:=ho;simp only [VR,eZ] at hv;obtain⟨_,a,cap,rfl,q1,q2⟩:=hv
       have iX:(a=⟨(E.θ i).1,(E.θ i).2+o,none⟩/\(E.θ i).2+o+cap*(rowOf t).es=arr.size)\/(cap=0/\n=0/\(E.θ i).2+o=arr.size):=by
        rcases q2 with ⟨q2,q3⟩|⟨q2,q3,q4⟩
        ·exact .inl ⟨q2,J⟩
        ·exact .inr ⟨q2,q3,J⟩
       have hs:=sZ r W (B,key,j);split at h
       ·refine⟨_,_,s.pc,_,hp,hs,.inr ⟨(E.θ i).1,(E.θ i).2+o,0,cap,a,arr,lo,hi,rfl,q1,tY _ _ _,g1,iX,g6,.inl ⟨rfl,?_⟩⟩,h⟩;simp only [V.den,bC]
       ·rename_i m;split at h
        ·rename_i e he;obtain⟨ds,d1,d2,d3,d4,d5⟩:=rD (ρ:=ρ) _ he;have hz:(dec ((V.eD (.i 0)).den ρ))= .i 0:=by simp only [V.den,bC]
         rw [hz] at d2 d3;have d2:(dec (e.den ρ)).l=ds:=d2;have d3:=d3 rfl;refine⟨e,_,s.pc,_,hp,hs,.inr ⟨(E.θ i).1,(E.θ i).2+o,m+1,cap,a,arr,lo,hi,rfl,q1,tY _ _ _,g1,iX,g6,.inr ⟨⟨d3,by rw [d2]; exact d4,?_⟩,by rw [d2]; exact d1,us.drop o,?_,?_,?_⟩⟩,h⟩
         ·rw [d2];intro e0;rw [e0] at d1;simp at d1
         ·rw [d2];show cJ _ w.heap (bH E.ρ (rowOf t) [] ds 0) (us.drop o);rw [hρ];have ES:As.eS o cs=some (cs.drop o):=Fz J;exact d5 _ _ _ _ (by exact hρ) (cJ.cD hs.view.kp _ _ (g2.eS ES).1)
         ·intro q u hu;rw [amV] at hu;have:=g3 _ u hu;rw [<- amq] at this;exact this
         ·exact fun u hu=>g7 u (amn hu)
        ·simp [T.leaf] at h
      ·simp [T.leaf] at h
     ·simp [T.leaf] at h
    ·simp [T.leaf] at h
  ·rename_i i n t';split at h
   ·rename_i ht;have ht:=az ht;subst ht;split at h
    ·rename_i e Wg hva;split at h
     ·rename_i hc;simp only [au] at hc;have OQ:=az hc.1;have hn:=cX _ _ hc.2;subst OQ hn;have W:=nN hva;have ho:=(r.live i _ W).2.1;have hw:=(OR.pf.1 ho).1.2;simp only [VR,eZ] at hv;obtain⟨_,m,a,cap,q0,rfl,q1,q2⟩:=hv;rw [cL] at q0;have hm:(dec (e.den E.ρ)).l.length=m:=J
      have mh:0<m:=by rw [<- hm]; exact amI.2 hw.2.2
      obtain⟨arr,lo,hi,us,g1,g2,g3,g4,g5,g6⟩:=QC ho (l:=0) (k:=m) J;have hs:=sZ r W (B,key,j);rw [aK,amP,<- hm,amF] at g4
      have iX:a=⟨(E.θ i).1,(E.θ i).2,none⟩/\(E.θ i).2+cap*(rowOf t).es=arr.size:=by
       rcases q2 with ⟨q2,q3⟩|⟨_,q3,_⟩
       ·exact⟨by rw [q2,bw],J⟩
       ·omega
      rw [hρ] at hw hm;refine⟨e,_,s.pc,_,hp,hs,.inr ⟨(E.θ i).1,(E.θ i).2,m,cap,a,arr,lo,hi,rfl,q1,tY _ _ _,g1,.inl iX,g3,.inr ⟨hw,hm,us,?_,fun q u hu=>?_,g6⟩⟩,h⟩
      ·have:=cJ.cD hs.view.kp _ _ g4;rw [hρ] at this;show cJ _ w.heap (bH E.ρ (rowOf t) [] (dec (e.den ρ)).l 0) us;rw [hρ];exact this
      ·have:=g5 q u hu;rw [ams,bw] at this;exact this
     ·simp [T.leaf] at h
    ·simp [T.leaf] at h
   ·simp [T.leaf] at h
  ·rename_i i B_ n t';split at h
   ·rename_i ht;have ht:=az ht;subst ht;split at h
    ·rename_i e Wg hva;split at h
     ·rename_i hc;have OQ:=az hc;subst OQ;have W:=nN hva;have ho:=(r.live i _ W).2.1;have hw:=(OR.pf.1 ho).1.2;obtain⟨fW,fL,z1,z2,z3,U⟩:=wN hp h;obtain⟨kz,kg,Z⟩:=cR (s:={ s with pc:=fW }) fL U;rw [iZ] at Z;simp only [V.den] at Z;simp only [VR,eZ] at hv;obtain⟨_,l,m,a,cap,q0,q00,rfl,q1,q2⟩:=hv;have q0':=q0;have aj6:=q00;rw [hρ] at q0 q00;obtain⟨arr,lo,hi,us,g1,g2,g3,g4,g5,g6⟩:=QC ho (l:=l) (k:=m) (by rw [hρ]; omega);have hs:=sZ r W (B,key,j)
      have iX:(a=⟨(E.θ i).1,(E.θ i).2+l*(rowOf t).es,none⟩/\(E.θ i).2+l*(rowOf t).es+cap*(rowOf t).es=arr.size)\/(cap=0/\m=0/\(E.θ i).2+l*(rowOf t).es=arr.size):=by
       rcases q2 with ⟨q2,q3⟩|⟨q2,q3,q4⟩
       ·exact .inl ⟨q2,J⟩
       ·exact .inr ⟨q2,q3,J⟩
      cases hm:m with
      |zero=>
       have:n.den ρ=0:=by rw [q00,hm]; rfl
       rw [this] at Z;subst hm;refine⟨_,_,kz,_,kg,hs,.inr ⟨(E.θ i).1,(E.θ i).2+l*(rowOf t).es,0,cap,a,arr,lo,hi,rfl,q1,tY _ _ _,g1,iX,g3,.inl ⟨rfl,?_⟩⟩,Z⟩;simp only [V.den,bC]
      |succ m'=>
       have:(n.den ρ == 0)=false:=by rw [beq_eq_false_iff_ne]; omega
       rw [this] at Z;rw [<- hm];have qc:=yj (e:=e) q0' aj6;rw [hρ] at qc g4 hw;generalize hpt:((dec (e.den ρ)).l.take (l+m)).drop l=pt at qc g4
       have ae6:pt.length=m:=by rw [<- hpt,br,bh,an5 J];omega
       have gB:pt≠[]:=by intro e0;rw [e0] at ae6;simp at ae6;omega
       rw [wa gB] at qc;refine⟨_,_,kz,_,kg,hs,.inr ⟨(E.θ i).1,(E.θ i).2+l*(rowOf t).es,m,cap,a,arr,lo,hi,rfl,q1,tY _ _ _,g1,iX,g3,.inr ⟨?_,?_,us,?_,g5,g6⟩⟩,Z⟩
       ·rw [qc];refine⟨by rw [bD],fun d hd=>?_,by rw [bD]; exact gB⟩;rw [bD,<- hpt] at hd;exact hw.2.1 d (amo (amn hd))
       ·rw [qc,bD]; exact ae6
       ·rw [qc,bD];have:=cJ.cD hs.view.kp _ _ g4;show cJ _ w.heap (bH E.ρ (rowOf t) [] pt 0) us;rw [hρ];exact this
     ·simp [T.leaf] at h
    ·simp [T.leaf] at h
   ·simp [T.leaf] at h
  ·simp [T.leaf] at h
theorem LB [bJ] {α:Type} {ρ:Nat->Int} {fq:List Nat} {y:α} {w:World} (B:Nat) (key:D): ∀{cs:List FC} {j:Nat} {vs:List Y} {s:St} {k:V->St->T α} {E:En} {us:List Value},E.ρ=ρ->bS E s.h w->ca ρ s.pc->cJ E w.heap vs us->(Hg fq cs j vs s k).leaf ρ=some y->
 ∃x h' ew E',ca ρ ew/\mq w E s.h E' h'/\us.length=cs.length/\(∀i c u,cs[i]?=some c->us[i]?=some u->pF E' w.heap B key (j+i+1) (fq.getD (j+i+2) 0) c ((dec (x.den ρ)).hd i) u)/\(k x { s with h:=h',pc:=ew }).leaf ρ=some y
 |[],j,[],s,k,E,us,hρ,r,hp,hv,h=>by rw [iN] at hv;subst hv;exact⟨_,s.h,s.pc,E,hp,mq.refl r,rfl,fun i c u hc=>by simp at hc,h⟩
 |[],j,_::_,s,k,E,us,hρ,r,hp,hv,h=>by simp [Hg,T.leaf] at h
 |_::_,j,[],s,k,E,us,hρ,r,hp,hv,h=>by simp [Hg,T.leaf] at h
 |c::cs,j,v::vs,s,k,E,us,hρ,r,hp,hv,h=>by
  simp only [Hg] at h;rw [bX] at hv;obtain⟨u,us,rfl,hv,KU⟩:=hv;obtain⟨a,U,fW,E1,fL,f1,o1,g1⟩:=Rb B key (j+1) hρ r hp hv h;obtain⟨b,Z,kz,E2,kg,f2,W,o2,g2⟩:=LB (s:={ s with h:=U,pc:=fW }) B key (f1.view.kp.ρ.trans hρ) f1.view.rel fL (cJ.cD f1.view.kp _ _ KU) g1;refine⟨_,Z,kz,E2,kg,f1.trans r f2,by simp [W],fun i c' u' hc hu=>?_,g2⟩;have hd0:dec ((eL a b).den ρ)= .p (dec (a.den ρ)) (dec (b.den ρ)):=by simp only [eL,V.den,fT.den,bC]
  cases i with
  |zero=> simp only [aL,an] at hc hu;subst hc hu;rw [hd0];exact f2.own o1
  |succ i=>
   have:=o2 i c' u' (by simpa using hc) (by simpa using hu);have e1:j+(i+1)=j+1+i:=J
   rw [hd0,e1];exact this
theorem V! [bJ] {α:Type} {ρ:Nat->Int} {t:Nat} {fq:List Nat} {v:Y} {y:α} {w:World} (B:Nat) (key:D) {s:St} {k:V->St->T α} {E:En} {u:Value} (hρ:E.ρ=ρ) (r:bS E s.h w) (hp:ca ρ s.pc) (hv:VR E w.heap v u) (h:(aeC t fq v s k).leaf ρ=some y) :
 ∃x h' ew E',ca ρ ew/\mq w E s.h E' h'/\qL E' w.heap B t fq key (dec (x.den ρ)) u/\(k x { s with h:=h',pc:=ew }).leaf ρ=some y:=by
 unfold aeC at h;unfold qL;split at h
 ·rename_i OV;rw [OV];split at h
  ·rename_i c hc;obtain⟨x,U,fW,E1,fL,f1,o1,g1⟩:=Rb B key 1 hρ r hp hv h;exact⟨x,U,fW,E1,fL,f1,⟨c,hc,o1⟩,g1⟩
  ·simp [T.leaf] at h
 ·rename_i OV;rw [OV];split at h
  ·rename_i i o;split at h
   ·split at h
    ·rename_i ob W;split at h
     ·rename_i cs ty;split at h
      ·rename_i OQ;have OQ:=az OQ;subst OQ;have ho:=(r.live i _ W).2.1;simp only [OR] at ho;obtain⟨arr,lo,hi,us,g1,g2,g3,g4,g5,g6,g7⟩:=ho;simp only [VR] at hv;obtain⟨rfl,_⟩:=hv;have hs:=sZ r W (B,key,0);obtain⟨x,U,fW,E1,fL,f1,Bx,o1,q1⟩:=LB (s:={ s with h:=s.h.drop i }) (E:=E.Uz (E.θ i).1 (B,key,0)) B key hρ hs.view.rel hp (cJ.cD hs.view.kp _ _ g2) h;have hvl:=g2.length;refine⟨x,U,fW,E1,fL,hs.trans r f1,⟨(E.θ i).1,(E.θ i).2,arr,lo,hi,by rw [bw],f1.mono _ _ (tY _ _ _),g1,J,g6,fun q c hc=>?_⟩,q1⟩;have hql:=(bk.1 hc).1;have hqu:q<us.length:=J
       have hu:=aT hqu;refine⟨us[q],g3 q _ hu,g7 _ (aG hqu),?_⟩;have:=o1 q c _ hc hu;rw [aK] at this;exact this
      ·simp [T.leaf] at h
     ·simp [T.leaf] at h
    ·simp [T.leaf] at h
   ·simp [T.leaf] at h
  ·simp [T.leaf] at h
theorem Hz {n:Int} {d:D}: ∀{ds:List D},D.i n∈ds.map jl->(jS ds (.i n) d).map jl=ds.map jl
 |[],h=>by simp at h
 |a::ds,h=>by
  simp only [jS];by_cases hk:jl a= .i n
  ·rw [ak hk];simp [jl,hk];exact hk.symm
  ·rw [ah hk];simp only [aH,aF] at h;rcases h with h|h
   ·exact absurd h.symm hk
   ·simp only [aH,Hz h]
theorem eY.pck {E E':En} {h:Array Obj} (kp:fU E h E' h) (mono: ∀b x,E.hd b=some x->E'.hd b=some x) {B t:Nat} {fq:List Nat} {l:List (V×Y)} {x:V} {v:Y} {n:Int} {d:D} (hx:x.den E.ρ=n) (W:mu E.ρ n l=none) :
 ∀{ds:List D} {es:List MapEntry},(ds.map jl).Nodup->(∀e1∈es,e1.key= .int .i64 n->qL E' h B t fq (.i n) d e1.val)->eY E h B t fq ((x,v)::l) ds es->eY E' h B t fq l (if D.i n∈ds.map jl then jS ds (.i n) d else ds) es
 |[],es,_,_,ho=>by simp only [an2,amw,if_false]; exact ho
 |a::ds,_,zR,hv,⟨e0,rr,m,h0,q1,q2,q3,q4⟩=>by
  subst h0;have hk:jl a= .i m:=by rw [q1]; rfl
  simp only [aH,amL] at zR;have ih:=eY.pck kp mono hx W zR.2 (fun e1 U Z=>hv e1 (by simp [U]) Z) q4;by_cases hm:m=n
  ·subst hm;rw [hk] at zR;rw [ah zR.1] at ih;simp only [aH,aF,hk,true_or,if_true,jS];refine⟨e0,rr,m,rfl,rfl,q2,?_,ih⟩;rw [kp.ρ,W];exact hv e0 ad q2
  ·have gB: ¬D.i n=D.i m:=by simpa using fun e=>hm e.symm
   have akK: ¬jl a= .i n:=by rw [hk]; simpa using hm
   have hq:(match mu E'.ρ m l with |some v=>VR E' h v e0.val|none=>qL E' h B t fq (.i m) (Gx a) e0.val):=by
    simp only [mu,hx] at q3;rw [ah (fun e=>hm e.symm)] at q3;rw [kp.ρ]
    cases ho:mu E.ρ m l with
    |some v=>rw [ho] at q3; exact VR.cD kp _ _ q3
    |none=>rw [ho] at q3; exact q3.cD kp fun b j hb=> ⟨mono b _ hb,rfl⟩
   simp only [aH,aF,hk,gB,false_or];by_cases Bw:D.i n∈ds.map jl
   ·rw [ak Bw] at ih ⊢;simp only [jS,ah akK];exact⟨e0,rr,m,rfl,q1,q2,hq,ih⟩
   ·rw [ah Bw] at ih ⊢;exact⟨e0,rr,m,rfl,q1,q2,hq,ih⟩
theorem eY.told {E:En} {h:Array Obj} {B t:Nat} {fq:List Nat} {ov:List (V×Y)} {n:Int} {v:Y} (tq:mu E.ρ n ov=some v): ∀{ds:List D} {es:List MapEntry},eY E h B t fq ov ds es->∀e1∈es,e1.key= .int .i64 n->VR E h v e1.val
 |[],es,he,e1,U,_=>by simp only [eY] at he; subst he; simp at U
 |a::ds,_,⟨e0,rr,m,h0,q1,q2,q3,q4⟩,e1,U,Z=>by
  subst h0;rcases aF.1 U with rfl|U
  ·rw [q2] at Z;simp only [Value.int.injEq,true_and] at Z;subst Z;rw [tq] at q3;exact q3
  ·exact eY.told tq q4 e1 U Z
theorem eY.first {E:En} {h:Array Obj} {B t:Nat} {fq:List Nat} {ov:List (V×Y)} {n:Int}: ∀{ds:List D} {es:List MapEntry},(ds.map jl).Nodup->D.i n∈ds.map jl->eY E h B t fq ov ds es->∃en∈es,en.key= .int .i64 n/\∀e1∈es,e1.key= .int .i64 n->e1=en
 |[],_,_,hf,_=>by simp at hf
 |a::ds,_,zR,hf,⟨e0,rr,m,h0,q1,q2,q3,q4⟩=>by
  subst h0;have hk:jl a= .i m:=by rw [q1]; rfl
  simp only [aH,amL] at zR;simp only [aH,aF,hk] at hf;by_cases hm:m=n
  ·subst hm;refine⟨e0,ad,q2,fun e1 U Z=>?_⟩;rcases aF.1 U with rfl|U
   ·rfl
   ·obtain⟨i,hi⟩:=anF U;exact absurd (eY.set.eY.Dl q4 hi Z) (by rw [<- hk]; exact zR.1)
  ·rcases hf with hf|hf
   ·exact absurd (by simpa using hf:n=m).symm hm
   ·obtain⟨en,p1,p2,p3⟩:=eY.first zR.2 hf q4;refine⟨en,by simp [p1],p2,fun e1 U Z=>?_⟩;rcases aF.1 U with rfl|U
    ·rw [q2] at Z;simp only [Value.int.injEq,true_and] at Z;exact absurd Z hm
    ·exact p3 e1 U Z
theorem LA [bJ] {α:Type} {ρ:Nat->Int} {t:Nat} {fq:List Nat} {y:α} {w:World} {B:Nat} {bT:List MapEntry}: ∀{ov:List (V×Y)} {e:V} {s:St} {k:V->St->T α} {E:En},E.ρ=ρ->bS E s.h w->ca ρ s.pc->AR ρ (dec (e.den ρ)).l ov->eY E w.heap B t fq ov (dec (e.den ρ)).l bT->(Ra t fq ov e s k).leaf ρ=some y->
 ∃e' h' ew E',ca ρ ew/\mq w E s.h E' h'/\AR ρ (dec (e'.den ρ)).l []/\eY E' w.heap B t fq [] (dec (e'.den ρ)).l bT/\(k e' { s with h:=h',pc:=ew }).leaf ρ=some y
 |[],e,s,k,E,hρ,r,hp,fo,en,h=> ⟨e,s.h,s.pc,E,hp,mq.refl r,fo,en,h⟩
 |(x,v)::l,e,s,k,E,hρ,r,hp,fo,en,h=>by
  simp only [Ra] at h;have Bw:=fo.2.1 (x,v) ad
  have tW:mu ρ (x.den ρ) l=none:=by
   cases ho:mu ρ (x.den ρ) l with
   |none=>rfl
   |some u=> have:=Jg ho;have h3:=fo.2.2;simp only [aH,amL] at h3;exact absurd this h3.1
  obtain⟨en0,p1,p2,p3⟩:=eY.first fo.1 Bw en;have hv:=eY.told (E:=E) (n:=x.den ρ) (v:=v) (by simp only [mu]; rw [hρ,ak rfl]) en en0 p1 p2;obtain⟨d,U,fW,E1,fL,f1,o1,g1⟩:=V! B (.i (x.den ρ)) hρ r hp hv h
  have qc:dec ((V.op .zD e (eL (nO x) d)).den ρ)=dL (jS (dec (e.den ρ)).l (.i (x.den ρ)) (dec (d.den ρ))):=by simp only [eL,V.den,fT.den,bC,sJ]
  have hk:=Hz (d:=dec (d.den ρ)) Bw;have en1:=eY.pck f1.view.kp f1.mono (n:=x.den ρ) (d:=dec (d.den ρ)) (by rw [hρ]) (by rw [hρ]; exact tW) fo.1 (fun e1 U Z=>by rw [p3 e1 U Z]; exact o1) en;rw [ak Bw] at en1
  obtain⟨e',Z,kz,E2,kg,f2,fo2,en2,g2⟩:=LA (s:={ s with h:=U,pc:=fW }) (f1.view.kp.ρ.trans hρ) f1.view.rel fL (e:=.op .zD e (eL (nO x) d)) (by
   rw [qc,bD];refine⟨by rw [hk]; exact fo.1,fun p hp=>by rw [hk]; exact fo.2.1 p (by simp [hp]),?_⟩;have h3:=fo.2.2;simp only [aH,amL] at h3
   exact h3.2) (by rw [qc,bD]; exact en1) g1
  exact⟨e',Z,kz,E2,kg,f1.trans r f2,fo2,en2,g2⟩
theorem V? [bJ] {α:Type} {ρ:Nat->Int} {id:Nat} {y:α} {w:World} {s:St} {k:St->T α} {E:En} (hρ:E.ρ=ρ) (r:bS E s.h w) (hp:ca ρ s.pc) (h:(W_ id s k).leaf ρ=some y) :
 ∃h' ew E',ca ρ ew/\View E s.h w E' h'/\(k { s with h:=h',pc:=ew }).leaf ρ=some y:=by
 unfold W_ at h;split at h
 ·rename_i o W;split at h
  ·rename_i e t fq ov;obtain⟨g0,bT,c',g1,g2⟩:=Ai r W;rw [hρ] at g0 g2;obtain⟨dst,drl⟩:=xb r id;obtain⟨e',U,fW,E1,fL,f1,fo1,en1,q1⟩:=LA (s:={ s with h:=s.h.drop id }) hρ drl hp g0 g2 h;have Uy:=(r.live id _ W).1;have hθ:=f1.view.kp.θ id Uy;have hρ1:E1.ρ=ρ:=f1.view.kp.ρ.trans hρ
   have YI: ∀j o,(s.h.drop id).get j=some o->s.h.get j=some o/\j≠id:=by
    intro j o hj;rw [Hp.lr] at hj;split at hj
    ·simp at hj
    ·rename_i e; exact⟨hj,e⟩
   have acm: ∀b,E1.ro b\/(∃x,E1.hd b=some x)->b≠(E.θ id).1:=by
    intro b hb e;subst e;rcases f1.hold _ hb with h|⟨x,h⟩|⟨j,o,U,Z⟩
    ·exact (r.live id _ W).2.2 h
    ·exact (r.hid _ _ h).2.2 id _ W rfl
    ·obtain⟨q1,q2⟩:=YI j o U;exact q2 (r.inj j id _ _ q1 W Z)
   have hr:bS E1 (U.put id (.uo e' t fq [])) w:=by
    refine Lw f1.view.rel (f1.view.kp.dm id Uy) ?_ (fun j o hj=>?_) ?_ ?_
    ·rw [hθ]; exact fun h=>acm _ (.inl h) rfl
    ·obtain⟨q1,q2⟩:=YI j o (f1.sub j o hj);refine⟨q2,?_⟩;rw [hθ,f1.view.kp.θ j (r.live j o q1).1];exact fun e=>q2 (r.inj j id _ _ q1 W e)
    ·rw [hθ]; exact fun x h=>acm _ (.inr ⟨x,h⟩) rfl
    ·simp only [OR];rw [hρ1,hθ];exact⟨fo1,bT,c',g1,en1⟩
   refine⟨_,fW,E1,fL,⟨hr,f1.view.kp,fun b hb=>?_,fun b hb=>?_⟩,q1⟩
   ·rcases f1.view.sO b hb with h|⟨i0,o0,p1,p2⟩|p
    ·exact .inl h
    ·exact .inr (.inl ⟨i0,o0,(YI i0 o0 p1).1,p2⟩)
    ·exact .inr (.inr p)
   ·rcases hb with ⟨j,o,q1,q2⟩|q
    ·rw [Hp.bU] at q1;split at q1
     ·rename_i e;rw [e,hθ] at q2;exact .inl ⟨id,_,W,q2⟩
     ·rcases f1.view.hold b (.inl ⟨j,o,q1,q2⟩) with ⟨i0,o0,p1,p2⟩|p
      ·exact .inl ⟨i0,o0,(YI i0 o0 p1).1,p2⟩
      ·exact .inr p
    ·rcases f1.view.hold b (.inr q) with ⟨i0,o0,p1,p2⟩|p
     ·exact .inl ⟨i0,o0,(YI i0 o0 p1).1,p2⟩
     ·exact .inr p
  ·exact⟨s.h,s.pc,E,hp,View.refl r,h⟩
 ·exact⟨s.h,s.pc,E,hp,View.refl r,h⟩
end
end Go.As
end
section
namespace Go.As
noncomputable section
open Go.RowKit
section
variable {P:Program} {c:Code} {Q:Exit->Act->World->Prop} {a:Act} {w:World}
def Ga (P:Program) (c:Code) (Q:Exit->Act->World->Prop) (a:Act) (w:World):Prop:=
 ∀b k cs,∃e a' w',Q e a' w'/\Arrives P (lone (b.at a (.code c::.inLoop c::k)) cs w) b k cs e a' w'
theorem OG (h:c.wp P (Exit.then (Ga P c Q) Q) a w):Ga P c Q a w:=by
 intro b k cs;obtain⟨e,a₁,w₁,hq,Mh⟩:=h b (.inLoop c::k) cs
 cases e with
 |normal=> obtain⟨e₂,a₂,w₂,hq₂,harr₂⟩:=hq b k cs;exact⟨e₂,a₂,w₂,hq₂,.of_steps (Steps.trans Mh (.one step_inLoop)) harr₂⟩
 |exit id=>exact⟨_,a₁,w₁,hq,.pass (x:=.inLoop c) rfl (fun _ _=> .inl ad) Mh⟩
 |goto l=>exact⟨_,a₁,w₁,hq,.pass (x:=.inLoop c) rfl (fun _ _=> .inl ad) Mh⟩
 |ret=>exact⟨_,a₁,w₁,hq,.pass (x:=.inLoop c) rfl (fun _ _=> .inl ad) Mh⟩
 |panic ch=>exact⟨_,a₁,w₁,hq,.pass (x:=.inLoop c) rfl (fun _ _=> .inl ad) Mh⟩
 |outgrown=>exact⟨_,a₁,w₁,hq,.pass (x:=.inLoop c) rfl (fun _ _=> .inl ad) Mh⟩
theorem OH (h:Ga P c Q a w):(Code.loop c).wp P Q a w:=by intro b k cs;obtain⟨e,a',w',hq,Mh⟩:=h b k cs;exact⟨e,a',w',hq,.of_steps (.one step_loop) Mh⟩
end
inductive FrE where
 |seq (p:List Nat) (c:Code)
 |block (id:Nat)
 |loop (p:List Nat) (b:Code)
 |scope
def pz (body:Code):List Nat->Option (Code×List FrE)
 |[]=>some (body,[])
 |d::p=>match pz body p with
  |some (.seq a b,fr)=>match d with
   |0=>some (a,.seq (1::p) b::fr)
   |_=>some (b,fr)
  |some (.block id b,fr)=>some (b,.block id::fr)
  |some (.cond _ a b,fr)=>match d with
   |0=>some (a,fr)
   |_=>some (b,fr)
  |some (.loop b,fr)=>some (b,.loop p b::fr)
  |some (.scope b,fr)=>some (b,.scope::fr)
  |_=>none
def Gb (body:Code):List FrE->Prop
 |[]=>True
 | .seq p c::fr=>pz body p=some (c,fr)/\Gb body fr
 | .block _::fr=>Gb body fr
 | .loop p b::fr=>pz body p=some (.loop b,fr)/\Gb body fr
 | .scope::fr=>Gb body fr
def KE (P:Program) (Q:Exit->Act->World->Prop):List FrE->Exit->Act->World->Prop
 |[]=>Q
 | .seq _ c::fr=>Exit.then (fun a w=>c.wp P (KE P Q fr) a w) (KE P Q fr)
 | .block id::fr=>Exit.inBlock id (KE P Q fr)
 | .loop _ b::fr=>Exit.then (Ga P b (KE P Q fr)) (KE P Q fr)
 | .scope::fr=>Exit.noGoto (KE P Q fr)
inductive RK where
 |one (c:CK)
 |agg (cs:List CK)
 deriving DecidableEq,Inhabited
def RK.flat:RK->List CK
 | .one c=>[c]
 | .agg cs=>cs
def px:List RK->List CK
 |[]=>[]
 |r::rs=>r.flat++px rs
def S4 (c:CK) (t:V):Y:=match c with
 | .int k=> .int k t
 | .bool=> .bool (.not (.eq t (.lit 0)))
 | .str=> .kG t
 | .sl ty=> .eD t ty
def FV:List CK->(Nat->V)->Nat->List Y
 |[],_,_=>[]
 |c::cs,f,i=>S4 c (f i)::FV cs f (i+1)
def p8:List RK->(Nat->V)->Nat->List Y
 |[],_,_=>[]
 | .one c::r,f,i=>S4 c (f i)::p8 r f (i+1)
 | .agg cs::r,f,i=> .agg (FV cs f i)::p8 r f (i+cs.length)
def XW (c:CK) (v:Y):Option V:=match c with
 | .int k=>match v with
   | .int k' e=>if k=k' then some e else none
   |_=>none
 | .bool=>none
 | .str=>uL v
 | .sl t=>nB (.sl t) v
def aaA:Y->Bool
 | .agg _=>false
 | .tuple _=>false
 |_=>true
def cellsOf:List RK->List Y->Option (List Y)
 |[],[]=>some []
 | .one _::rs,v::vs=>match aaA v with
   |true=>match cellsOf rs vs with
    |some l=>some (v::l)
    |none=>none
   |false=>none
 | .agg cs::rs,v::vs=>match v with
   | .agg xs=>match Nat.beq xs.length cs.length with
     |true=>match cellsOf rs vs with
      |some l=>some (xs++l)
      |none=>none
     |false=>none
   |_=>none
 |_,_=>none
def outs {α:Type}:List CK->List Y->St->(List V->St->T α)->T α
 |[],[],s,k=>k [] s
 |c::cs,v::vs,s,k=>match c with
  | .bool=>match v with
    | .bool b=>kB s b fun s b=>outs cs vs s fun es s=>k (.lit (if b then 1 else 0)::es) s
    |_=> .fail
  |c=>match XW c v with
   |some e=>outs cs vs s fun es s=>k (e::es) s
   |none=> .fail
 |_,_,_,_=> .fail
def gr:List V->V
 |[]=> .eD (.i 0)
 |e::es=>eL (nO e) (gr es)
def ph (r:V) (i:Nat):V:=.op .num (.op (.cell i) r (.lit 0)) (.lit 0)
inductive Lf where
 |out (es:List V)
 |jump (j:Nat) (es:List V)
 deriving Inhabited
inductive KX where
 |cell (t j:Nat)
 |row (t j:Nat) (k:KX) (q:Nat)
 |Vx (t:Nat)
 deriving Inhabited
def KX.ev (s:St):KX->Option V
 | .Vx _=>none
 | .cell t j=>match s.bG.get t with
   |some v=>match v with
    | .agg cs=>match fu cs j with
      |some w=>match w with
       | .int _ e=>some e
       |_=>none
      |none=>none
    | .int _ e=>some e
    | .ptr i o=>match s.h.get i with
      |some ob=>match ob with
       | .cells cs _=>match fu cs (o+j) with
         |some w=>match w with
          | .int _ e=>some e
          |_=>none
         |none=>none
       |_=>none
      |none=>none
    |_=>none
   |none=>none
 | .row t j k q=>match KX.ev s k with
   |none=>none
   |some x=>match s.bG.get t with
    |some v=>match v with
     | .agg cs=>match fu cs j with
       |some w=>match w with
        | .eD e _=>some (zi (jw q (.op .at e x)))
        |_=>none
       |none=>none
     | .eD e _=>some (zi (jw q (.op .at e x)))
     | .ptr i o=>match s.h.get i with
       |some ob=>match ob with
        | .cells cs _=>match fu cs (o+j) with
          |some w=>match w with
           | .eD e _=>some (zi (jw q (.op .at e x)))
           |_=>none
          |none=>none
        |_=>none
       |none=>none
     |_=>none
    |none=>none
structure FH where
 r:Nat
 gd:Option (KX×Int)
 k:KX
 deriving Inhabited
def E8:Tr dX->List Nat
 | .nil=>[]
 | .node v l r=>(match v with
   |some o=>match nf o with
    |true=>[]
    |false=>[0]
   |none=>[])++((E8 l).map fun i=>2*i+1)++((E8 r).map fun i=>2*i+2)
def JS {α:Type} (x:V):List Nat->St->(St->T α)->T α
 |[],s,k=>k s
 |i::l,s,k=>aav i x s fun s=>JS x l s k
def Ox {α:Type}:List Nat->St->(St->T α)->T α
 |[],s,k=>k s
 |i::l,s,k=>W_ i s fun s=>Ox l s k
def afF {α:Type} (t:Nat) (s:St) (k:St->T α):T α:=match s.bG.get t with
 |some v=>O8 v s fun v s=>k { s with bG:=s.bG.put t (some v) }
 |none=>k s
def Gw {α:Type} (r:Nat):List FH->St->(St->T α)->T α
 |[],s,k=>k s
 |h::hs,s,k=>match Nat.beq h.r r with
  |false=>Gw r hs s k
  |true=>match h.k.ev s with
   |none=>match h.k with
    | .Vx t=>afF t s fun s=>Gw r hs s k
    |_=>Gw r hs s k
   |some x=>match h.gd with
    |none=>JS x (E8 s.h.m) s fun s=>Gw r hs s k
    |some (g,n)=>match g.ev s with
     |none=>Gw r hs s k
     |some y=>kB s (rK y (.lit n)) fun s b=>match b with
      |true=>JS x (E8 s.h.m) s fun s=>Gw r hs s k
      |false=>Gw r hs s k
def ahY:Code->Option Nat
 | .region id _ _=>some id
 |_=>none
structure uJ where
 tt:TT
 call:eB
 draw:Nat->List Oper->St->T St
 lf:Nat
 res:List ResultVar
 lY:List RK
 ez:List dX:=[]
 ko:Nat:=0
 pG:List CS:=[]
 iQ:Nat:=0
 fz:List (Nat×Nat×Nat):=[]
 Y1:List FH:=[]
def H6 (g:uJ):Bool:=match g.Y1 with
 |[]=>false
 |_::_=>match g.ez with
  |[]=>match g.pG with
   |[]=>true
   |_=>false
  |_=>false
def UG {α:Type} (g:uJ) (c:Code) (s:St) (k:St->T α):T α:=match H6 g with
 |true=>match ahY c with
  |some r=>Gw r g.Y1 s k
  |none=>k s
 |false=>k s
def Uc {α:Type} (g:uJ) (s:St) (k:St->T α):T α:=match H6 g with
 |true=>Ox (E8 s.h.m) s k
 |false=>k s
def uJ.ev (g:uJ) (c:Code) (s:St):T (Ex×St):=jL g.tt g.call g.draw g.lf c s
abbrev C2:=List Nat->Option (List (Nat×CS))
def ae0:Nat->Tr (Nat×Nat)
 |0=> .nil
 |n+1=>(ae0 n).put n (some (n,0))
def ij (g:uJ) (h:Hp):Ren:=match BB h g.ez 0 ⟨.nil,ae0 g.ez.length⟩ with
 |⟨ns,_⟩=> ⟨yr ns g.ko 0,List.range g.ez.length,[]⟩
def CS.j6 (m:Nat) (c:CS) (s:St):Ren:=match BB s.h c.dI 0 (Ds s.bG c.bG ⟨.nil,ae0 m⟩) with
 |⟨ns,bl⟩=> ⟨yr ns c.k 0,Jr bl c.dI.length 0,Jq bl c.dI.length 0⟩
def EK (m:Nat) (r:Ren):Bool:=match m with
 |0=>true
 |n+1=>(match fu r.bl n with |some j=>Nat.beq j n|none=>false)&&Nat.beq (r.u7 n) 0&&EK n r
def Cz:Nat->Nat->List V->List V
 |0,_,ns=>ns
 |_+1,_,[]=>[]
 |n+1,i,_::ns=> .dK i::Cz n (i+1) ns
def r4 (iQ:Nat) (r:Ren):Ren:=match iQ with
 |0=>r
 |n+1=>{ r with ns:=Cz (n+1) 0 r.ns }
def MJ (n m iQ:Nat) (s:St):List CS->Nat->T Lf
 |[],_=> .fail
 |c::l,i=>match quick s.bG c.bG&&Nat.beq n c.bG.length with
  |false=>MJ n m iQ s l (i+1)
  |true=>match c.fits A_ s (r4 iQ (c.j6 m s))&&EK m (r4 iQ (c.j6 m s)) with
   |true=> .ret (.out (.lit (Int.ofNat i)::(r4 iQ (c.j6 m s)).ns))
   |false=>MJ n m iQ s l (i+1)
def Mk {α:Type}:List (Nat×Nat×Nat)->List Y->St->(List Y->St->T α)->T α
 |[],vs,s,k=>k vs s
 |(r,f,t)::l,vs,s,k=>match fu vs r with
  |some (.agg xs)=>match fu xs f with
   |some x=>O8 x s fun x s=>match nB (.sl t) x with
    |some e=>Mk l (vs.set r (.agg (xs.set f (.eD e t)))) s k
    |none=> .fail
   |none=> .fail
  |_=> .fail
def Zi (g:uJ) (e:Ex) (s:St):T Lf:=match e with
 | .exit _=> .fail
 |_=>match lI g.tt s g.res with
  |none=> .fail
  |some vs=>match g.pG with
   |[]=>match cellsOf g.lY vs with
    |none=> .fail
    |some cells=>xS cells s fun cells s=>match Bj (ij g s.h) g.ez.length s.h g.ez 0 with
     |true=>outs (px g.lY) cells s fun es _=> .ret (.out ((ij g s.h).ns++es))
     |false=> .fail
   |c::l=>Mk g.fz vs s fun vs s=>MJ vs.length g.ez.length g.iQ ⟨cC vs 0 .nil,s.h,s.pc⟩ (c::l) 0
def rO (m iQ:Nat) (s:St):List (Nat×CS)->T Lf
 |[]=> .fail
 |(j,c)::l=>match quick s.bG c.bG with
  |false=>rO m iQ s l
  |true=>match c.fits A_ s (r4 iQ (c.j6 m s))&&EK m (r4 iQ (c.j6 m s)) with
   |true=> .ret (.jump j (r4 iQ (c.j6 m s)).ns)
   |false=>rO m iQ s l
def NY {α:Type} (k:St->T α):List (Nat×Nat)->St->T α
 |[],s=>k s
 |(t,g)::l,s=>match s.bG.get t with
  |some (.int _ e)=>kB s (.eq e (.dK g)) fun s _=>NY k l s
  |_=>NY k l s
def we {α:Type} (k:St->T α):List Nat->St->T α
 |[],s=>k s
 |t::ts,s=>match s.bG.get t with
  |some (.bool c)=>kB s c fun s b=>we k ts { s with bG:=s.bG.put t (some (.bool (.lit b))) }
  |_=>we k ts s
def m?:List (Nat×Y)->List Nat->List Nat
 |[],acc=>acc
 |(t,.bool _)::l,acc=>m? l (t::acc)
 |_::l,acc=>m? l acc
def n_:List (Nat×CS)->List Nat->List Nat
 |[],acc=>acc
 |(_,c)::l,acc=>n_ l (m? c.bG acc)
mutual
def xw (g:uJ) (fB:C2):Nat->List Nat->Code->List FrE->St->T Lf
 |0,_,_,_,_=> .fail
 |n+1,p,c,fr,s=>match fB p with
  |some l=>Uc g s fun s=>we (fun s=>rO g.ez.length g.iQ s l) (n_ l []) s
  |none=>match c with
   | .seq a b=>xw g fB n (0::p) a (.seq (1::p) b::fr) s
   | .block id b=>xw g fB n (0::p) b (.block id::fr) s
   | .scope b=>xw g fB n (0::p) b (.scope::fr) s
   | .cond v a b=>match As.ev s v with
     |some (.bool c)=>kB s c fun s t=>match t with
      |true=>xw g fB n (0::p) a fr s
      |false=>xw g fB n (1::p) b fr s
     |_=> .fail
   |c=>UG g c s fun s=>(g.ev c s).bind fun (e,s')=>ub g fB n fr e s'
def ub (g:uJ) (fB:C2):Nat->List FrE->Ex->St->T Lf
 |0,_,_,_=> .fail
 |n+1,fr,e,s=>match fr with
  |[]=>Zi g e s
  | .seq p c::fr=>match e with
    | .normal=>xw g fB n p c fr s
    |e=>ub g fB n fr e s
  | .block id::fr=>match e with
    | .exit j=>match Nat.beq j id with
      |true=>ub g fB n fr .normal s
      |false=>ub g fB n fr (.exit j) s
    |e=>ub g fB n fr e s
  | .loop p _::fr=>match e with
    | .normal=>match fB p with
      |some l=>Uc g s fun s=>we (fun s=>rO g.ez.length g.iQ s l) (n_ l []) s
      |none=> .fail
    |e=>ub g fB n fr e s
  | .scope::fr=>ub g fB n fr e s
end
abbrev oR:=Nat->List Int->Option (List Int)
def mX (xs:List Int):Int:=enc (dL (xs.map .i))
def Good (F:oR) (ρ:Nat->Int):Prop:= ∀j xs,ρ (jO (2*j) (mX xs))=(if (F j xs).isSome then 1 else 0)/\ρ (jO (2*j+1) (mX xs))=mX ((F j xs).getD [])
def low (xs:List Int) (i:Nat):Int:=xs.getD i 0
open Classical in
def df (F:oR) (lo:Nat->Int) (i:Nat):Int:=if i<900 then lo i else
 if h: ∃p:Nat×List Int,i=jO (2*p.1) (mX p.2) then (if (F h.choose.1 h.choose.2).isSome then 1 else 0) else
 if h: ∃p:Nat×List Int,i=jO (2*p.1+1) (mX p.2) then mX ((F h.choose.1 h.choose.2).getD []) else 0
theorem M5 {a b:List Int} (h:mX a=mX b):a=b:=by
 unfold mX at h;have:=BT (fg h)
 have Md: ∀{x y:List Int},x.map D.i=y.map D.i->x=y:=by
  intro x
  induction x with
  |nil=>intro y h; cases y with |nil=>rfl|cons z y=>simp at h
  |cons z x ih=>
   intro y h
   cases y with
   |nil=>simp at h
   |cons q y=>
    grind
 grind
theorem tf {f g:Nat} {a b:Int} (h:jO f a=jO g b):f=g/\a=b:=by
 unfold jO at h;obtain⟨U,Z⟩:=Bl (a:=f) (b:=zN a) (a':=g) (b':=zN b) J
 grind [V6]
theorem wj (f:Nat) (a:Int):1000<=jO f a:=by unfold jO; omega
theorem tb {F:oR} {lo:Nat->Int} {i:Nat} (h:i<900):df F lo i=lo i:=by unfold df; rw [ak h]
theorem lK (F:oR) (lo:Nat->Int):Good F (df F lo):=by
 intro j xs;have U:=wj (2*j) (mX xs);have Z:=wj (2*j+1) (mX xs);constructor
 ·unfold df;rw [ah J];have h: ∃p:Nat×List Int,jO (2*j) (mX xs)=jO (2*p.1) (mX p.2):=⟨(j,xs),rfl⟩;rw [dif_pos h];obtain⟨q1,q2⟩:=tf h.choose_spec;have q2:=M5 q2
  grind
 ·unfold df;rw [ah J]
  have hn: ¬∃p:Nat×List Int,jO (2*j+1) (mX xs)=jO (2*p.1) (mX p.2):=by rintro⟨p,hp⟩;have:=(tf hp).1;omega
  rw [dif_neg hn];have h: ∃p:Nat×List Int,jO (2*j+1) (mX xs)=jO (2*p.1+1) (mX p.2):=⟨(j,xs),rfl⟩;rw [dif_pos h];obtain⟨q1,q2⟩:=tf h.choose_spec;have q2:=M5 q2
  grind
theorem Good.ig {F:oR} {ρ ρ':Nat->Int} (g:Good F ρ) (h: ∀i,900<=i->ρ' i=ρ i):Good F ρ':=by intro j xs;have U:=wj (2*j) (mX xs);have Z:=wj (2*j+1) (mX xs);rw [h _ J,h _ J];exact g j xs
def eV (tree:Nat->T Lf):Nat->oR
 |0,_,_=>none
 |n+1,j,xs=>match (tree j).leaf (df (eV tree n) (low xs)) with
  |none=>none
  |some (.out es)=>some (es.map (V.den (df (eV tree n) (low xs))))
  |some (.jump j' es)=>eV tree n j' (es.map (V.den (df (eV tree n) (low xs))))
def GW:List CK->Bool
 |[]=>true
 |c::l=>match c with
  | .int _=>GW l
  | .bool=>GW l
  |_=>false
def Yu (j:Nat) (F4 lY:List RK):List Y->St->T (Y×St):=fun args s=>match cellsOf F4 args with
 |none=> .fail
 |some cells=>xS cells s fun cells s1=>outs (px F4) cells s1 fun es s2=>
  kB s2 (.eq (.ap (2*j) (gr es)) (.lit 1)) fun s3 b=>match b with
   |true=> .ret (match p8 lY (ph (.ap (2*j+1) (gr es))) 0 with |[v]=>v|vs=> .tuple vs,match GW (px lY) with
    |true=>{ s3 with h:=s.h }
    |false=>s3)
   |false=> .fail
end
end Go.As
end
section
namespace Go.As
open Go.RowKit
def fE (K:Nat):V->Bool
 | .lit _=>true
 | .dK i=>Nat.blt i K
 | .add a b=>fE K a&&fE K b
 | .sub a b=>fE K a&&fE K b
 | .mul a b=>fE K a&&fE K b
 | .quo a b=>fE K a&&fE K b
 | .rem a b=>fE K a&&fE K b
 | .wrap _ a=>fE K a
 | .xK _ _=>false
 | .eD _=>true
 | .op _ a b=>fE K a&&fE K b
 | .ap _ _=>false
def vp (K:Nat):SB->Bool
 | .lit _=>true
 | .lt a b=>fE K a&&fE K b
 | .le a b=>fE K a&&fE K b
 | .eq a b=>fE K a&&fE K b
 | .not s=>vp K s
 | .and a b=>vp K a&&vp K b
mutual
def kP (K:Nat):Y->Bool
 | .bool b=>vp K b
 | .int _ e=>fE K e
 | .nQ cs=>mI K cs
 | .ro cs _ _=>mI K cs
 | .func _ a b=>mI K a&&mI K b
 | .iface _ v=>kP K v
 | .agg cs=>mI K cs
 | .tuple cs=>mI K cs
 | .xK _ _=>false
 | .eD e _=>fE K e
 | .kG e=>fE K e
 | .pV _ n _=>fE K n
 | .Ax _ _ i _=>fE K i
 | .u5 _ l n _=>fE K l&&fE K n
 | .xU z _=>fE K z
 |_=>true
def mI (K:Nat):List Y->Bool
 |[]=>true
 |x::xs=>kP K x&&mI K xs
end
def DA (K:Nat):List (Y×Y×Nat)->Bool
 |[]=>true
 |(k,v,_)::l=>kP K k&&kP K v&&DA K l
def Ep (K:Nat):List (V×List Y)->Bool
 |[]=>true
 |(i,cs)::l=>fE K i&&mI K cs&&Ep K l
def ud (K:Nat):List (V×Y)->Bool
 |[]=>true
 |(x,v)::l=>fE K x&&kP K v&&ud K l
def xH (K:Nat):dX->Bool
 | .uo e _ _ ov=>fE K e&&ud K ov
 | .cells cs _=>mI K cs
 | .map es _=>DA K es
 | .kU _ _=>true
 | .vec e _ _ ov=>fE K e&&Ep K ov
 | .kQ e _=>fE K e
def Rc (K:Nat):List (SB×Bool)->Bool
 |[]=>true
 |(c,_)::l=>vp K c&&Rc K l
def sG (K:Nat):List (Nat×Y)->Bool
 |[]=>true
 |(_,v)::l=>kP K v&&sG K l
def Dh (K:Nat):List dX->Bool
 |[]=>true
 |o::l=>xH K o&&Dh K l
def wb (K:Nat) (c:CS):Bool:=sG K c.bG&&Dh K c.dI&&Rc K c.pc
section
variable {K:Nat} {ρ ρ':Nat->Int} (hρ: ∀i,i<K->ρ' i=ρ i)
include hρ
theorem dw: ∀e:V,fE K e=true->e.den ρ'=e.den ρ
 | .lit _,_=>rfl
 | .dK i,h=>by simp only [fE] at h; exact hρ i (yL h)
 | .add a b,h=>by simp only [fE,au] at h; simp only [V.den,dw a h.1,dw b h.2]
 | .sub a b,h=>by simp only [fE,au] at h; simp only [V.den,dw a h.1,dw b h.2]
 | .mul a b,h=>by simp only [fE,au] at h; simp only [V.den,dw a h.1,dw b h.2]
 | .quo a b,h=>by simp only [fE,au] at h; simp only [V.den,dw a h.1,dw b h.2]
 | .rem a b,h=>by simp only [fE,au] at h; simp only [V.den,dw a h.1,dw b h.2]
 | .wrap _ a,h=>by simp only [fE] at h; simp only [V.den,dw a h]
 | .xK _ _,h=>by simp [fE] at h
 | .eD _,_=>rfl
 | .op _ a b,h=>by simp only [fE,au] at h; simp only [V.den,dw a h.1,dw b h.2]
 | .ap _ _,h=>by simp [fE] at h
theorem sL: ∀c:SB,vp K c=true->c.den ρ'=c.den ρ
 | .lit _,_=>rfl
 | .lt a b,h=>by simp only [vp,au] at h; simp only [SB.den,dw hρ a h.1,dw hρ b h.2]
 | .le a b,h=>by simp only [vp,au] at h; simp only [SB.den,dw hρ a h.1,dw hρ b h.2]
 | .eq a b,h=>by simp only [vp,au] at h; simp only [SB.den,dw hρ a h.1,dw hρ b h.2]
 | .not s,h=>by simp only [vp] at h; simp only [SB.den,sL s h]
 | .and a b,h=>by simp only [vp,au] at h; simp only [SB.den,sL a h.1,sL b h.2]
end
section
variable {K:Nat} {E E':En} (hρ: ∀i,i<K->E'.ρ i=E.ρ i) (hθ:E'.θ=E.θ) (hκ:E'.κ=E.κ) (uO:E'.dm=E.dm) (lZ:E'.ro=E.ro) {h:Array Obj}
include hρ hθ hκ uO lZ
theorem eZ.low {id off len:Nat} {a:Addr} {cap:Nat} {c:NB} (hc:eZ E id off len a cap c):eZ E' id off len a cap c:=by simp_all [eZ]
mutual
theorem VR.low: ∀(x:Y) (u:Value),kP K x=true->VR E h x u->VR E' h x u
 | .bool b,u,W,hv=>by simp only [VR,kP] at *; rw [sL hρ b W]; exact hv
 | .int _ e,u,W,hv=>by simp only [VR,kP] at *; rw [dw hρ e W]; exact hv
 | .str s,u,_,hv=>by simp only [VR] at *; exact hv
 | .ptr id off,u,_,hv=>by simp only [VR] at *; rw [hθ,uO]; exact hv
 | .u9,u,_,hv=>by simp only [VR] at *; exact hv
 | .nQ cs,u,W,hv=>by simp only [VR,kP] at *;obtain⟨b,o,us,U,Z,h3,h4,h5⟩:=hv;exact⟨b,o,us,U,by rw [lZ]; exact Z,cJ.low cs us W h3,h4,h5⟩
 | .slice id off len c,u,_,hv=>by simp only [VR] at *;obtain⟨U,a,cap,Z,h3,h4⟩:=hv;exact⟨by rw [uO]; exact U,a,cap,Z,h3,eZ.low hρ hθ hκ uO lZ h4⟩
 | .gL,u,_,hv=>by simp only [VR] at *; exact hv
 | .ro cs n full,u,W,hv=>by simp only [VR,kP] at *;obtain⟨b,o,cap,us,U,Z,h3,h4,h5,h6,h7⟩:=hv;exact⟨b,o,cap,us,U,Z,h3,by rw [lZ]; exact h4,cJ.low cs us W h5,h6,h7⟩
 | .map id,u,_,hv=>by simp only [VR] at *; rw [hθ,uO]; exact hv
 | .tI,u,_,hv=>by simp only [VR] at *; exact hv
 | .func fn fs cs,u,W,hv=>by simp only [VR,kP,au] at *;obtain⟨us,ws,U,Z,h3⟩:=hv;exact⟨us,ws,U,cJ.low fs us W.1 Z,cJ.low cs ws W.2 h3⟩
 | .xp,u,_,hv=>by simp only [VR] at *; exact hv
 | .iface t x,u,W,hv=>by simp only [VR,kP] at *;obtain⟨y,U,Z⟩:=hv;exact⟨y,U,VR.low x y W Z⟩
 | .yn,u,_,hv=>by simp only [VR] at *; exact hv
 | .agg cs,u,W,hv=>by simp only [VR,kP] at *;obtain⟨us,U,Z⟩:=hv;exact⟨us,U,cJ.low cs us W Z⟩
 | .tuple cs,u,W,hv=>by simp only [VR,kP] at *;obtain⟨us,U,Z⟩:=hv;exact⟨us,U,cJ.low cs us W Z⟩
 | .LI _,u,_,hv=>by simp only [VR] at hv
 | .xK _ _,u,W,_=>by simp [kP] at W
 | .emp,u,_,hv=>by simp only [VR] at *; exact hv
 | .eD e t,u,W,hv=>by simp only [VR,kP] at *; rw [dw hρ e W,lZ]; exact hv
 | .kG e,u,W,hv=>by simp only [VR,kP] at *; rw [dw hρ e W,lZ]; exact hv
 | .pV id n t,u,W,hv=>by simp only [VR,kP] at *;obtain⟨U,k,a,cap,Z,h3,h4,h5⟩:=hv;exact⟨by rw [uO]; exact U,k,a,cap,by rw [dw hρ n W]; exact Z,h3,h4,eZ.low hρ hθ hκ uO lZ h5⟩
 | .Ax id es i off,u,W,hv=>by simp only [VR,kP] at *;obtain⟨U,k,Z,h3⟩:=hv;exact⟨by rw [uO]; exact U,k,by rw [dw hρ i W]; exact Z,by rw [hθ]; exact h3⟩
 | .any,u,_,_=>by simp only [VR]
 | .xU z t,u,W,hv=>by simp only [VR,kP] at *; rw [dw hρ z W,lZ]; exact hv
 | .u5 id lo n t,u,W,hv=>by simp only [VR,kP,au] at *;obtain⟨U,l,k,a,cap,Z,h3,h4,h5,h6⟩:=hv;exact⟨by rw [uO]; exact U,l,k,a,cap,by rw [dw hρ lo W.1]; exact Z,by rw [dw hρ n W.2]; exact h3,h4,h5,eZ.low hρ hθ hκ uO lZ h6⟩
theorem cJ.low: ∀(xs:List Y) (us:List Value),mI K xs=true->cJ E h xs us->cJ E' h xs us
 |[],us,_,hv=>by simp only [cJ] at *; exact hv
 |x::xs,us,W,hv=>by simp only [cJ,mI,au] at *;obtain⟨u,vs,U,Z,h3⟩:=hv;exact⟨u,vs,U,VR.low x u W.1 Z,cJ.low xs vs W.2 h3⟩
end
theorem e9.low: ∀{es:List (Y×Y×Nat)} {bT:List MapEntry},DA K es=true->e9 E h es bT->e9 E' h es bT
 |[],_,_,hv=>by simp only [e9] at *; exact hv
 |(k,v,b)::es,bT,W,hv=>by simp only [e9,DA,au] at *;obtain⟨e,r,U,Z,h3,h4,h5⟩:=hv;exact⟨e,r,U,VR.low hρ hθ hκ uO lZ k _ W.1.1 Z,VR.low hρ hθ hκ uO lZ v _ W.1.2 h3,h4,e9.low W.2 h5⟩
theorem Hl {i:Nat}: ∀{ov:List (V×List Y)},Ep K ov=true->ep E'.ρ i ov=ep E.ρ i ov
 |[],_=>rfl
 |(j,cs)::l,W=>by simp only [Ep,au] at W;simp only [ep];rw [dw hρ j W.1.1,Hl W.2]
theorem Hn: ∀{ov:List (V×List Y)},Ep K ov=true->∀p∈ov,mI K p.2=true
 |[],_,p,hp=>by simp at hp
 |(j,cs)::l,W,p,hp=>by
  simp only [Ep,au] at W;rcases aF.1 hp with rfl|hp
  ·grind
  ·exact Hn W.2 p hp
theorem uF {r:Row} {ov:List (V×List Y)} (W:Ep K ov=true): ∀(ds:List D) (i:Nat) {us:List Value},cJ E h (bH E.ρ r ov ds i) us->cJ E' h (bH E'.ρ r ov ds i) us
 |[],_,us,hv=>by simp only [bH,cJ] at *; exact hv
 |d::ds,i,us,hv=>by
  simp only [bH] at *;obtain⟨a,b,rfl,U,Z⟩:=hv.split;refine cJ.append ?_ (uF W ds (i+1) Z);rw [Hl hρ hθ hκ uO lZ W]
  cases ho:ep E.ρ i ov with
  |none=> rw [ho] at U;rw [gD] at U ⊢;rw [lZ];exact U
  |some cs=> rw [ho] at U;obtain⟨p,p1,p2,_⟩:=lE ho;exact cJ.low hρ hθ hκ uO lZ cs a (by rw [<- p2]; exact Hn hρ hθ hκ uO lZ W p p1) U
theorem Rh {n:Int}: ∀{ov:List (V×Y)},ud K ov=true->mu E'.ρ n ov=mu E.ρ n ov
 |[],_=>rfl
 |(j,v)::l,W=>by simp only [ud,au] at W;simp only [mu];rw [dw hρ j W.1.1,Rh W.2]
omit hρ hθ hκ uO lZ in
theorem E5 {n:Int} {ρ:Nat->Int} {v:Y}: ∀{ov:List (V×Y)},ud K ov=true->mu ρ n ov=some v->kP K v=true
 |[],_,h=>by simp [mu] at h
 |(j,u)::l,W,h=>by
  simp only [ud,au] at W;simp only [mu] at h;split at h
  ·simp only [an] at h; subst h; exact W.1.2
  ·exact E5 W.2 h
theorem Cy: ∀{ov:List (V×Y)},ud K ov=true->(ov.map fun p=>p.1.den E'.ρ)=ov.map fun p=>p.1.den E.ρ
 |[],_=>rfl
 |(j,v)::l,W=>by simp only [ud,au] at W;simp only [aH];rw [dw hρ j W.1.1,Cy W.2]
theorem pF.low (YE:E'.hd=E.hd) {B:Nat} {key:D} {j ty:Nat} {c:FC} {d:D} {u:Value} (ho:pF E h B key j ty c d u):pF E' h B key j ty c d u:=by
 cases c with
 |ck c=>simp only [pF] at *; rw [lZ]; exact ho
 |mp t=>simp only [pF] at *; rw [lZ,YE]; exact ho
 |own t=>
  rcases ho with ho|⟨b,o,n,cap,a,arr,lo,hi,U,Z,h3,h4,h5,h6,h7⟩
  ·exact .inl (by rw [lZ]; exact ho)
  ·refine .inr ⟨b,o,n,cap,a,arr,lo,hi,U,Z,by rw [YE]; exact h3,h4,h5,h6,?_⟩;rcases h7 with h7|⟨g1,g2,us,g3,g4⟩
   ·exact .inl h7
   ·exact .inr ⟨g1,g2,us,uF hρ hθ hκ uO lZ (ov:=[]) rfl _ _ g3,g4⟩
theorem qL.low (YE:E'.hd=E.hd) {B t:Nat} {fq:List Nat} {key d:D} {v:Value} (ho:qL E h B t fq key d v):qL E' h B t fq key d v:=by
 unfold qL at *;split at ho
 ·obtain⟨c,U,Z⟩:=ho;exact⟨c,U,pF.low hρ hθ hκ uO lZ YE Z⟩
 ·obtain⟨b,o,arr,lo,hi,U,Z,h3,h4,h5,h6⟩:=ho;refine⟨b,o,arr,lo,hi,U,by rw [YE]; exact Z,h3,h4,h5,fun j c hc=>?_⟩;obtain⟨u,g1,g2,g3⟩:=h6 j c hc;exact⟨u,g1,g2,pF.low hρ hθ hκ uO lZ YE g3⟩
theorem eY.low (YE:E'.hd=E.hd) {B t:Nat} {fq:List Nat} {ov:List (V×Y)} (W:ud K ov=true): ∀{ds:List D} {es:List MapEntry},eY E h B t fq ov ds es->eY E' h B t fq ov ds es
 |[],_,ho=>ho
 |d::ds,_,⟨e,r,n,U,Z,h3,h4,h5⟩=>by
  refine⟨e,r,n,U,Z,h3,?_,eY.low YE W h5⟩;rw [Rh hρ hθ hκ uO lZ W];split at h4
  ·rename_i v hv;exact VR.low hρ hθ hκ uO lZ v _ (E5 W hv) h4
  ·exact qL.low hρ hθ hκ uO lZ YE h4
theorem OR.low {id:Nat} {o:dX} (W:xH K o=true) (ho:OR E h id o) (YE:E'.hd=E.hd:=by rfl):OR E' h id o:=by
 cases o with
 |uo e t fq ov=> simp only [OR,xH,au] at *;obtain⟨n0,bT,c,U,Z⟩:=ho;rw [hθ,dw hρ e W.1];exact⟨n0.congr (Cy hρ hθ hκ uO lZ W.2),bT,c,U,eY.low hρ hθ hκ uO lZ YE W.2 Z⟩
 |cells cs e=> simp only [OR,xH] at *;obtain⟨arr,lo,hi,us,U,Z,h3,h4,h5,h6,h7⟩:=ho;rw [hθ,hκ];exact⟨arr,lo,hi,us,U,cJ.low hρ hθ hκ uO lZ cs us W Z,h3,h4,h5,h6,h7⟩
 |map es c=>
  grind [OR,xH,e9.low]
 |kU s p=>simp only [OR] at *; rw [hθ]; exact ho
 |kQ e t=>
  grind [OR,xH,dw]
 |vec e t ty ov=>
  grind [OR,xH,dw,uF,cM]
end
theorem LC {K:Nat} {ρ ρ':Nat->Int} (hρ: ∀i,i<K->ρ' i=ρ i): ∀{pc:List (SB×Bool)},Rc K pc=true->ca ρ pc->ca ρ' pc
 |[],_,_=>by intro c b h; simp at h
 |(c0,b0)::l,W,hp=>by
  simp only [Rc,au] at W;intro c b hm;rcases aF.1 hm with hm|hm
  ·simp only [aq] at hm;obtain⟨rfl,rfl⟩:=hm;rw [sL hρ c W.1];exact hp c b ad
  ·exact LC hρ W.2 (fun c b h=>hp c b (by simp [h])) c b hm
theorem zf {K:Nat}: ∀{l:List (Nat×Y)},sG K l=true->∀{t:Nat} {v:Y},(t,v)∈l->kP K v=true
 |[],_,_,_,h=>by simp at h
 |(t0,v0)::l,hs,t,v,h=>by
  simp only [sG,au] at hs;rcases aF.1 h with h|h
  ·grind
  ·exact zf hs.2 h
theorem vy {K:Nat}: ∀{l:List dX},Dh K l=true->∀{i:Nat} {o:dX},l[i]?=some o->xH K o=true
 |[],_,_,_,h=>by simp at h
 |o0::l,hs,i,o,h=>by
  simp only [Dh,au] at hs
  cases i with
  |zero=>simp at h; rw [<- h]; exact hs.1
  |succ i=>exact vy hs.2 (by simpa using h)
structure wv (E:En) (s:St) (a:Act) (w:World):Prop where
 fresh: ∀id,s.h.next<=id->¬E.dm id
 res: ∀r,s.h.res=some r->r<s.h.next/\¬E.dm r
 live: ∀id o,s.h.get id=some o->E.dm id/\OR E w.heap id o/\¬E.ro (E.θ id).1
 inj: ∀id OO o o',s.h.get id=some o->s.h.get OO=some o'->(E.θ id).1=(E.θ OO).1->id=OO
 sq: ∀b,E.ro b->b<w.heap.size
 sr:SR E w.heap s.bG a
 pc:ca E.ρ s.pc
 hid: ∀b x,E.hd b=some x->b<w.heap.size/\¬E.ro b/\∀id o,s.h.get id=some o->(E.θ id).1≠b
theorem Fit.x [bJ] {E:En} {s:St} {a:Act} {w:World} (f:Fit E s a w):wv E s a w:=⟨f.rel.fresh,f.rel.res,f.rel.live,f.rel.inj,f.rel.sq,f.sr,f.pc,f.rel.hid⟩
theorem wv.fit [bJ] {E:En} {s:St} {a:Act} {w:World} (f:wv E s a w) (hg:bJ.ok E.ρ E.ro w.heap):Fit E s a w:=⟨⟨f.fresh,f.res,f.live,f.inj,f.sq,hg,f.hid⟩,f.sr,f.pc⟩
theorem wv.low {K:Nat} {E:En} {c:CS} {a:Act} {w:World} {ρ':Nat->Int} (hc:wb K c=true) (hρ: ∀i,i<K->ρ' i=E.ρ i) (f:wv E c.st a w):wv { E with ρ:=ρ' } c.st a w:=by
 unfold wb at hc;simp only [au] at hc;obtain⟨⟨U,Z⟩,h3⟩:=hc;refine⟨f.fresh,f.res,fun id o ho=>?_,f.inj,f.sq,fun t v ht=>?_,LC hρ h3 f.pc,f.hid⟩
 ·obtain⟨q1,q2,q3⟩:=f.live id o ho;refine⟨q1,OR.low (E:=E) (E':={ E with ρ:=ρ' }) hρ rfl rfl rfl rfl ?_ q2,q3⟩;have:(oX c.dI 0 .nil).get id=some o:=ho
  grind [j5,vy,Tr.get]
 ·obtain⟨u,q1,q2⟩:=f.sr t v ht;refine⟨u,q1,VR.low (E:=E) (E':={ E with ρ:=ρ' }) hρ rfl rfl rfl rfl v u ?_ q2⟩;have:(n5 c.bG .nil).get t=some v:=ht;rcases vm this with h|h
  all_goals grind [zf,Tr.get]
end Go.As
end
section
namespace Go.As
open Go.RowKit
def uZ (ro:Nat->Prop) (h:Array Obj) (c:CK) (n:Int) (u:Value):Prop:=match c with
 | .int k=>u= .int k n
 | .bool=>u= .bool (!(n == 0))
 |c=>Rd ro h c (dec n) u
def iz (ro:Nat->Prop) (h:Array Obj):List CK->List Int->List Value->Prop
 |[],ns,us=>ns= []/\us= []
 |c::cs,ns,us=> ∃n A? u gX,ns=n::A?/\us=u::gX/\uZ ro h c n u/\iz ro h cs A? gX
theorem M3 {E:En} {h:Array Obj} {c:CK} {t:V} {u:Value}:VR E h (S4 c t) u↔uZ E.ro h c (t.den E.ρ) u:=by cases c<;>simp only [S4,uZ,VR,SB.den,V.den]
theorem XV {E:En} {h:Array Obj} {c:CK} {v:Y} {u:Value} {e:V} (hv:VR E h v u) (hn:XW c v=some e):uZ E.ro h c (e.den E.ρ) u:=by
 unfold XW at hn;split at hn
 ·grind [uZ,VR]
 ·grind
 ·obtain⟨s,rfl,hs⟩:=zc hv hn;simp only [uZ,hs];exact .str s
 ·exact lL hv hn
theorem iz.length {ro:Nat->Prop} {h:Array Obj}: ∀{cs:List CK} {ns:List Int} {us:List Value},iz ro h cs ns us->ns.length=cs.length/\us.length=cs.length
 |[],ns,us,hh=>by simp only [iz] at hh; simp [hh.1,hh.2]
 |c::cs,ns,us,hh=>by
  obtain⟨n,A?,u,gX,rfl,rfl,_,Z⟩:=hh;have:=Z.length
  grind
theorem uZ.cD {ro n6:Nat->Prop} {h h':Array Obj} (k1: ∀b,ro b->n6 b) (k2: ∀b,ro b->h'[b]?=h[b]?) {c:CK} {n:Int} {u:Value} (r:uZ ro h c n u):uZ n6 h' c n u:=by
 cases c with
 |int k=>exact r
 |bool=>exact r
 |str=>exact Rd.cD k1 k2 r
 |sl t=>exact Rd.cD k1 k2 r
theorem FU {E:En} {h:Array Obj} {f:Nat->V}: ∀{cs:List CK} {i:Nat} {ns:List Int} {us:List Value},iz E.ro h cs ns us->(∀k n,ns[k]?=some n->(f (i+k)).den E.ρ=n)->cJ E h (FV cs f i) us
 |[],_,_,us,hh,_=>by simp only [iz] at hh; rw [hh.2]; simp [FV,cJ]
 |c::cs,i,ns,us,hh,hf=>by
  obtain⟨n,A?,u,gX,rfl,rfl,U,Z⟩:=hh;simp only [FV,bX];refine⟨u,gX,rfl,?_,FU Z fun k m hk=>?_⟩
  ·rw [M3];have:=hf 0 n rfl
   grind
  ·have:=hf (k+1) m (by simpa using hk)
   grind
inductive Shape:List RK->List Value->List Value->Prop where
 |nil:Shape [] [] []
 |one (c:CK) {rs:List RK} {us fl:List Value} (u:Value):Shape rs us fl->Shape (.one c::rs) (u::us) (u::fl)
 |agg (cs:List CK) {rs:List RK} {us fl:List Value} (xs:List Value) (h:xs.length=cs.length):Shape rs us fl->Shape (.agg cs::rs) (.agg xs.toArray::us) (xs++fl)
theorem og {E:En} {h:Array Obj}: ∀{lY:List RK} {vs cells:List Y} {us:List Value},cJ E h vs us->cellsOf lY vs=some cells->∃fl,Shape lY us fl/\cJ E h cells fl
 |[],[],cells,us,hv,hc=>by simp only [cellsOf,an] at hc;subst hc;simp only [cJ] at hv;subst hv;exact⟨[],.nil,by simp [cJ]⟩
 |[],_::_,cells,us,hv,hc=>by simp [cellsOf] at hc
 | .one _::_,[],cells,us,hv,hc=>by simp [cellsOf] at hc
 | .agg _::_,[],cells,us,hv,hc=>by simp [cellsOf] at hc
 | .one c::rs,v::vs,cells,us,hv,hc=>by
   rw [bX] at hv;obtain⟨u,gX,rfl,U,Z⟩:=hv;simp only [cellsOf] at hc;split at hc
   ·split at hc
    ·rename_i l W;simp only [an] at hc;subst hc;obtain⟨fl,s,v2⟩:=og Z W;exact⟨u::fl,.one c u s,by rw [bX]; exact⟨u,fl,rfl,U,v2⟩⟩
    grind
   grind
 | .agg cs::rs,v::vs,cells,us,hv,hc=>by
   rw [bX] at hv;obtain⟨u,gX,rfl,U,Z⟩:=hv;simp only [cellsOf] at hc;split at hc
   ·rename_i xs;split at hc
    ·rename_i hlen;have hlen:=az hlen;split at hc
     ·rename_i l W;simp only [an] at hc;subst hc;obtain⟨fl,s,v2⟩:=og Z W;simp only [VR] at U;obtain⟨ws,rfl,h3⟩:=U;exact⟨ws++fl,.agg cs ws (by rw [h3.length,hlen]) s,h3.append v2⟩
     grind
    grind
   grind
theorem xY {ro:Nat->Prop} {h:Array Obj}: ∀{cs ds:List CK} {ns:List Int} {us vs:List Value},us.length=cs.length->iz ro h (cs++ds) ns (us++vs)->∃a b,ns=a++b/\iz ro h cs a us/\iz ro h ds b vs
 |[],ds,ns,us,vs,W,hh=>by have:us= []:=amv W;subst this;exact⟨[],ns,rfl,by simp [iz],hh⟩
 |c::cs,ds,ns,us,vs,W,hh=>by
  simp only [aW,iz] at hh;obtain⟨n,A?,u,gX,rfl,he,U,Z⟩:=hh
  cases us with
  |nil=>simp at W
  |cons x us=> simp only [aW,List.cons.injEq] at he;obtain⟨rfl,rfl⟩:=he;obtain⟨a,b,rfl,h3,h4⟩:=xY (by simpa using W) Z;exact⟨n::a,b,rfl,⟨n,a,x,us,rfl,rfl,U,h3⟩,h4⟩
theorem sU {E:En} {h:Array Obj} {f:Nat->V}: ∀{lY:List RK} {us fl:List Value} {ns:List Int} {i:Nat},Shape lY us fl->iz E.ro h (px lY) ns fl->(∀k n,ns[k]?=some n->(f (i+k)).den E.ρ=n)->cJ E h (p8 lY f i) us
 |[],us,fl,ns,i,s,_,_=>by cases s; simp [p8,cJ]
 | .one c::rs,us,fl,ns,i,s,hc,hf=>by
   cases s with
   |one _ u s=>
    simp only [px,RK.flat,aW,aw,iz] at hc;obtain⟨n,A?,u',gX,rfl,he,U,Z⟩:=hc;simp only [List.cons.injEq] at he;obtain⟨rfl,rfl⟩:=he;simp only [p8,bX];refine⟨_,_,rfl,?_,sU s Z fun k m hk=>?_⟩
    ·rw [M3];have:=hf 0 n rfl
     grind
    ·have:=hf (k+1) m (by simpa using hk)
     grind
 | .agg cs::rs,us,fl,ns,i,s,hc,hf=>by
   cases s with
   |agg _ xs W s=>
    simp only [px,RK.flat] at hc;obtain⟨a,b,rfl,U,Z⟩:=xY W hc;have Vv:=U.length.1;simp only [p8,bX,VR];refine⟨_,_,rfl,⟨xs,rfl,FU U fun k m hk=>hf k m ?_⟩,sU s Z fun k m hk=>?_⟩
    ·grind
    ·have:=hf (cs.length+k) m (by rw [anV J,show cs.length+k-a.length=k by omega]; exact hk)
     grind
section
variable {P:Program} {E:En} {w:World}
theorem Df {α:Type} {r:α} {h:Array Obj}: ∀{cs:List CK} {vs:List Y} {s:St} {k:List V->St->T α} {us:List Value},ca E.ρ s.pc->cJ E h vs us->(outs cs vs s k).leaf E.ρ=some r->
 ∃es ew,ca E.ρ ew/\iz E.ro h cs (es.map (V.den E.ρ)) us/\(k es { s with pc:=ew }).leaf E.ρ=some r
 |[],[],s,k,us,hp,hv,W=>by simp only [outs] at W;simp only [cJ] at hv;exact⟨[],s.pc,hp,by simp [iz,hv],W⟩
 |[],_::_,s,k,us,hp,hv,W=>by simp [outs,T.leaf] at W
 |_::_,[],s,k,us,hp,hv,W=>by simp [outs,T.leaf] at W
 |c::cs,v::vs,s,k,us,hp,hv,W=>by
  rw [bX] at hv;obtain⟨u,gX,rfl,U,Z⟩:=hv;simp only [outs] at W;split at W
  ·split at W
   ·rename_i b;obtain⟨fW,fL,Bx⟩:=cR hp W;obtain⟨es,kz,kg,q1,q2⟩:=Df (s:={ s with pc:=fW }) fL Z Bx;refine⟨_::es,kz,kg,?_,q2⟩;simp only [aH,iz];refine⟨_,_,u,gX,rfl,rfl,?_,q1⟩;simp only [VR] at U;subst U;simp only [uZ,V.den];cases b.den E.ρ<;>rfl
   grind [T.leaf]
  ·split at W
   ·rename_i e he;obtain⟨es,kz,kg,q1,q2⟩:=Df hp Z W
    grind [iz,XV]
   grind [T.leaf]
theorem yf (ρ:Nat->Int): ∀es:List V,dec ((gr es).den ρ)=dL ((es.map (V.den ρ)).map .i)
 |[]=>by simp only [gr,V.den,bC]; rfl
 |e::es=>by simp only [gr,eL,V.den,fT.den,bC,mf,yf ρ es,aH,dL]
theorem jU (ρ:Nat->Int): ∀es:List V,(gr es).den ρ=mX (es.map (V.den ρ))
 |[]=>rfl
 |e::es=>by have:=yf ρ (e::es);simp only [gr,eL,V.den,fT.den,bC,mf,yf ρ es,aH,mX,dL]
theorem wF {ρ:Nat->Int} {r:V} {ys:List Int} (h:r.den ρ=mX ys) {i:Nat} {y:Int} (hi:ys[i]?=some y):(ph r i).den ρ=y:=by simp only [ph,V.den,fT.den,h,mX,bC,D.hd,bD,bp,hi,amu,ax,D.n]
def abe (lY:List RK) (ys:List Int) (ro:Nat->Prop) (h:Array Obj) (u:Value):Prop:= ∃us fl,Shape lY us fl/\iz ro h (px lY) ys fl/\u=if hh:us.toArray.size=1 then us.toArray[0] else .tuple us.toArray
def r_ (P:Program) (GB:(Nat->Prop)->Array Obj->Prop) (g:FuncId) (F4 lY:List RK) (f:List Int->Option (List Int)):Prop:=
 ∀xs ys,f xs=some ys->∀(ro:Nat->Prop) (w:World) (vals fl:List Value),(∀b,ro b->b<w.heap.size)->GB ro w.heap->Shape F4 vals fl->iz ro w.heap (px F4) xs fl->
  Calls P g vals.toArray w fun e w'=> ∃u,e= .returned u/\Below w.heap.size w w'/\∃n6:Nat->Prop,(∀b,ro b->n6 b)/\(∀b,n6 b->ro b\/w.heap.size<=b)/\(∀b,n6 b->b<w'.heap.size)/\abe lY ys n6 w'.heap u
theorem iz.aet {ro n6:Nat->Prop} {h h':Array Obj}: ∀{cs:List CK} {ns:List Int} {us:List Value},iz ro h cs ns us->GW cs=true->iz n6 h' cs ns us
 |[],ns,us,hh,_=>hh
 |c::cs,ns,us,hh,hs=>by
  obtain⟨n,A?,u,gX,rfl,rfl,U,Z⟩:=hh;simp only [GW] at hs;split at hs
  ·exact⟨n,A?,u,gX,rfl,rfl,U,Z.aet hs⟩
  ·exact⟨n,A?,u,gX,rfl,rfl,U,Z.aet hs⟩
  grind
theorem Yt [bJ] {GB:(Nat->Prop)->Array Obj->Prop} (Mf: ∀ρ ro h,bJ.ok ρ ro h->GB ro h) {F:oR} (Me: ∀ρ ro h,bJ.ok ρ ro h->Good F ρ) {g:FuncId} {j:Nat} {F4 lY:List RK} (hs:r_ P GB g F4 lY (F j))
 (mD: ∀(args:Array Value) (w:World),(callFunc g args).run P w= .ok (.enter g args) w):kR P g (Yu j F4 lY):=by
 intro aml s E w vals v s' r hv hp W;unfold Yu at W;split at W
 ·grind [T.leaf]
 ·rename_i cells hc;obtain⟨fl,sh,hv2⟩:=og hv hc;obtain⟨aga,U,pcF,E1,hpF,f,hfr,W⟩:=qu rfl r hp W;have hv3:=hfr _ hv2;have s1:=f.ei;have r1:=f.rel;have hρ:=f.ρ;rw [<- hρ] at W hpF;obtain⟨es,fW,fL,q1,q2⟩:=Df (s:={ s with h:=U,pc:=pcF }) hpF hv3 W;obtain⟨kz,kg,q3⟩:=cR (s:={ s with h:=U,pc:=fW }) fL q2;split at q3
  ·rename_i ht;have hg:=Me _ _ _ r1.ku;have hg1:=(hg j (es.map (V.den E1.ρ))).1;have hg2:=(hg j (es.map (V.den E1.ρ))).2;simp only [SB.den,V.den,jU,hg1,beq_iff_eq] at ht
   have Cs:(F j (es.map (V.den E1.ρ))).isSome=true:=by
    grind
   obtain⟨ys,HK⟩:=amS.1 Cs;have yz:=bE q3;simp only [aq] at yz;obtain⟨rfl,B?⟩:=yz;have ace:=hs _ ys HK E1.ro w vals fl r1.sq (Mf _ _ _ r1.ku) sh q1
   have Gu: ∀(E2:En) (Z:Array Obj) (us fl':List Value),E2.ρ=E1.ρ->Shape lY us fl'->iz E2.ro Z (px lY) ys fl'->
    VR E2 Z (match p8 lY (ph (.ap (2*j+1) (gr es))) 0 with |[v]=>v|vs=> .tuple vs) (if hh:us.toArray.size=1 then us.toArray[0] else .tuple us.toArray):=by
    intro E2 Z us fl' hE2 sh' c1
    have hvr:cJ E2 Z (p8 lY (ph (.ap (2*j+1) (gr es))) 0) us:=by
     refine sU sh' c1 fun k n hk=>?_;rw [aK];refine wF (ys:=ys) ?_ hk;show E2.ρ _=_
     grind [jU]
    have:=Db hvr;unfold Bf at this;exact this
   cases hsc:GW (px lY) with
   |true=>
    rw [hsc] at B?;simp only at B?;subst B?;refine⟨rfl,by rw [<- hρ]; exact kg,?_⟩;unfold mr oQ;rw [mD];refine Calls.mono ace fun e w' ⟨u,he,hb,n6,k1,k2,k3,k4⟩=> ⟨u,he,?_⟩;have uN:fU E w.heap E w'.heap:=⟨rfl,fun _ h=>h,fun _ _=>rfl,fun _ _=>rfl,fun _ h=>h,fun b JH=>hb.block b (r.sq b JH)⟩
    have u6:fj E s.h w E s.h w':=
     ⟨rfl,fun _ h=>h,fun _ _=>rfl,fun _ _=>rfl,fun _ h=>h,fun b JH=> .inl JH,ay _,.inr rfl,fun _ h=> .inl h,hb.os,hb.tape,hb.output,hb.size,fun b nS _=>hb.block b nS,fun id o h _=> ⟨id,o,h,rfl⟩,rfl⟩
    have r2:bS E s.h w':=by refine⟨r.fresh,r.res,fun id o h=>?_,r.inj,fun b JH=>amH (r.sq b JH) hb.size,bJ.cD r.ku (fun _ h=>h) uN.Cb,r.Ux u6.hd u6.size u6.sO u6.own⟩;obtain⟨g1,g2,g3⟩:=r.live id o h;exact⟨g1,g2.cD uN g1 (hb.block _ (gx r h)) (r.Vt rfl (fun x hx _=>hb.block x hx) _),g3⟩
    obtain⟨us,fl',sh',c1,rfl⟩:=k4;exact⟨E,u6,r2,Gu E w'.heap us fl' hρ.symm sh' (c1.aet hsc)⟩
   |false=>
    rw [hsc] at B?;simp only at B?;subst B?;refine⟨rfl,by rw [<- hρ]; exact kg,?_⟩;unfold mr oQ;rw [mD];refine Calls.mono ace fun e w' ⟨u,he,hb,n6,k1,k2,k3,k4⟩=> ⟨u,he,?_⟩;have uN:fU E1 w.heap { E1 with ro:=n6 } w'.heap:=⟨rfl,fun _ h=>h,fun _ _=>rfl,fun _ _=>rfl,k1,fun b JH=>hb.block b (r1.sq b JH)⟩
    have u6:fj E1 U w { E1 with ro:=n6 } U w':=
     ⟨rfl,fun _ h=>h,fun _ _=>rfl,fun _ _=>rfl,k1,fun b JH=>(k2 b JH).imp id .inr,ay _,.inr rfl,fun _ h=> .inl h,hb.os,hb.tape,hb.output,hb.size,fun b nS _=>hb.block b nS,fun id o h _=> ⟨id,o,h,rfl⟩,rfl⟩
    have r2:bS { E1 with ro:=n6 } U w':=by
     refine⟨r1.fresh,r1.res,fun id o h=>?_,r1.inj,k3,bJ.cD r1.ku k1 uN.Cb,r1.Ux u6.hd u6.size u6.sO u6.own⟩;obtain⟨g1,g2,g3⟩:=r1.live id o h;refine⟨g1,g2.cD uN g1 (hb.block _ (gx r1 h)) (r1.Vt rfl (fun x hx _=>hb.block x hx) _),fun hr=>?_⟩;rcases k2 _ hr with hr|hr
     ·grind
     ·have gu:(E1.θ id).1<w.heap.size:=gx r1 h
      grind
    obtain⟨us,fl',sh',c1,rfl⟩:=k4;exact⟨{ E1 with ro:=n6 },s1.trans u6,r2,Gu { E1 with ro:=n6 } w'.heap us fl' rfl sh' c1⟩
  grind [T.leaf]
end
structure mV where
 w0:World
 ro:Nat->Prop
 m:Nat
 θ:Nat->Nat×Nat
 κ:Nat->Nat
def mV.fp (B:mV) (b:Nat):Prop:= ∃i,i<B.m/\(B.θ i).1=b
structure Bel (B:mV) (w:World):Prop where
 os:w.os=B.w0.os
 tape:w.tape=B.w0.tape
 output:w.output=B.w0.output
 size:B.w0.heap.size<=w.heap.size
 om: ∀k,k<B.w0.heap.size->¬B.fp k->w.heap[k]?=B.w0.heap[k]?
structure lM (B:mV) (E:En) (s:St) (a:Act) (w:World):Prop where
 fit:wv E s a w
 ro: ∀b,B.ro b->E.ro b
 sO: ∀b,E.ro b->B.ro b\/B.w0.heap.size<=b\/B.fp b
 NN:Bel B w
 own: ∀id o,s.h.get id=some o->B.w0.heap.size<=(E.θ id).1\/B.fp (E.θ id).1
 inx: ∀i,i<B.m->E.dm i/\E.θ i=B.θ i/\E.κ i=B.κ i
 tX: ∀b x,E.hd b=some x->B.w0.heap.size<=b
section
variable {P:Program} {B:mV}
theorem lM.step [bJ] {E E':En} {s s':St} {a a':Act} {w w':World} (t:lM B E s a w) (st:fj E s.h w E' s'.h w') (f':Fit E' s' a' w'):lM B E' s' a' w':=by
 have aan: ∀id o,s'.h.get id=some o->B.w0.heap.size<=(E'.θ id).1\/B.fp (E'.θ id).1:=by
  intro id o ho;rcases bg (E'.θ id).1 w.heap.size with h|h
  ·obtain⟨sX,o0,h0,he⟩:=st.own id o ho h;rw [<- he];exact t.own sX o0 h0
  ·exact .inl (bq t.NN.size h)
 refine⟨f'.x,fun b hb=>st.ro b (t.ro b hb),fun b hb=>?_,⟨st.os.trans t.NN.os,st.tape.trans t.NN.tape,st.output.trans t.NN.output,bq t.NN.size st.size,fun k hk hn=>?_⟩,aan,fun i hi=>?_,fun b x hb=>t.tX b x (by rw [<- st.hd]; exact hb)⟩
 ·rcases st.sO b hb with h|⟨id,o,U,Z⟩|h
  ·exact t.sO b h
  ·rw [<- Z]; exact .inr (t.own id o U)
  ·exact .inr (.inl (bq t.NN.size h))
 ·rw [<- t.NN.om k hk hn];refine st.cD k (amH hk t.NN.size) fun id o ho he=>?_;rcases t.own id o ho with h|h
  all_goals grind
 ·obtain⟨U,Z,h3⟩:=t.inx i hi;exact⟨st.dm i U,by rw [st.θ i U]; exact Z,by rw [st.κ i U]; exact h3⟩
theorem lM.then [bJ] {E:En} {s s':St} {a a':Act} {w w':World} (t:lM B E s a w) (h:nG E s a w s' a' w'): ∃E',lM B E' s' a' w'/\E'.ρ=E.ρ/\bJ.ok E'.ρ E'.ro w'.heap:=by obtain⟨_,_,E',st,f'⟩:=h;exact⟨E',t.step st f',st.ρ,f'.rel.ku⟩
theorem lM.pc {E:En} {s:St} {a:Act} {w:World} {pc:List (SB×Bool)} (t:lM B E s a w) (hp:ca E.ρ pc):lM B E { s with pc:=pc } a w:=
 ⟨⟨t.fit.fresh,t.fit.res,t.fit.live,t.fit.inj,t.fit.sq,t.fit.sr,hp,t.fit.hid⟩,t.ro,t.sO,t.NN,t.own,t.inx,t.tX⟩
theorem EJ {r:Ren}: ∀{m:Nat},EK m r=true->∀i,i<m->i<r.bl.length/\r.id i=i/\r.u7 i=0
 |0,_,i,hi=>by omega
 |n+1,h,i,hi=>by
  simp only [EK,au] at h;obtain⟨⟨U,Z⟩,h3⟩:=h;by_cases he:i=n
  ·subst he;split at U
   ·rename_i j hj;have U:=az U;subst U;refine⟨?_,?_,az Z⟩
    all_goals grind [dC,Ren.id]
   grind
  ·exact EJ h3 i J
theorem lM.fits [bJ] {E:En} {c:CS} {s:St} {r:Ren} {a:Act} {w:World} (t:lM B E s a w) (hg:bJ.ok E.ρ E.ro w.heap) (h:c.fits A_ s r=true) (hid:EK B.m r=true):r.ns.length<=900/\lM B (E.ig r) c.st a w:=by
 obtain⟨W,f,ho⟩:=Af Ov (t.fit.fit hg) h;refine⟨W,f.x,t.ro,t.sO,t.NN,fun id o hid=>?_,fun i hi=>?_,t.tX⟩
 ·obtain⟨o',h'⟩:=ho id o hid;exact t.own _ _ h'
 ·obtain⟨q1,q2,q3⟩:=EJ hid i hi;obtain⟨U,Z,h3⟩:=t.inx i hi;refine⟨⟨q1,by rw [q2]; exact U⟩,?_,?_⟩
  ·show ((E.θ (r.id i)).1,(E.θ (r.id i)).2+r.u7 i)=_
   grind
  ·show E.κ (r.id i)-r.u7 i=_
   grind
theorem lM.low {K:Nat} {E:En} {c:CS} {a:Act} {w:World} {ρ':Nat->Int} (hc:wb K c=true) (hρ: ∀i,i<K->ρ' i=E.ρ i) (t:lM B E c.st a w):lM B { E with ρ:=ρ' } c.st a w:=
 ⟨t.fit.low hc hρ,t.ro,t.sO,t.NN,t.own,t.inx,t.tX⟩
def mV.out (B:mV) (ys:List Int) (ro:Nat->Prop):En:={ ρ:=low ys,θ:=B.θ,κ:=B.κ,dm:=fun i=>i<B.m,ro:=ro }
def QE (B:mV) (lY:List RK) (ez:List dX) (ko:Nat) (ys:List Int) (e:Ending) (w':World):Prop:=
 ∃u,e= .returned u/\Bel B w'/\∃n6:Nat->Prop,(∀b,B.ro b->n6 b)/\(∀b,n6 b->B.ro b\/B.w0.heap.size<=b)/\(∀b,n6 b->b<w'.heap.size)/\(∀i,i<B.m->¬n6 (B.θ i).1)/\
  (∀i o,ez[i]?=some o->OR (B.out ys n6) w'.heap i o)/\abe lY (ys.drop ko) n6 w'.heap u
def T4 (us:List Value):Value:=if h:us.toArray.size=1 then us.toArray[0] else .tuple us.toArray
def QR (B:mV) (pG:List CS) (ys:List Int) (e:Ending) (w':World):Prop:=
 ∃(us:List Value) (i:Nat) (c:CS) (E':En),e= .returned (T4 us)/\Bel B w'/\pG[i]?=some c/\ys[0]?=some (i:Int)/\ys.length=c.k+1/\(∀a x,ys[a+1]?=some x->E'.ρ a=x)/\us.length=c.bG.length/\
  wv E' c.st { tmps:=us.toArray,defers:=[] } w'/\(∀b,B.ro b->E'.ro b)/\(∀b,E'.ro b->B.ro b\/B.w0.heap.size<=b)/\(∀i,i<B.m->i<c.dI.length/\E'.dm i/\E'.θ i=B.θ i/\E'.κ i=B.κ i)/\(∀id o,c.st.h.get id=some o->B.m<=id->B.w0.heap.size<=(E'.θ id).1)
def QX (B:mV) (lY:List RK) (ez:List dX) (ko:Nat) (pG:List CS) (ys:List Int):Ending->World->Prop:=match pG with
 |[]=>QE B lY ez ko ys
 |c::l=>QR B (c::l) ys
structure P7 [bJ] (P:Program) (g:uJ) (rF:Nat->List Oper->Bool):Prop where
 tt:eJ P g.tt
 call:iY P g.call
 draw:wx P rF g.draw
theorem tc {rF:Nat->List Oper->Bool} {N:Nat} {body:Code} (h:kN rF N body=true): ∀(p:List Nat) {c:Code} {fr:List FrE},pz body p=some (c,fr)->kN rF N c=true
 |[],c,fr,W=>by
  grind [pz]
 |d::p,c,fr,W=>by
  simp only [pz] at W;split at W
  ·rename_i a b YZ hp;have:=tc h p hp
   grind [kN]
  ·rename_i id b YZ hp;have:=tc h p hp
   grind [kN]
  ·rename_i v a b YZ hp;have:=tc h p hp
   grind [kN]
  ·rename_i b YZ hp;have:=tc h p hp
   grind [kN]
  ·rename_i b YZ hp;have:=tc h p hp
   grind [kN]
  grind
theorem wR {body:Code}: ∀(p:List Nat) {c:Code} {fr:List FrE},pz body p=some (c,fr)->Gb body fr
 |[],c,fr,h=>by simp only [pz,an,aq] at h;rw [<- h.2]; trivial
 |d::p,c,fr,h=>by
  have h0:=h;simp only [pz] at h;split at h
  ·rename_i a b YZ hp;have ih:=wR p hp;split at h
   ·simp only [an,aq] at h;obtain⟨rfl,rfl⟩:=h;refine⟨?_,ih⟩;simp only [pz,hp]
   grind
  ·rename_i id b YZ hp;have ih:=wR p hp;simp only [an,aq] at h;rw [<- h.2]; exact ih
  ·rename_i v a b YZ hp;have ih:=wR p hp
   grind
  ·rename_i b YZ hp;have ih:=wR p hp;simp only [an,aq] at h;rw [<- h.2];exact⟨hp,ih⟩
  ·rename_i b YZ hp;have ih:=wR p hp;simp only [an,aq] at h;rw [<- h.2]; exact ih
  grind
def Nx (F:oR) (ρ:Nat->Int) (ys:List Int):Lf->Prop
 | .out es=>es.map (V.den ρ)=ys
 | .jump j es=>F j (es.map (V.den ρ))=some ys
def y! [bJ] (P:Program) (body:Code) (N:Nat) (B:mV) (Q:Exit->Act->World->Prop) (F:oR) (ys:List Int) (fB:C2):Prop:=
 ∀p l,fB p=some l->∃b fr,pz body p=some (.loop b,fr)/\∀j c,(j,c)∈l->∀E a w,lM B E c.st a w->bJ.ok E.ρ E.ro w.heap->(∃xs:List Int,(∀i x,xs[i]?=some x->E.ρ i=x)/\xs.length=c.k/\c.k<=900/\F j xs=some ys)->N<=a.tmps.size->a.defers= []->Ga P b (KE P Q fr) a w
theorem n9 (g:Tr V): ∀(n i:Nat),(yr g n i).length=n
 |0,_=>rfl
 |n+1,i=>by simp only [yr];split<;>simp [n9 g n (i+1)]
theorem tZ (m:Nat) (c:CS) (s:St):(c.j6 m s).ns.length=c.k:=by
 grind [CS.j6,n9]
theorem Ae: ∀(n i:Nat) (ns:List V),(Cz n i ns).length=ns.length
 |0,_,_=>rfl
 |_+1,_,[]=>rfl
 |n+1,i,_::ns=>by simp only [Cz,aQ,Ae n (i+1) ns]
theorem vT (iQ:Nat) (r:Ren):(r4 iQ r).ns.length=r.ns.length:=by
 unfold r4
 grind [Ae]
theorem IN {α:Type} {k:St->T α} {E:En} {a:Act} {w:World} {x:α}: ∀{ts:List (Nat×Nat)} {s:St},(NY k ts s).leaf E.ρ=some x->lM B E s a w->∃s',lM B E s' a w/\(k s').leaf E.ρ=some x
 |[],s,h,t=> ⟨s,t,h⟩
 |(i,g)::ts,s,h,t=>by
  simp only [NY] at h;split at h
  ·obtain⟨ew,fQ,U⟩:=cR t.fit.pc h;exact IN U (t.pc fQ)
  ·exact IN h t
theorem wT [bJ] {iQ:Nat} {F:oR} {ys:List Int} {body:Code} {N:Nat} {Q:Exit->Act->World->Prop} {fB:C2} (hj:y! P body N B Q F ys fB) {p:List Nat} {l0:List (Nat×CS)} (hp:fB p=some l0) {b:Code} {fr:List FrE} (W:pz body p=some (.loop b,fr)) :
 ∀{l:List (Nat×CS)} {s:St} {lf:Lf} {E:En} {a:Act} {w:World},(∀x∈l,x∈l0)->(rO B.m iQ s l).leaf E.ρ=some lf->Nx F E.ρ ys lf->lM B E s a w->bJ.ok E.ρ E.ro w.heap->N<=a.tmps.size->a.defers= []->Ga P b (KE P Q fr) a w
 |[],s,lf,E,a,w,_,h,_,_,_,_,_=>by simp [rO,T.leaf] at h
 |(j,c)::l,s,lf,E,a,w,oC,h,rP,t,hg,hN,hd=>by
  simp only [rO] at h;split at h
  ·exact wT hj hp W (fun x hx=>oC x (by simp [hx])) h rP t hg hN hd
  ·split at h
   ·rename_i hf;have:=bE h;subst this;simp only [au] at hf;obtain⟨hle,t'⟩:=t.fits hg hf.1 hf.2;obtain⟨b',YZ,yS,hh⟩:=hj p l0 hp;rw [W] at yS;simp only [an,aq,Code.loop.injEq] at yS;obtain⟨rfl,rfl⟩:=yS;have pK:(r4 iQ (c.j6 B.m s)).ns.length=c.k:=by rw [vT,tZ]
    refine hh j c (oC _ ad) (E.ig (r4 iQ (c.j6 B.m s))) a w t' (bJ.ig hg fun i hi=>Ren.ml hle hi) ⟨(r4 iQ (c.j6 B.m s)).ns.map (V.den E.ρ),fun i x hi=>?_,by simp [pK],by rw [<- pK]; exact hle,rP⟩ hN hd;rw [bp,aZ] at hi;obtain⟨e,he,rfl⟩:=hi;show (r4 iQ (c.j6 B.m s)).env E.ρ i=_
    grind [Ren.env,dC]
   ·exact wT hj hp W (fun x hx=>oC x (by simp [hx])) h rP t hg hN hd
theorem xh {α:Type} {k:St->T α} {E:En} {a:Act} {w:World} {x:α}: ∀{ts:List Nat} {s:St},(we k ts s).leaf E.ρ=some x->lM B E s a w->∃s',lM B E s' a w/\(k s').leaf E.ρ=some x
 |[],s,h,t=> ⟨s,t,h⟩
 |i::ts,s,h,t=>by
  simp only [we] at h;split at h
  ·rename_i c hc;obtain⟨ew,fQ,U⟩:=cR t.fit.pc h;refine xh U ⟨⟨t.fit.fresh,t.fit.res,t.fit.live,t.fit.inj,t.fit.sq,fun j v hj=>?_,fQ,t.fit.hid⟩,t.ro,t.sO,t.NN,t.own,t.inx,t.tX⟩;simp only at hj;rw [Tr.bU] at hj;split at hj
   ·rename_i he;subst he;simp only [an] at hj;subst hj;obtain⟨u,Z,h3⟩:=t.fit.sr _ _ hc;refine⟨u,Z,?_⟩;simp only [VR] at h3 ⊢;rw [h3];rfl
   ·exact t.fit.sr j v hj
  ·exact xh h t
theorem Uh (g:uJ) (h:Hp):(ij g h).ns.length=g.ko/\(ij g h).bl=List.range g.ez.length/\(ij g h).sh= []:=by
 grind [ij,n9]
def nfs:List dX->Bool
 |[]=>true
 |o::l=>nf o&&nfs l
theorem Jk: ∀{l:List dX},nfs l=true->∀{i:Nat} {o:dX},l[i]?=some o->nf o=true
 |[],_,_,_,h=>by simp at h
 |o0::l,hs,i,o,h=>by
  simp only [nfs,au] at hs
  cases i with
  |zero=>simp at h; rw [<- h]; exact hs.1
  |succ i=>exact Jk hs.2 (by simpa using h)
def ny (K:Nat):List dX->Bool
 |[]=>true
 |o::l=>nf o&&(xH K o&&ny K l)
theorem nw {K:Nat}: ∀{l:List dX},ny K l=true->∀{i:Nat} {o:dX},l[i]?=some o->nf o=true/\xH K o=true
 |[],_,_,_,h=>by simp at h
 |o0::l,hs,i,o,h=>by
  simp only [ny,au] at hs
  cases i with
  |zero=>simp at h; rw [<- h]; exact⟨hs.1,hs.2.1⟩
  |succ i=>exact nw hs.2.2 (by simpa using h)
theorem DB {n m iQ:Nat} {s:St} {ρ:Nat->Int} {lf:Lf}: ∀{l:List CS} {k:Nat},(MJ n m iQ s l k).leaf ρ=some lf->∃i c,l[i-k]?=some c/\(c.fits A_ s (r4 iQ (c.j6 m s))=true/\EK m (r4 iQ (c.j6 m s))=true)/\n=c.bG.length/\lf= .out (.lit (i:Int)::(r4 iQ (c.j6 m s)).ns)/\k<=i
 |[],k,h=>by simp [MJ,T.leaf] at h
 |c::l,k,h=>by
  simp only [MJ] at h;split at h
  ·obtain⟨i,c',q1,q2,q3,q4,q5⟩:=DB h
   grind
  ·rename_i hq;simp only [au] at hq;split at h
   ·rename_i hf;have:=bE h;simp only [au] at hf;exact⟨k,c,ad,hf,az hq.2,this.symm,ay _⟩
   ·obtain⟨i,c',q1,q2,q3,q4,q5⟩:=DB h
    grind
theorem KJ {E E':En} {h h':Array Obj} (kp:fU E h E' h'): ∀{xs:List Y} {us:List Value} {i:Nat} {x:Y},cJ E h xs us->xs[i]?=some x->∃u,VR E h x u/\∀x',VR E' h' x' u->cJ E' h' (xs.set i x') us
 |[],us,i,x,_,hx=>by simp at hx
 |y::ys,us,0,x,hv,hx=>by rw [bX] at hv;obtain⟨u,vs,rfl,a,b⟩:=hv;simp only [aL,an] at hx;subst hx;refine⟨u,a,fun x' Vq=>?_⟩;rw [am3,bX];exact⟨u,vs,rfl,Vq,cJ.cD kp _ _ b⟩
 |y::ys,us,i+1,x,hv,hx=>by rw [bX] at hv;obtain⟨u,vs,rfl,a,b⟩:=hv;rw [aM] at hx;obtain⟨u',U,Z⟩:=KJ kp b hx;refine⟨u',U,fun x' Vq=>?_⟩;rw [am4,bX];exact⟨u,vs,rfl,VR.cD kp _ _ a,Z x' Vq⟩
theorem JQ [bJ] {α:Type} {ρ:Nat->Int} {w:World} {us:List Value} {k:List Y->St->T α} {x:α}: ∀{fz:List (Nat×Nat×Nat)} {vs:List Y} {s:St} {E:En},E.ρ=ρ->bS E s.h w->ca ρ s.pc->cJ E w.heap vs us->(Mk fz vs s k).leaf ρ=some x->
 ∃NC h' ew E',ca ρ ew/\K2 E w s.h E' h'/\cJ E' w.heap NC us/\(k NC { s with h:=h',pc:=ew }).leaf ρ=some x
 |[],vs,s,E,hρ,r,hp,hv,h=> ⟨vs,s.h,s.pc,E,hp,K2.refl r,hv,h⟩
 |(i,f,t)::l,vs,s,E,hρ,r,hp,hv,h=>by
  simp only [Mk] at h;split at h
  ·rename_i xs hi;split at h
   ·rename_i y hy;rw [dC] at hi hy;obtain⟨y',U,fW,E1,fL,f1,q1,g1⟩:=JP hρ r hp h;have kp:=f1.ei.keeps r;obtain⟨u,a,b⟩:=KJ kp hv hi;simp only [VR] at a;obtain⟨ws,rfl,a⟩:=a;obtain⟨u2,a2,b2⟩:=KJ kp a hy;split at g1
    ·rename_i e he;have hc:=lL (q1 _ a2) he
     have hv1:cJ E1 w.heap (vs.set i (.agg (xs.set f (.eD e t)))) us:=by refine b _ ?_;simp only [VR];exact⟨ws,rfl,b2 _ (by simp only [VR]; exact hc)⟩
     obtain⟨vs2,Z,kz,E2,kg,f2,q2,g2⟩:=JQ (s:={ s with h:=U,pc:=fW }) (f1.ρ.trans hρ) f1.rel fL hv1 g1;exact⟨vs2,Z,kz,E2,kg,f1.trans f2,q2,g2⟩
    grind [T.leaf]
   grind [T.leaf]
  grind [T.leaf]
theorem aaF [bJ] {g:uJ} {rF:Nat->List Oper->Bool} (hg:P7 P g rF) {fn:Func} (yz:g.res=fn.results.toList) (hm:g.ez.length=B.m) (oU:ny g.ko g.ez=true) (C':g.ko<=900) {e:Ex} {s:St} {lf:Lf} {E:En} {a:Act} {w:World} {F:oR} {ys:List Int} (h:(Zi g e s).leaf E.ρ=some lf) (rP:Nx F E.ρ ys lf)
 (t:lM B E s a w) (pK:bJ.ok E.ρ E.ro w.heap) (hd:a.defers= []):bodyPost P fn (QX B g.lY g.ez g.ko g.pG ys) (yd e) a w:=by
 have fit:=t.fit.fit pK
 have key: ∀{x:T Lf},x=(match lI g.tt s g.res with
  |none=>T.fail
  |some vs=>match g.pG with
   |[]=>match cellsOf g.lY vs with
    |none=> .fail
    |some cells=>xS cells s fun cells s=>match Bj (ij g s.h) g.ez.length s.h g.ez 0 with
     |true=>outs (px g.lY) cells s fun es _=> .ret (.out ((ij g s.h).ns++es))
     |false=> .fail
   |c::l=>Mk g.fz vs s fun vs s=>MJ vs.length g.ez.length g.iQ ⟨cC vs 0 .nil,s.h,s.pc⟩ (c::l) 0)->x.leaf E.ρ=some lf->∃v,(results fn a.tmps).run P w= .ok v w/\QX B g.lY g.ez g.ko g.pG ys (.returned v) w:=by
  intro x hx W;subst hx;split at W
  ·simp [T.leaf] at W
  ·rename_i vs hr;rw [yz] at hr;obtain⟨us,g1,g2⟩:=uq hg.tt fit hr
   have mD:(results fn a.tmps).run P w= .ok (T4 us) w:=by
    have hm:(fn.results.mapM (vt a)).run P w= .ok us.toArray w:=by rw [aol];simp_all
    have hr2:results fn a.tmps=(do let vs <- fn.results.mapM (vt a); pure (if h:vs.size=1 then vs[0] else .tuple vs)):=rfl;rw [hr2];simp only [Sem.run_bind,hm];rfl
   split at W
   ·rename_i Bt;split at W
    ·simp [T.leaf] at W
    ·rename_i cells hc;rw [Bt];show ∃v,_/\QE B g.lY g.ez g.ko ys (.returned v) w;obtain⟨fl,sh,hv2⟩:=og g2 hc;obtain⟨aga,U,pcF,E1,hpF,f,hfr,W⟩:=qu rfl fit.rel fit.pc W;have hv3:=hfr _ hv2;have s1:=f.ei;have r1:=f.rel;split at W
     ·rename_i Gf;have hρ:=f.ρ;rw [<- hρ] at W rP hpF;obtain⟨es,fW,fL,q1,q2⟩:=Df (s:={ s with h:=U,pc:=pcF }) hpF hv3 W;have:=bE q2;subst this;simp only [Nx] at rP;obtain⟨n1,n2,n3⟩:=Uh g U
      have ER:ys.drop g.ko=es.map (V.den E1.ρ):=by
       grind
      have akZ: ∀i,i<g.ko->low ys i=(ij g U).env E1.ρ i:=by
       intro i hi
       grind [ij,low,Ren.env,dC]
      have amf: ∀i,i<B.m->E1.dm i/\E1.θ i=B.θ i/\E1.κ i=B.κ i:=by intro i hi;obtain⟨U,Z,h3⟩:=t.inx i hi;exact⟨s1.dm i U,by rw [s1.θ i U]; exact Z,by rw [s1.κ i U]; exact h3⟩
      have akV: ∀i,i<g.ez.length->(ij g U).id i=i:=by
       intro i hi
       grind [Ren.id,dC]
      have Ut: ∀i,(ij g U).u7 i=0:=by intro i;unfold Ren.u7;rw [n3];rfl
      have zS: ∀i,i<B.m->¬E1.ro (B.θ i).1:=by
       intro i hi;have gu:i<g.ez.length:=J
       obtain⟨o',q3,_,_⟩:=jx Gf (aT gu);rw [aK,akV i gu] at q3;have:=(r1.live i o' q3).2.2
       grind
      refine⟨T4 us,mD,_,rfl,t.NN,E1.ro,fun b hb=>s1.ro b (t.ro b hb),fun b hb=>?_,r1.sq,zS,fun i o hi=>?_,us,fl,sh,by rw [ER]; exact q1,rfl⟩
      ·have key:B.ro b\/B.w0.heap.size<=b\/B.fp b:=by
        rcases s1.sO b hb with h|⟨id,o,U,Z⟩|h
        ·exact t.sO b h
        ·rw [<- Z]; exact .inr (t.own id o U)
        ·exact .inr (.inl (bq t.NN.size h))
       rcases key with h|h|⟨i,hi,he⟩
       ·exact .inl h
       ·exact .inr h
       ·exact absurd hb (by rw [<- he]; exact zS i hi)
      ·have dU:=(bk.1 hi).1;obtain⟨o',q3,q4,q5⟩:=jx Gf hi;rw [aK] at q3 q5;have ho:=(r1.live _ o' q3).2.1;have ho2:=OR.ig (E:=E1) (r:=ij g U) J (id:=i) (by rw [n2,List.length_range]; exact q4) q5 ho
       have kp:fU (E1.ig (ij g U)) w.heap { ρ:=(ij g U).env E1.ρ,θ:=B.θ,κ:=B.κ,dm:=fun i=>i<B.m,ro:=E1.ro } w.heap:=by
        have hd: ∀id,(E1.ig (ij g U)).dm id->id<g.ez.length:=by
         intro id hh;have:=hh.1
         grind
        refine⟨rfl,fun id hh=>by have:=hd id hh; show id<B.m; omega,fun id hh=>?_,fun id hh=>?_,fun _ h=>h,fun _ _=>rfl⟩
        ·have:=hd id hh;show B.θ id=((E1.θ ((ij g U).id id)).1,(E1.θ ((ij g U).id id)).2+(ij g U).u7 id)
         grind
        ·have:=hd id hh;show B.κ id=E1.κ ((ij g U).id id)-(ij g U).u7 id
         grind
       have aiJ:(E1.ig (ij g U)).dm i:=by
        refine⟨by rw [n2,List.length_range]; exact dU,?_⟩
        grind
       have hθi:(E1.ig (ij g U)).θ i=B.θ i:=(kp.θ i aiJ).symm;have ho3:=OR.ab7 kp aiJ rfl (nw oU hi).1 ho2;exact OR.low (K:=g.ko) (E:={ ρ:=(ij g U).env E1.ρ,θ:=B.θ,κ:=B.κ,dm:=fun i=>i<B.m,ro:=E1.ro }) (E':=B.out ys E1.ro) akZ rfl rfl rfl rfl (nw oU hi).2 ho3
     ·simp [T.leaf] at W
   ·rename_i c0 l0 Bt
    have hq:QR B (c0::l0) ys (.returned (T4 us)) w:=by
     obtain⟨V9,U,fW,E1,fL,f1,g2,W⟩:=JQ rfl fit.rel fit.pc g2 W;have pK:=f1.rel.ku
     have t0:lM B E1 ⟨cC V9 0 .nil,U,fW⟩ { tmps:=us.toArray,defers:=[] } w:=by have sr1:=zL g2 0;exact t.step (s':=⟨cC V9 0 .nil,U,fW⟩) f1.ei ⟨f1.rel,by simpa using sr1,by rw [f1.ρ]; exact fL⟩
     rw [<- f1.ρ] at W rP;obtain⟨i,c,q1,⟨q2,q2'⟩,q3,q4,_⟩:=DB W;rw [hm] at q2 q2' q4;obtain⟨hle,t1⟩:=t0.fits pK q2 q2';rw [q4] at rP;simp only [Nx,aH] at rP;subst rP
     have nS:(r4 g.iQ (c.j6 B.m ⟨cC V9 0 .nil,U,fW⟩)).bl.length=c.dI.length:=by simp_all [CS.fits]
     have AU: ∀i,i<B.m->i<c.dI.length:=fun i hi=>by rw [<- nS]; exact (EJ q2' i hi).1
     have zS: ∀i,i<B.m->∃o,c.st.h.get i=some o:=by
      intro i hi;have JF:=AU i hi;refine⟨c.dI[i],?_⟩;show (oX c.dI 0 .nil).get i=_
      grind [j5]
     have hfp: ∀b,B.fp b->¬(E1.ig (r4 g.iQ (c.j6 B.m ⟨cC V9 0 .nil,U,fW⟩))).ro b:=by
      rintro b ⟨i,hi,rfl⟩ hb;obtain⟨o,ho⟩:=zS i hi;have:=(t1.fit.live i o ho).2.2;rw [(t1.inx i hi).2.1] at this
      grind
     refine⟨us,i,c,E1.ig (r4 g.iQ (c.j6 B.m ⟨cC V9 0 .nil,U,fW⟩)),rfl,t.NN,by simpa using q1,by simp [V.den],by simp [vT,tZ],fun a x ha=>?_,by rw [<- q3,g2.length],t1.fit,t1.ro,fun b hb=>?_,fun i hi=> ⟨AU i hi,t1.inx i hi⟩,fun id o ho hid=>?_⟩
     ·simp only [aM,bp,aZ] at ha;obtain⟨e,he,rfl⟩:=ha;show (r4 g.iQ (c.j6 B.m ⟨cC V9 0 .nil,U,fW⟩)).env E1.ρ a=_
      grind [Ren.env,dC]
     ·rcases t1.sO b hb with h|h|h
      all_goals grind
     ·rcases t1.own id o ho with h|⟨i,hi,he⟩
      ·exact h
      ·obtain⟨o',zQ⟩:=zS i hi;rw [<- (t1.inx i hi).2.1] at he;have:=t1.fit.inj i id o' o zQ ho he;omega
    exact⟨T4 us,mD,by rw [Bt]; exact hq⟩
 unfold Zi at h
 cases e with
 |exit id=>simp [T.leaf] at h
 |normal=>exact⟨hd,key rfl h⟩
 |ret=>exact⟨hd,key rfl h⟩
theorem Gp {P:Program} {Q:Exit->Act->World->Prop} {e:Ex} {a:Act} {w:World} (h:Q (yd e) a w):Exit.noGoto Q (yd e) a w:=by cases e<;>exact h
theorem lM.view [bJ] {E E':En} {s:St} {a:Act} {w:World} {h':Hp} {ew:List (SB×Bool)} (hm:B.m=0) (t:lM B E s a w) (v:View E s.h w E' h') (hp:ca E.ρ ew):lM B E' { s with h:=h',pc:=ew } a w:=by
 have hold: ∀b,abc E s.h b->B.w0.heap.size<=b:=by
  rintro b (⟨id,o,U,Z⟩|⟨x,U⟩)
  ·rcases t.own id o U with h|⟨i,hi,_⟩
   ·rw [Z] at h; exact h
   ·omega
  ·exact t.tX b x U
 refine⟨⟨v.rel.fresh,v.rel.res,v.rel.live,v.rel.inj,v.rel.sq,fun i x hi=>?_,by rw [v.kp.ρ]; exact hp,v.rel.hid⟩,fun b hb=>v.kp.ro b (t.ro b hb),fun b hb=>?_,t.NN,fun id o ho=> .inl (hold _ (v.hold _ (.inl ⟨id,o,ho,rfl⟩))),fun i hi=>by omega,fun b x hb=>hold _ (v.hold _ (.inr ⟨x,hb⟩))⟩
 ·obtain⟨u,U,Z⟩:=t.fit.sr i x hi;exact⟨u,U,VR.cD v.kp _ _ Z⟩
 ·rcases v.sO b hb with h|h
  ·exact t.sO b h
  ·exact .inr (.inl (hold b h))
def tl [bJ] {α:Type} (B:mV) (a:Act) (w:World) (f:St->(St->T α)->T α):Prop:= ∀(k:St->T α) (E:En) (s:St) (x:α),lM B E s a w->bJ.ok E.ρ E.ro w.heap->(f s k).leaf E.ρ=some x->∃E' s',E'.ρ=E.ρ/\lM B E' s' a w/\bJ.ok E'.ρ E'.ro w.heap/\(k s').leaf E.ρ=some x
theorem TE [bJ] {α:Type} {a:Act} {w:World} (hm:B.m=0) (id:Nat) (y:V):tl (α:=α) B a w (aav id y):=by intro k E s x t hg h;obtain⟨h',ew,E',hp,v,g⟩:=aau rfl (t.fit.fit hg).rel t.fit.pc h;exact⟨E',_,v.kp.ρ,t.view hm v hp,v.rel.ku,g⟩
theorem TC [bJ] {α:Type} {a:Act} {w:World} (hm:B.m=0) (id:Nat):tl (α:=α) B a w (W_ id):=by intro k E s x t hg h;obtain⟨h',ew,E',hp,v,g⟩:=V? rfl (t.fit.fit hg).rel t.fit.pc h;exact⟨E',_,v.kp.ρ,t.view hm v hp,v.rel.ku,g⟩
theorem sB [bJ] {α:Type} {a:Act} {w:World}:tl (α:=α) B a w (fun s k=>k s):=fun _ E s _ t hg h=> ⟨E,s,rfl,t,hg,h⟩
theorem tl.then [bJ] {α:Type} {a:Act} {w:World} {f f':St->(St->T α)->T α} (U:tl B a w f) (Z:tl B a w f'):tl B a w (fun s k=>f s fun s=>f' s k):=by intro k E s x t hg h;obtain⟨E1,s1,e1,t1,g1,q1⟩:=U _ E s x t hg h;rw [<- e1] at q1;obtain⟨E2,s2,e2,t2,g2,q2⟩:=Z _ E1 s1 x t1 g1 q1;exact⟨E2,s2,e2.trans e1,t2,g2,by rw [<- e1]; exact q2⟩
theorem ye [bJ] {α:Type} {a:Act} {w:World} (hm:B.m=0) (y:V): ∀l:List Nat,tl (α:=α) B a w (JS y l)
 |[]=>sB
 |i::l=>(TE hm i y).then (ye hm y l)
theorem DP [bJ] {α:Type} {a:Act} {w:World} (hm:B.m=0): ∀l:List Nat,tl (α:=α) B a w (Ox l)
 |[]=>sB
 |i::l=>(TC hm i).then (DP hm l)
theorem TD [bJ] {α:Type} {a:Act} {w:World} (i:Nat):tl (α:=α) B a w (afF i):=by
 intro k E s x t hg h;unfold afF at h;split at h
 ·rename_i v hv;have fit:=t.fit.fit hg;obtain⟨v',h',ew,E',hp,f,hfr,g⟩:=JP rfl fit.rel fit.pc h;refine⟨E',_,f.ρ,t.step f.ei ⟨f.rel,fun j y hj=>?_,by rw [f.ρ]; exact hp⟩,f.rel.ku,g⟩;obtain⟨u,hu,hvu⟩:=fit.sr i v hv;simp only [Tr.bU] at hj;split at hj
  ·rename_i he;subst he;simp only [an] at hj;subst hj;exact⟨u,hu,hfr u hvu⟩
  ·exact SR.cD (f.ei.keeps fit.rel) fit.sr j y hj
 ·exact⟨E,s,rfl,t,hg,h⟩
theorem DR [bJ] {α:Type} {a:Act} {w:World} (hm:B.m=0) (r:Nat): ∀l:List FH,tl (α:=α) B a w (Gw r l)
 |[]=>sB
 |h0::l=>by
  have ih:=DR (α:=α) (a:=a) (w:=w) hm r l;intro k E s x t hg h;simp only [Gw] at h;split at h
  ·exact ih k E s x t hg h
  ·split at h
   ·split at h
    ·exact ((TD _).then ih) k E s x t hg h
    ·exact ih k E s x t hg h
   ·split at h
    ·exact ((ye hm _ _).then ih) k E s x t hg h
    ·split at h
     ·exact ih k E s x t hg h
     ·obtain⟨ew,fQ,U⟩:=cR t.fit.pc h;split at U
      ·exact ((ye hm _ _).then ih) k E _ x (t.pc fQ) hg U
      ·exact ih k E _ x (t.pc fQ) hg U
theorem E7 {g:uJ} (h:H6 g=true):g.ez= []/\g.pG= []:=by
 unfold H6 at h;split at h
 ·simp at h
 ·split at h
  ·rename_i U;split at h
   ·rename_i Z;exact⟨U,Z⟩
   ·simp at h
  ·simp at h
theorem N4 [bJ] {α:Type} {a:Act} {w:World} {g:uJ} (hm:g.ez.length=B.m) (c:Code):tl (α:=α) B a w (UG g c):=by
 intro k E s x t hg h;unfold UG at h;split at h
 ·rename_i he;rw [(E7 he).1] at hm;split at h
  ·exact DR hm.symm _ _ k E s x t hg h
  ·exact sB k E s x t hg h
 ·exact sB k E s x t hg h
theorem DQ [bJ] {α:Type} {a:Act} {w:World} {g:uJ} (hm:g.ez.length=B.m):tl (α:=α) B a w (Uc g):=by
 intro k E s x t hg h;unfold Uc at h;split at h
 ·rename_i he;rw [(E7 he).1] at hm;exact DP hm.symm _ k E s x t hg h
 ·exact sB k E s x t hg h
theorem JM [bJ] {g:uJ} {rF:Nat->List Oper->Bool} (hg:P7 P g rF) {body:Code} {N:Nat} (hd:kN rF N body=true) {fn:Func} (yz:g.res=fn.results.toList) (hm:g.ez.length=B.m) (oU:ny g.ko g.ez=true) (C':g.ko<=900) {F:oR} {ys:List Int} {fB:C2}
 (hj:y! P body N B (bodyPost P fn (QX B g.lY g.ez g.ko g.pG ys)) F ys fB): ∀n:Nat,
 (∀p c fr s lf E a w,pz body p=some (c,fr)->(xw g fB n p c fr s).leaf E.ρ=some lf->Nx F E.ρ ys lf->lM B E s a w->bJ.ok E.ρ E.ro w.heap->N<=a.tmps.size->a.defers= []->c.wp P (KE P (bodyPost P fn (QX B g.lY g.ez g.ko g.pG ys)) fr) a w)/\
 (∀fr e s lf E a w,Gb body fr->(ub g fB n fr e s).leaf E.ρ=some lf->Nx F E.ρ ys lf->lM B E s a w->bJ.ok E.ρ E.ro w.heap->N<=a.tmps.size->a.defers= []->KE P (bodyPost P fn (QX B g.lY g.ez g.ko g.pG ys)) fr (yd e) a w)
 |0=> ⟨fun _ _ _ _ _ _ _ _ _ h=>by simp [xw,T.leaf] at h,fun _ _ _ _ _ _ _ _ h=>by simp [ub,T.leaf] at h⟩
 |n+1=>by
  obtain⟨Vp,Ge⟩:=JM hg hd yz hm oU C' hj n
  have leaf: ∀p c fr s lf E a w,pz body p=some (c,fr)->(UG g c s fun s=>(g.ev c s).bind fun (e,s')=>ub g fB n fr e s').leaf E.ρ=some lf->Nx F E.ρ ys lf->lM B E s a w->bJ.ok E.ρ E.ro w.heap->N<=a.tmps.size->a.defers= []->c.wp P (KE P (bodyPost P fn (QX B g.lY g.ez g.ko g.pG ys)) fr) a w:=by intro p c fr s lf E0 a w W h rP t pK hN Dq;obtain⟨E,s,hE,t,pK,h⟩:=N4 hm c _ E0 s lf t pK h;rw [<- hE] at h rP;obtain⟨⟨e,s'⟩,U,Z⟩:=T.fD h;refine wp_mono (lJ hg.tt hg.call hg.draw c (tc hd p W) E s s' e a w hN (t.fit.fit pK) U) fun x a' w' ⟨hx,ht⟩=>?_;subst hx;obtain⟨E',t',hρ,hg'⟩:=t.then ht;exact Ge fr e s' lf E' a' w' (wR p W) (by rw [hρ]; exact Z) (by rw [hρ]; exact rP) t' hg' (by rw [ht.size]; exact hN) (by rw [ht.defers,Dq])
  constructor
  ·intro p c fr s lf E a w W h rP t pK hN Dq;simp only [xw] at h;split at h
   ·rename_i l Mg;obtain⟨E1,s1,hE,t,pK,h⟩:=DQ hm _ E s lf t pK h;rw [<- hE] at h rP;obtain⟨b,YZ,yS,_⟩:=hj p l Mg;rw [W] at yS;simp only [an,aq] at yS;obtain⟨rfl,rfl⟩:=yS;obtain⟨s',t',h'⟩:=xh h t;exact OH (wT hj Mg W (fun _ hx=>hx) (by rw [<- hm]; exact h') rP t' pK hN Dq)
   ·cases c with
    |seq x y=> simp only at h;refine wp_seq ?_;exact Vp (0::p) x (.seq (1::p) y::fr) s lf E a w (by simp only [pz,W]) h rP t pK hN Dq
    |block id b=> simp only at h;refine wp_block ?_;exact Vp (0::p) b (.block id::fr) s lf E a w (by simp only [pz,W]) h rP t pK hN Dq
    |scope b=> simp only at h;refine wp_scope_straight ?_;exact Vp (0::p) b (.scope::fr) s lf E a w (by simp only [pz,W]) h rP t pK hN Dq
    |cond v x y=>
     simp only at h;split at h
     ·rename_i c hv;obtain⟨ew,fQ,U⟩:=cR t.fit.pc h;have hvr:=gC t.fit.sr hv;simp only [VR] at hvr;refine wp_cond hvr ?_
      cases RW:c.den E.ρ with
      |true=> rw [RW] at U;simp only at U;exact Vp (0::p) x fr _ lf E a w (by simp only [pz,W]) U rP (t.pc fQ) pK hN Dq
      |false=> rw [RW] at U;simp only at U;exact Vp (1::p) y fr _ lf E a w (by simp only [pz,W]) U rP (t.pc fQ) pK hN Dq
     grind [T.leaf]
    |_=>simp only at h; exact leaf p _ fr s lf E a w W h rP t pK hN Dq
  ·intro fr e s lf E a w hf h rP t pK hN Dq
   cases fr with
   |nil=> simp only [ub] at h;exact aaF hg yz hm oU C' h rP t pK Dq
   |cons f fr=>
    cases f with
    |seq p c=>
     simp only [ub] at h;obtain⟨W,O0⟩:=hf
     cases e with
     |normal=>exact Vp p c fr s lf E a w W h rP t pK hN Dq
     |exit id=>exact Ge fr (.exit id) s lf E a w O0 h rP t pK hN Dq
     |ret=>exact Ge fr .ret s lf E a w O0 h rP t pK hN Dq
    |block id=>
     simp only [ub] at h;have O0:Gb body fr:=hf
     cases e with
     |normal=>exact Ge fr .normal s lf E a w O0 h rP t pK hN Dq
     |ret=>exact Ge fr .ret s lf E a w O0 h rP t pK hN Dq
     |exit j=>
      simp only at h;show (if j=id then _ else _);split at h
      ·rename_i YD;rw [ak (az YD)];exact Ge fr .normal s lf E a w O0 h rP t pK hN Dq
      ·rename_i YD;rw [ah (anf YD)];exact Ge fr (.exit j) s lf E a w O0 h rP t pK hN Dq
    |loop p b=>
     simp only [ub] at h;obtain⟨W,O0⟩:=hf
     cases e with
     |normal=>
      simp only at h;split at h
      ·rename_i l Mg;obtain⟨E1,s1,hE,t,pK,h⟩:=DQ hm _ E s lf t pK h;rw [<- hE] at h rP;obtain⟨s',t',h'⟩:=xh h t;exact wT hj Mg W (fun _ hx=>hx) (by rw [<- hm]; exact h') rP t' pK hN Dq
      grind [T.leaf]
     |exit id=>exact Ge fr (.exit id) s lf E a w O0 h rP t pK hN Dq
     |ret=>exact Ge fr .ret s lf E a w O0 h rP t pK hN Dq
    |scope=> simp only [ub] at h;exact Gp (P:=P) (Ge fr e s lf E a w hf h rP t pK hN Dq)
end
end Go.As
end
section
namespace Go.As
open Go.RowKit
def Ren.bT (r:Ren):List (Y×Y×Nat)->List (Y×Y×Nat)
 |[]=>[]
 |(k,v,n)::l=>(r.av k,r.av v,n)::r.bT l
def Ren.ovs (r:Ren):List (V×List Y)->List (V×List Y)
 |[]=>[]
 |(i,cs)::l=>(r.se i,r.CZ cs)::r.ovs l
def Ren.ob (r:Ren):dX->dX
 | .cells cs e=> .cells (r.CZ cs) e
 | .map es n=> .map (r.bT es) n
 | .kU s p=> .kU s p
 | .vec e t ty ov=> .vec (r.se e) t ty (r.ovs ov)
 | .kQ e t=> .kQ (r.se e) t
 | .uo e t fq ov=> .uo e t fq ov
noncomputable def kX (r:Ren):List dX->Nat->Hp->Hp
 |[],_,h=>h
 |o::os,i,h=>kX r os (i+1) (h.put (r.id i) (r.ob o))
def Hr (r:Ren):Bool:=r.sh.all fun i=>Nat.beq i 0
def QT (r:V) (n:Nat):List V:=(List.range n).map (ph r)
noncomputable def Ys (j:Nat) (c:CS) (lY:List RK) (ez:List dX) (ko:Nat):List Y->St->T (Y×St):=fun args s=>
 match Nat.beq args.length c.bG.length&&c.fits A_ ⟨cC args 0 .nil,s.h,s.pc⟩ (c.lR ⟨cC args 0 .nil,s.h,s.pc⟩)&&Hr (c.lR ⟨cC args 0 .nil,s.h,s.pc⟩) with
 |true=>kB s (.eq (.ap (2*j) (gr (c.lR ⟨cC args 0 .nil,s.h,s.pc⟩).ns)) (.lit 1)) fun s' b=>match b with
  |true=> .ret (match p8 lY (ph (.ap (2*j+1) (gr (c.lR ⟨cC args 0 .nil,s.h,s.pc⟩).ns))) ko with |[v]=>v|vs=> .tuple vs,
   { s' with h:=kX ⟨QT (.ap (2*j+1) (gr (c.lR ⟨cC args 0 .nil,s.h,s.pc⟩).ns)) ko,(c.lR ⟨cC args 0 .nil,s.h,s.pc⟩).bl,[]⟩ ez 0 s'.h })
  |false=> .fail
 |false=> .fail
noncomputable def ai2 (s:St) (t c:Nat):V:=match s.bG.get t with
 |some v=>match v with
  | .int _ e=>e
  | .agg cs=>match fu cs c with
    |some v=>match v with
     | .int _ e=>e
     |_=> .lit 0
    |none=> .lit 0
  |_=> .lit 0
 |none=> .lit 0
noncomputable def YU (s:St):List (Nat×Nat)->List V->List V
 |[],ns=>ns
 |_::_,[]=>[]
 |(t,c)::l,_::ns=>ai2 s t c::YU s l ns
noncomputable def D' (s:St) (gh:List (Nat×Nat)) (r:Ren):Ren:={ r with ns:=YU s gh r.ns }
noncomputable def ai1 (s:St) (gh:List (Nat×Nat)):Option V:=match gh with
 |(t,c)::_=>some (ai2 s t c)
 |[]=>none
noncomputable def sa (q:V) (iQ:Nat) (ns:List V) (c:CS) (bl:List Nat) (s:St):Ren:=⟨(List.range c.k).map fun a=>match Nat.blt a iQ with |true=>(match fu ns a with |some e=>e|none=> .lit 0)|false=>ph q (a+1),(List.range c.dI.length).map fun i=>match fu bl i with |some j=>j|none=>s.h.next+(i-bl.length),[]⟩
noncomputable def YT (g n:V) (s:St) (k:St->T (Y×St)):T (Y×St):=kB s (iU g (.lit 0)) fun s b=>match b with
 |true=>k s
 |false=>kB s (iU g n) fun s b=>match b with
  |true=> .fail
  |false=>k s
noncomputable def ghT (q:V) (iQ:Nat) (ns:List V) (g:Option V) (c:CS) (bl:List Nat) (s:St) (k:St->T (Y×St)):T (Y×St):=match g with
 |none=>k s
 |some g=>match c.m with
  | .dK _=>k s
  |_=>match c.bG with
   |[]=>k s
   |(_,v)::_=>match v with
    | .pV _ n _=>YT g ((sa q iQ ns c bl s).se n) s k
    |_=>k s
noncomputable def p! (q:V) (iQ:Nat) (ns:List V) (g:Option V) (bl:List Nat):List CS->Nat->St->T (Y×St)
 |[],_,_=> .fail
 |c::l,i,s=>kB s (rK (ph q 0) (.lit (Int.ofNat i))) fun s b=>match b with
  |true=>ghT q iQ ns g c bl s fun s=> .ret (Bf ((sa q iQ ns c bl s).CZ (c.bG.map fun p=>p.2)),
   { s with h:=⟨(kX (sa q iQ ns c bl s) c.dI 0 s.h).m,s.h.next+(c.dI.length-bl.length),s.h.res⟩ })
  |false=>p! q iQ ns g bl l (i+1) s
noncomputable def RN (j iQ:Nat) (c:CS) (gh:List (Nat×Nat)) (pG:List CS):List Y->St->T (Y×St):=fun args s=>
 match Nat.beq args.length c.bG.length&&c.fits A_ ⟨cC args 0 .nil,s.h,s.pc⟩ (D' s gh (c.lR ⟨cC args 0 .nil,s.h,s.pc⟩))&&Hr (D' s gh (c.lR ⟨cC args 0 .nil,s.h,s.pc⟩)) with
 |true=>kB s (.eq (.ap (2*j) (gr (D' s gh (c.lR ⟨cC args 0 .nil,s.h,s.pc⟩)).ns)) (.lit 1)) fun s' b=>match b with
  |true=>p! (.ap (2*j+1) (gr (D' s gh (c.lR ⟨cC args 0 .nil,s.h,s.pc⟩)).ns)) iQ (D' s gh (c.lR ⟨cC args 0 .nil,s.h,s.pc⟩)).ns (ai1 s gh) (D' s gh (c.lR ⟨cC args 0 .nil,s.h,s.pc⟩)).bl pG 0 s'
  |false=> .fail
 |false=> .fail
section
variable {Eo E2:En} {r:Ren} {h:Array Obj} (W:r.ns.length<=900) (yR:r.sh= []) (hρ:Eo.ρ=r.env E2.ρ) (hid: ∀i,Eo.dm i->E2.dm (r.id i)/\E2.θ (r.id i)=Eo.θ i/\E2.κ (r.id i)=Eo.κ i) (lZ:Eo.ro=E2.ro)
include W yR hρ hid lZ
theorem Xo (i:Nat):r.u7 i=0:=by unfold Ren.u7; rw [yR]; rfl
theorem eZ.back {id off len:Nat} {a:Addr} {cap:Nat} {c:NB} (hd:Eo.dm id) (hc:eZ Eo id off len a cap c):eZ E2 (r.id id) off len a cap c:=by simp_all [eZ]
mutual
theorem VR.back: ∀(x:Y) (u:Value),VR Eo h x u->VR E2 h (r.av x) u
 | .bool b,u,hv=>by simp only [VR,Ren.av] at *; rw [Ren.A9 W,<- hρ]; exact hv
 | .int _ e,u,hv=>by simp only [VR,Ren.av] at *; rw [Ren.eA W,<- hρ]; exact hv
 | .str s,u,hv=>by simp only [VR,Ren.av] at *; exact hv
 | .ptr id off,u,hv=>by
   simp only [VR,Ren.av,Xo W yR hρ hid lZ,aK] at *
   grind
 | .u9,u,hv=>by simp only [VR,Ren.av] at *; exact hv
 | .nQ cs,u,hv=>by simp only [VR,Ren.av] at *;obtain⟨b,o,us,U,Z,h3,h4,h5⟩:=hv;exact⟨b,o,us,U,by rw [<- lZ]; exact Z,cJ.back cs us h3,h4,h5⟩
 | .slice id off len c,u,hv=>by simp only [VR,Ren.av,Xo W yR hρ hid lZ,aK] at *;obtain⟨U,a,cap,Z,h3,h4⟩:=hv;exact⟨(hid id U).1,a,cap,Z,h3,eZ.back W yR hρ hid lZ U h4⟩
 | .gL,u,hv=>by simp only [VR,Ren.av] at *; exact hv
 | .ro cs n full,u,hv=>by simp only [VR,Ren.av] at *;obtain⟨b,o,cap,us,U,Z,h3,h4,h5,h6,h7⟩:=hv;exact⟨b,o,cap,us,U,Z,h3,by rw [<- lZ]; exact h4,cJ.back cs us h5,h6,h7⟩
 | .map id,u,hv=>by
   simp only [VR,Ren.av] at *
   grind
 | .tI,u,hv=>by simp only [VR,Ren.av] at *; exact hv
 | .func fn fs cs,u,hv=>by simp only [VR,Ren.av] at *;obtain⟨us,ws,U,Z,h3⟩:=hv;exact⟨us,ws,U,cJ.back fs us Z,cJ.back cs ws h3⟩
 | .xp,u,hv=>by simp only [VR,Ren.av] at *; exact hv
 | .iface t x,u,hv=>by simp only [VR,Ren.av] at *;obtain⟨y,U,Z⟩:=hv;exact⟨y,U,VR.back x y Z⟩
 | .yn,u,hv=>by simp only [VR,Ren.av] at *; exact hv
 | .agg cs,u,hv=>by simp only [VR,Ren.av] at *;obtain⟨us,U,Z⟩:=hv;exact⟨us,U,cJ.back cs us Z⟩
 | .tuple cs,u,hv=>by simp only [VR,Ren.av] at *;obtain⟨us,U,Z⟩:=hv;exact⟨us,U,cJ.back cs us Z⟩
 | .LI _,u,hv=>by simp only [VR] at hv
 | .xK k ks,u,hv=>by
   simp only [VR,Ren.av] at *;rw [hρ,Ren.ml W J,lZ] at hv;rcases hv with hv|⟨b,o,n,cap,U,Z,h3,h4,h5⟩
   ·grind
   ·refine .inr ⟨b,o,n,cap,U,Z,h3,h4,fun i j kd hi hj=>?_⟩;have:=h5 i j kd hi hj
    first
     |exact this
     |(rw [Ren.ml W J] at this; exact this)
     |(rw [hρ,Ren.ml W J] at this; exact this)
 | .emp,u,hv=>by simp only [VR,Ren.av] at *; exact hv
 | .eD e t,u,hv=>by simp only [VR,Ren.av] at *; rw [Ren.eA W,<- hρ,<- lZ]; exact hv
 | .kG e,u,hv=>by simp only [VR,Ren.av] at *; rw [Ren.eA W,<- hρ,<- lZ]; exact hv
 | .pV id n t,u,hv=>by simp only [Ren.av,Xo W yR hρ hid lZ];simp only [VR] at *;obtain⟨U,k,a,cap,Z,h3,h4,h5⟩:=hv;exact⟨(hid id U).1,k,a,cap,by rw [Ren.eA W,<- hρ]; exact Z,h3,h4,eZ.back W yR hρ hid lZ U h5⟩
 | .Ax id es i off,u,hv=>by simp only [Ren.av,Xo W yR hρ hid lZ];simp only [VR] at *;obtain⟨U,k,Z,h3⟩:=hv;obtain⟨g1,g2,_⟩:=hid id U;exact⟨g1,k,by rw [Ren.eA W,<- hρ]; exact Z,by rw [g2]; exact h3⟩
 | .any,u,_=>by simp only [VR,Ren.av]
 | .xU z t,u,hv=>by simp only [VR,Ren.av] at *; rw [Ren.eA W,<- hρ,<- lZ]; exact hv
 | .u5 id lo n t,u,hv=>by simp only [Ren.av,Xo W yR hρ hid lZ];simp only [VR] at *;obtain⟨U,l,k,a,cap,Z,h3,h4,h5,h6⟩:=hv;exact⟨(hid id U).1,l,k,a,cap,by rw [Ren.eA W,<- hρ]; exact Z,by rw [Ren.eA W,<- hρ]; exact h3,h4,h5,eZ.back W yR hρ hid lZ U h6⟩
theorem cJ.back: ∀(xs:List Y) (us:List Value),cJ Eo h xs us->cJ E2 h (r.CZ xs) us
 |[],us,hv=>by simp only [cJ,Ren.CZ] at *; exact hv
 |x::xs,us,hv=>by simp only [cJ,Ren.CZ] at *;obtain⟨u,vs,U,Z,h3⟩:=hv;exact⟨u,vs,U,VR.back x u Z,cJ.back xs vs h3⟩
end
theorem e9.back: ∀{es:List (Y×Y×Nat)} {bT:List MapEntry},e9 Eo h es bT->e9 E2 h (r.bT es) bT
 |[],_,hv=>by simp only [e9,Ren.bT] at *; exact hv
 |(k,v,b)::es,bT,hv=>by simp only [e9,Ren.bT] at *;obtain⟨e,rr,U,Z,h3,h4,h5⟩:=hv;exact⟨e,rr,U,VR.back W yR hρ hid lZ k _ Z,VR.back W yR hρ hid lZ v _ h3,h4,e9.back h5⟩
theorem Em {i:Nat}: ∀{ov:List (V×List Y)},ep E2.ρ i (r.ovs ov)=(ep Eo.ρ i ov).map r.CZ
 |[]=>rfl
 |(j,cs)::l=>by
  simp only [ep,Ren.ovs];rw [Ren.eA W,<- hρ,Em]
  grind
theorem xW {row:Row} {ov:List (V×List Y)}: ∀(ds:List D) (i:Nat) {us:List Value},cJ Eo h (bH Eo.ρ row ov ds i) us->cJ E2 h (bH E2.ρ row (r.ovs ov) ds i) us
 |[],_,us,hv=>by simp only [bH,cJ] at *; exact hv
 |d::ds,i,us,hv=>by
  simp only [bH] at *;obtain⟨a,b,rfl,U,Z⟩:=hv.split;refine cJ.append ?_ (xW ds (i+1) Z);rw [Em W yR hρ hid lZ]
  cases ho:ep Eo.ρ i ov with
  |none=> rw [ho] at U;simp only [Option.map_none];rw [gD] at U ⊢;rw [<- lZ];exact U
  |some cs=> rw [ho] at U;exact cJ.back W yR hρ hid lZ cs a U
theorem Hm {row:Row}: ∀{ov:List (V×List Y)},tG row ov->tG row (r.ovs ov)
 |[],h=>h
 |(i,cs)::l,h=>by
  intro p hp;simp only [Ren.ovs] at hp;rcases aF.1 hp with rfl|hp
  ·simp only [qG]; exact h (i,cs) ad
  ·exact Hm (fun q hq=>h q (by simp [hq])) p hp
theorem OR.back {id:Nat} {o:dX} (hn:nf o=true) (hd:Eo.dm id) (ho:OR Eo h id o):OR E2 h (r.id id) (r.ob o):=by
 obtain⟨_,Z,h3⟩:=hid id hd
 cases o with
 |uo e t fq ov=>simp [nf] at hn
 |cells cs e=> simp only [OR,Ren.ob] at *;obtain⟨arr,lo,hi,us,q1,q2,q3,q4,q5,q6,q7⟩:=ho;rw [Z,h3];exact⟨arr,lo,hi,us,q1,cJ.back W yR hρ hid lZ cs us q2,q3,by rw [qG]; exact q4,q5,q6,q7⟩
 |map es c=>
  grind [OR,Ren.ob,e9.back]
 |kU s p=>simp only [OR,Ren.ob] at *; rw [Z]; exact ho
 |kQ e t=>
  grind [OR,Ren.ob,Ren.eA]
 |vec e t ty ov=>
  simp only [OR,Ren.ob] at *;obtain⟨⟨q0,qw⟩,arr,lo,hi,us,q1,q2,q3,q4,q5,q6,q7⟩:=ho;have he:(r.se e).den E2.ρ=e.den Eo.ρ:=by rw [Ren.eA W,<- hρ]
  have q0':=Hm W yR hρ hid lZ q0;rw [Z,h3,he];refine⟨⟨q0',qw⟩,arr,lo,hi,us,q1,xW W yR hρ hid lZ _ _ q2,q3,?_,q5,q6,q7⟩
  grind [cM]
end
theorem yi {r:Ren}: ∀{os:List dX} {i:Nat} {h:Hp},(∀a b,i<=a->a<i+os.length->i<=b->b<i+os.length->r.id a=r.id b->a=b)->
 (∀k o,os[k]?=some o->(kX r os i h).get (r.id (i+k))=some (r.ob o))/\(∀id,(∀k,k<os.length->r.id (i+k)≠id)->(kX r os i h).get id=h.get id)/\(kX r os i h).next=h.next/\(kX r os i h).res=h.res
 |[],i,h,_=> ⟨fun k o hk=>by simp at hk,fun _ _=>rfl,rfl,rfl⟩
 |o::os,i,h,Md=>by
  obtain⟨U,Z,h3,h4⟩:=yi (r:=r) (os:=os) (i:=i+1) (h:=h.put (r.id i) (r.ob o)) fun a b U Z h3 h4=>Md a b J (by simp only [aQ]; omega) J (by simp only [aQ]; omega);refine⟨fun k x hk=>?_,fun id hn=>?_,h3,h4⟩
  ·cases k with
   |zero=>
    simp at hk;subst hk;simp only [kX];show (kX r os (i+1) (h.put (r.id i) (r.ob o))).get (r.id i)=some (r.ob o)
    grind [Hp.bU]
   |succ k=>
    grind [kX]
  ·simp only [kX];rw [Z id fun k hk=>?_,Hp.bU,ah ?_]
   ·have:=hn 0 ad
    grind
   grind
theorem xO (c:CS) (s:St):(c.lR s).ns.length=c.k:=by
 grind [CS.lR,n9]
section
variable {P:Program}
def adE (P:Program) (GB:(Nat->Prop)->Array Obj->Prop) (g:FuncId) (c:CS) (lY:List RK) (ez:List dX) (ko:Nat) (f:List Int->Option (List Int)):Prop:=
 ∀xs ys,f xs=some ys->∀(E:En) (w:World) (vals:List Value),(∀i x,xs[i]?=some x->E.ρ i=x)->xs.length=c.k->wv E c.st { tmps:=vals.toArray,defers:=[] } w->GB E.ro w.heap->
  Calls P g vals.toArray w (QE ⟨w,E.ro,c.dI.length,E.θ,E.κ⟩ lY ez ko ys)
theorem Yr [bJ] {GB:(Nat->Prop)->Array Obj->Prop} (Mf: ∀ρ ro h,bJ.ok ρ ro h->GB ro h) {F:oR} (Me: ∀ρ ro h,bJ.ok ρ ro h->Good F ρ) {g:FuncId} {j:Nat} {c:CS} {lY:List RK} {ez:List dX} {ko:Nat} (oU:ny ko ez=true) (C':ko<=900) (hom:ez.length=c.dI.length)
 (hs:adE P GB g c lY ez ko (F j)) (mD: ∀(args:Array Value) (w:World),(callFunc g args).run P w= .ok (.enter g args) w):kR P g (Ys j c lY ez ko):=by
 intro aml s E w vals v s' r hv hp W;unfold Ys at W;split at W
 ·rename_i jV;simp only [au] at jV;obtain⟨⟨_,OZ⟩,JE⟩:=jV;have hlen:=xO c ⟨cC aml 0 .nil,s.h,s.pc⟩;generalize hr:c.lR ⟨cC aml 0 .nil,s.h,s.pc⟩ = rn at W OZ JE hlen
  have f0:Fit E ⟨cC aml 0 .nil,s.h,s.pc⟩ { tmps:=vals.toArray,defers:=[] } w:=by refine⟨r,?_,hp⟩;have:=zL hv 0;simpa using this
  obtain⟨hle,f1,ho⟩:=Af Ov f0 OZ;obtain⟨fW,fL,q1⟩:=cR hp W;split at q1
  ·rename_i ht;have hg:=Me _ _ _ r.ku;have hg1:=(hg j (rn.ns.map (V.den E.ρ))).1;have hg2:=(hg j (rn.ns.map (V.den E.ρ))).2;simp only [SB.den,V.den,jU,hg1,beq_iff_eq] at ht
   have Cs:(F j (rn.ns.map (V.den E.ρ))).isSome=true:=by
    cases hh:(F j (rn.ns.map (V.den E.ρ))).isSome with
    |true=>rfl
    |false=>rw [hh] at ht; simp at ht
   obtain⟨ys,HK⟩:=amS.1 Cs
   have Uu:(V.ap (2*j+1) (gr rn.ns)).den E.ρ=mX ys:=by show E.ρ _=_;rw [jU,hg2,HK];rfl
   have:=bE q1;simp only [aq] at this;obtain⟨rfl,rfl⟩:=this;refine⟨rfl,fL,?_⟩;unfold mr oQ;rw [mD]
   have nH: ∀i x,(rn.ns.map (V.den E.ρ))[i]?=some x->(E.ig rn).ρ i=x:=by intro i x hi;rw [bp,aZ] at hi;obtain⟨e,he,rfl⟩:=hi;show rn.env E.ρ i=_;unfold Ren.env;rw [dC,he]
   refine Calls.mono (hs _ ys HK (E.ig rn) w vals nH (by simpa using hlen) f1.x (Mf _ _ _ f1.rel.ku)) fun e w' ⟨u,he,hb,n6,k1,k2,k3,k4,k5,k6⟩=> ⟨u,he,?_⟩;have tQ:=OZ;unfold CS.fits at tQ;simp only [au] at tQ;obtain⟨⟨⟨⟨⟨_,nS⟩,afd⟩,_⟩,ae7⟩,_⟩:=tQ;have nS:=az nS
   have Ut: ∀i,rn.u7 i=0:=by
    intro i;unfold Ren.u7;split
    ·rename_i x hx;rw [dC] at hx;unfold Hr at JE;rw [bj] at JE;exact az (JE x (amm hx))
    ·rfl
   have tX: ∀i,i<c.dI.length->∃o,s.h.get (rn.id i)=some o:=by intro i hi;obtain⟨o',g1,_⟩:=jx ae7 (aT hi);rw [aK] at g1;exact⟨o',g1⟩
   have Md: ∀a b,a<c.dI.length->b<c.dI.length->rn.id a=rn.id b->a=b:=by
    intro a b ha hb he;have hla:a<rn.bl.length:=J
    have hlb:b<rn.bl.length:=J
    unfold Ren.id at he;rw [dC,dC,aT hla,aT hlb] at he;simp only at he;exact pC afd (i:=a) (j:=b) (x:=rn.bl[a]) (by rw [dC,aT hla]) (by rw [dC,aT hlb,he])
   generalize hR:(⟨QT (.ap (2*j+1) (gr rn.ns)) ko,rn.bl,[]⟩ : Ren)=R;have JJ: ∀i,R.id i=rn.id i:=by intro i; rw [<- hR]; rfl
   have hRl:R.ns.length=ko:=by rw [<- hR]; simp [QT]
   obtain⟨p1,p2,p3,p4⟩:=yi (r:=R) (os:=ez) (i:=0) (h:=s.h) fun a b _ Z _ h4 he=>by rw [JJ,JJ] at he;exact Md a b J J he
   have hfp: ∀b,(mV.mk w (E.ig rn).ro c.dI.length (E.ig rn).θ (E.ig rn).κ).fp b->∃id o,s.h.get id=some o/\(E.θ id).1=b:=by rintro b ⟨i,hi,he⟩;obtain⟨o,U⟩:=tX i hi;exact⟨_,o,U,he⟩
   have aal: ∀b,E.ro b->w'.heap[b]?=w.heap[b]?:=by intro b JH;refine hb.om b (r.sq b JH) fun hf=>?_;obtain⟨id,o,U,Z⟩:=hfp b hf;exact (r.live id o U).2.2 (by rw [Z]; exact JH)
   have uN:fU E w.heap { E with ro:=n6 } w'.heap:=⟨rfl,fun _ h=>h,fun _ _=>rfl,fun _ _=>rfl,k1,aal⟩
   have OT: ∀id o,(kX R ez 0 s.h).get id=some o->∃o',s.h.get id=some o':=by
    intro id o hg;by_cases hex: ∃k,k<ez.length/\R.id (0+k)=id
    ·obtain⟨k,hk,rfl⟩:=hex;rw [aK,JJ];exact tX k J
    ·rw [p2 id fun k hk he=>hex ⟨k,hk,he⟩] at hg;exact⟨o,hg⟩
   have u6:fj E s.h w { E with ro:=n6 } (kX R ez 0 s.h) w':=by
    refine⟨rfl,fun _ h=>h,fun _ _=>rfl,fun _ _=>rfl,k1,fun b JH=>(k2 b JH).imp id .inr,by rw [p3]; exact ay _,by rw [p4]; exact .inr rfl,fun _ h=> .inl h,hb.os,hb.tape,hb.output,hb.size,fun b nS hn=>hb.om b nS fun hf=>?_,fun id o hg _=>?_,rfl⟩
    ·obtain⟨id,o,U,Z⟩:=hfp b hf;exact hn id o U Z
    ·obtain⟨o',U⟩:=OT id o hg;exact⟨id,o',U,rfl⟩
   have RY: ∀i,i<ko->R.env E.ρ i=low ys i:=by
    intro i hi;unfold Ren.env low
    have hn:fu R.ns i=some (ph (.ap (2*j+1) (gr rn.ns)) i):=by rw [<- hR,dC];simp [QT,hi]
    rw [hn];simp only;rw [anH];simp only [ph,V.den,fT.den,bC];have aix:(V.ap (2*j+1) (gr rn.ns)).den E.ρ=mX ys:=Uu;simp only [V.den] at aix;rw [aix];simp only [mX,bC,D.hd,bD,bp];cases ys[i]?<;>rfl
   have r2:bS { E with ro:=n6 } (kX R ez 0 s.h) w':=by
    refine⟨fun id hid=>r.fresh id (by rw [<- p3]; exact hid),fun q hq=>by rw [p3]; exact r.res q (by rw [<- p4]; exact hq),fun id o hg=>?_,fun i1 i2 o1 o2 U Z he=>?_,k3,bJ.cD r.ku k1 aal,r.Ux u6.hd u6.size u6.sO u6.own⟩
    ·by_cases hex: ∃k,k<ez.length/\R.id (0+k)=id
     ·obtain⟨k,hk,rfl⟩:=hex;rw [aK];have hx:=aT hk;have:=p1 k _ hx;rw [hg] at this;simp only [an] at this;subst this;obtain⟨o',U⟩:=tX k J;obtain⟨d1,d2,d3⟩:=r.live _ _ U;refine⟨by rw [JJ]; exact d1,?_,?_⟩
      ·have ho2:=k5 k _ hx
       have ho3:=OR.low (K:=ko) (E:=(mV.mk w (E.ig rn).ro c.dI.length (E.ig rn).θ (E.ig rn).κ).out ys n6) (E':={ ρ:=R.env E.ρ,θ:=(E.ig rn).θ,κ:=(E.ig rn).κ,dm:=fun i=>i<c.dI.length,ro:=n6 })
        (fun i hi=>RY i hi) rfl rfl rfl rfl (nw oU hx).2 ho2
       refine OR.back (Eo:={ ρ:=R.env E.ρ,θ:=(E.ig rn).θ,κ:=(E.ig rn).κ,dm:=fun i=>i<c.dI.length,ro:=n6 }) (E2:={ E with ro:=n6 }) (r:=R) (by rw [hRl]; exact C') (by rw [<- hR]) rfl (fun i hi=>?_) rfl (nw oU hx).1 (show k<c.dI.length by omega) ho3;obtain⟨o2,Z⟩:=tX i hi;refine⟨by rw [JJ]; exact (r.live _ _ Z).1,?_,?_⟩
       ·show E.θ (R.id i)=((E.θ (rn.id i)).1,(E.θ (rn.id i)).2+rn.u7 i);rw [JJ,Ut,bw]
       ·show E.κ (R.id i)=E.κ (rn.id i)-rn.u7 i;rw [JJ,Ut,aoc]
      ·rw [JJ];exact k4 k (by show k<c.dI.length; omega)
     ·rw [p2 id fun k hk he=>hex ⟨k,hk,he⟩] at hg;obtain⟨d1,d2,d3⟩:=r.live id o hg
      have aap:w'.heap[(E.θ id).1]?=w.heap[(E.θ id).1]?:=by refine hb.om _ (gx r hg) ?_;rintro⟨i,hi,he⟩;obtain⟨o',U⟩:=tX i hi;have:=r.inj _ id o' o U hg he;exact hex ⟨i,by show i<ez.length; rw [hom]; exact hi,by rw [aK,JJ]; exact this⟩
      refine⟨d1,d2.cD uN d1 aap (r.Vt rfl (fun x hx hn=>hb.om x hx fun hf=>by obtain⟨id,o,U,Z⟩:=hfp x hf; exact hn id o U Z) _),fun hr=>?_⟩;rcases k2 _ hr with hr|hr
      ·exact d3 hr
      ·have gu:(E.θ id).1<w.heap.size:=gx r hg;have UA:w.heap.size<=(E.θ id).1:=hr;omega
    ·obtain⟨a1,b1⟩:=OT _ _ U;obtain⟨a2,b2⟩:=OT _ _ Z;exact r.inj _ _ _ _ b1 b2 he
   refine⟨{ E with ro:=n6 },u6,r2,?_⟩;obtain⟨us,fl',sh',c1,rfl⟩:=k6
   have hvr:cJ { E with ro:=n6 } w'.heap (p8 lY (ph (.ap (2*j+1) (gr rn.ns))) ko) us:=by refine sU sh' c1 fun k n hk=>?_;rw [amV] at hk;exact wF (ys:=ys) Uu hk
   have:=Db hvr;unfold Bf at this;exact this
  ·simp [T.leaf] at q1
 ·simp [T.leaf] at W
theorem Cx (s:St): ∀(gh:List (Nat×Nat)) (ns:List V),(YU s gh ns).length=ns.length
 |[],_=>rfl
 |_::_,[]=>rfl
 |(t,c)::l,_::ns=>by simp only [YU,aQ,Cx s l ns]
theorem YS {g n:V} {ρ:Nat->Int} {s:St} {k:St->T (Y×St)} {r:Y×St} (hp:ca ρ s.pc) (h:(YT g n s k).leaf ρ=some r): ∃pc,ca ρ pc/\(k { s with pc:=pc }).leaf ρ=some r:=by
 unfold YT at h;obtain⟨fW,fL,U⟩:=cR hp h;split at U
 ·grind
 ·obtain⟨kz,kg,Z⟩:=cR (s:={ s with pc:=fW }) fL U
  grind [T.leaf]
theorem afA {q:V} {iQ:Nat} {ns:List V} {g:Option V} {c:CS} {bl:List Nat} {ρ:Nat->Int} {s:St} {k:St->T (Y×St)} {r:Y×St} (hp:ca ρ s.pc) (h:(ghT q iQ ns g c bl s k).leaf ρ=some r): ∃pc,ca ρ pc/\(k { s with pc:=pc }).leaf ρ=some r:=by
 unfold ghT at h;split at h
 ·exact⟨s.pc,hp,h⟩
 ·split at h
  ·exact⟨s.pc,hp,h⟩
  ·split at h
   ·exact⟨s.pc,hp,h⟩
   ·split at h
    ·exact YS hp h
    ·exact⟨s.pc,hp,h⟩
theorem S9 {q:V} {iQ:Nat} {ns:List V} {g:Option V} {bl:List Nat} {ρ:Nat->Int} {v:Y} {s':St}: ∀{l:List CS} {k:Nat} {s:St},ca ρ s.pc->(p! q iQ ns g bl l k s).leaf ρ=some (v,s')->
 ∃i c ew,l[i-k]?=some c/\k<=i/\(ph q 0).den ρ=(i:Int)/\ca ρ ew/\v=Bf ((sa q iQ ns c bl s).CZ (c.bG.map fun p=>p.2))/\s'= { s with h:=⟨(kX (sa q iQ ns c bl s) c.dI 0 s.h).m,s.h.next+(c.dI.length-bl.length),s.h.res⟩,pc:=ew }
 |[],k,s,_,h=>by simp [p!,T.leaf] at h
 |c::l,k,s,hp,h=>by
  simp only [p!] at h;obtain⟨ew,fQ,U⟩:=cR hp h;split at U
  ·rename_i hb;rw [gY,beq_iff_eq] at hb;obtain⟨kz,kg,Z⟩:=afA (s:={ s with pc:=ew }) fQ U;have:=bE Z;simp only [aq] at this;exact⟨k,c,kz,ad,ay _,hb,kg,this.1.symm,this.2.symm⟩
  ·obtain⟨i,c',kz,q1,q2,q3,q4,q5,q6⟩:=S9 (s:={ s with pc:=ew }) fQ U;refine⟨i,c',kz,?_,J,q3,q4,q5,q6⟩
   grind
def yu:List (Nat×Y)->Nat->Bool
 |[],_=>true
 |(t,_)::l,i=>Nat.beq t i&&yu l (i+1)
theorem B7: ∀{l:List (Nat×Y)} {i t:Nat} {tr:Tr Y},yu l i=true->t<i->(n5 l tr).get t=tr.get t
 |[],_,_,_,_,_=>rfl
 |(j,v)::l,i,t,tr,h,ht=>by simp only [yu,au] at h;have hj:=az h.1;simp only [n5];rw [B7 h.2 J,Tr.bU,ah J]
theorem ze: ∀{l:List (Nat×Y)} {i:Nat} {tr:Tr Y},yu l i=true->∀k v,(l.map fun p=>p.2)[k]?=some v->(n5 l tr).get (i+k)=some v
 |[],_,_,_,k,v,hk=>by simp at hk
 |(j,x)::l,i,tr,h,k,v,hk=>by
  simp only [yu,au] at h;have hj:=az h.1;subst hj;simp only [n5]
  cases k with
  |zero=>
   grind [B7,Tr.bU]
  |succ k=>
   have:=ze (tr:=tr.put j (some x)) h.2 k v (by simpa using hk)
   grind
theorem cJ.of {E:En} {h:Array Obj}: ∀{vs:List Y} {us:List Value},us.length=vs.length->(∀(k:Nat) (v:Y),vs[k]?=some v->∃u,us[k]?=some u/\VR E h v u)->cJ E h vs us
 |[],us,W,_=>by rw [iN]; exact amv W
 |v::vs,[],W,_=>by simp at W
 |v::vs,u::us,W,hh=>by
  rw [bX];refine⟨u,us,rfl,?_,cJ.of (by simpa using W) fun k x hk=>?_⟩
  ·obtain⟨y,U,Z⟩:=hh 0 v rfl
   grind
  ·exact hh (k+1) x (by simpa using hk)
def adD (P:Program) (GB:(Nat->Prop)->Array Obj->Prop) (g:FuncId) (c:CS) (pG:List CS) (f:List Int->Option (List Int)):Prop:=
 ∀xs ys,f xs=some ys->∀(E:En) (w:World) (vals:List Value),(∀i x,xs[i]?=some x->E.ρ i=x)->xs.length=c.k->wv E c.st { tmps:=vals.toArray,defers:=[] } w->GB E.ro w.heap->
  Calls P g vals.toArray w (QR ⟨w,E.ro,c.dI.length,E.θ,E.κ⟩ pG ys)
def G5:List CS->Bool
 |[]=>true
 |c::l=>wb c.k c&&yu c.bG 0&&Nat.ble c.k 900&&(nfs c.dI&&G5 l)
theorem G4: ∀{l:List CS},G5 l=true->∀{i:Nat} {c:CS},l[i]?=some c->wb c.k c=true/\yu c.bG 0=true/\c.k<=900/\nfs c.dI=true
 |[],_,i,c,h=>by simp at h
 |c0::l,hs,i,c,h=>by
  simp only [G5,au] at hs
  cases i with
  |zero=>simp at h; subst h; exact⟨hs.1.1.1,hs.1.1.2,amC hs.1.2,hs.2.1⟩
  |succ i=>exact G4 hs.2.2 (by simpa using h)
theorem L8 [bJ] {GB:(Nat->Prop)->Array Obj->Prop} (Mf: ∀ρ ro h,bJ.ok ρ ro h->GB ro h) {F:oR} (Me: ∀ρ ro h,bJ.ok ρ ro h->Good F ρ) {g:FuncId} {j:Nat} {c:CS} {gh:List (Nat×Nat)} {iQ:Nat} {pG:List CS} (hrp:G5 pG=true) (akY: ∀xs ys,F j xs=some ys->∀a y,a<iQ->ys[a+1]?=some y->y=low xs a)
 (hs:adD P GB g c pG (F j)) (mD: ∀(args:Array Value) (w:World),(callFunc g args).run P w= .ok (.enter g args) w):kR P g (RN j iQ c gh pG):=by
 intro aml s E w vals v s' r hv hp W;unfold RN at W;split at W
 ·rename_i jV;simp only [au] at jV;obtain⟨⟨_,OZ⟩,JE⟩:=jV;have hlen:=xO c ⟨cC aml 0 .nil,s.h,s.pc⟩
  have acj:(D' s gh (c.lR ⟨cC aml 0 .nil,s.h,s.pc⟩)).ns.length=c.k:=by show (YU s gh _).length=c.k;rw [Cx,hlen]
  generalize hr:D' s gh (c.lR ⟨cC aml 0 .nil,s.h,s.pc⟩)=rn at W OZ acj JE
  have f0:Fit E ⟨cC aml 0 .nil,s.h,s.pc⟩ { tmps:=vals.toArray,defers:=[] } w:=by refine⟨r,?_,hp⟩;have:=zL hv 0;simpa using this
  obtain⟨hle,f1,ho⟩:=Af Ov f0 OZ;obtain⟨fW,fL,q1⟩:=cR hp W;split at q1
  ·rename_i ht;have hg:=Me _ _ _ r.ku;have hg1:=(hg j (rn.ns.map (V.den E.ρ))).1;have hg2:=(hg j (rn.ns.map (V.den E.ρ))).2;simp only [SB.den,V.den,jU,hg1,beq_iff_eq] at ht
   have Cs:(F j (rn.ns.map (V.den E.ρ))).isSome=true:=by
    cases hh:(F j (rn.ns.map (V.den E.ρ))).isSome with
    |true=>rfl
    |false=>rw [hh] at ht; simp at ht
   obtain⟨ys,HK⟩:=amS.1 Cs
   have Uu:(V.ap (2*j+1) (gr rn.ns)).den E.ρ=mX ys:=by show E.ρ _=_;rw [jU,hg2,HK];rfl
   obtain⟨i,c',kz,a1,_,a3,a4,rfl,rfl⟩:=S9 (s:={ s with pc:=fW }) fL q1;rw [aoc] at a1;refine⟨rfl,a4,?_⟩;unfold mr oQ;rw [mD]
   have nH: ∀i x,(rn.ns.map (V.den E.ρ))[i]?=some x->(E.ig rn).ρ i=x:=by intro i x hi;rw [bp,aZ] at hi;obtain⟨e,he,rfl⟩:=hi;show rn.env E.ρ i=_;unfold Ren.env;rw [dC,he]
   refine Calls.mono (hs _ ys HK (E.ig rn) w vals nH (by simpa using acj) f1.x (Mf _ _ _ f1.rel.ku)) fun e w' ⟨us,i2,c2,E',he,hb,b1,b2,b3,b4,b5,b6,b7,b8,aa4,b9⟩=> ⟨T4 us,he,?_⟩
   have hi:i2=i:=by have:=wF Uu b2;rw [a3] at this;omega
   subst hi;rw [b1] at a1;simp only [an] at a1;subst a1;obtain⟨k1,k2,k3,k9⟩:=G4 hrp b1;have tQ:=OZ;unfold CS.fits at tQ;simp only [au] at tQ;obtain⟨⟨⟨⟨⟨_,nS⟩,afd⟩,_⟩,ae7⟩,_⟩:=tQ;have nS:=az nS
   have Ut: ∀i,rn.u7 i=0:=by
    intro i;unfold Ren.u7;split
    ·rename_i x hx;rw [dC] at hx;unfold Hr at JE;rw [bj] at JE;exact az (JE x (amm hx))
    ·rfl
   have tX: ∀i,i<c.dI.length->∃o,s.h.get (rn.id i)=some o:=by intro i hi;obtain⟨o',g1,_⟩:=jx ae7 (aT hi);rw [aK] at g1;exact⟨o',g1⟩
   have Md: ∀a b,a<c.dI.length->b<c.dI.length->rn.id a=rn.id b->a=b:=by
    intro a b ha hb he;have hla:a<rn.bl.length:=J
    have hlb:b<rn.bl.length:=J
    unfold Ren.id at he;rw [dC,dC,aT hla,aT hlb] at he;simp only at he;exact pC afd (i:=a) (j:=b) (x:=rn.bl[a]) (by rw [dC,aT hla]) (by rw [dC,aT hlb,he])
   have ET: ∀id,E.dm id->id<s.h.next:=by
    intro id hd;rcases bg id s.h.next with h|h
    ·exact h
    ·exact absurd hd (r.fresh id h)
   have HO: ∀i,i<c.dI.length->rn.id i<s.h.next:=by intro i hi;obtain⟨o,U⟩:=tX i hi;exact ET _ (r.live _ _ U).1
   have hθr: ∀i,(E.ig rn).θ i=E.θ (rn.id i):=by intro i;show ((E.θ (rn.id i)).1,(E.θ (rn.id i)).2+rn.u7 i)=_;rw [Ut,bw]
   have hκr: ∀i,(E.ig rn).κ i=E.κ (rn.id i):=by intro i;show E.κ (rn.id i)-rn.u7 i=_;rw [Ut,aoc]
   have hm2:c.dI.length<=c2.dI.length:=by
    rcases am0 c.dI.length with h|h
    ·omega
    ·have:=(aa4 (c.dI.length-1) (by show c.dI.length-1<c.dI.length; omega)).1;omega
   have hfp: ∀b,(mV.mk w (E.ig rn).ro c.dI.length (E.ig rn).θ (E.ig rn).κ).fp b->∃id o,s.h.get id=some o/\(E.θ id).1=b:=by rintro b ⟨i,hi,he⟩;obtain⟨o,U⟩:=tX i hi;refine⟨_,o,U,?_⟩;have yV:((E.ig rn).θ i).1=b:=he;rw [hθr] at yV;exact yV
   have aal: ∀b,E.ro b->w'.heap[b]?=w.heap[b]?:=by intro b JH;refine hb.om b (r.sq b JH) fun hf=>?_;obtain⟨id,o,U,Z⟩:=hfp b hf;exact (r.live id o U).2.2 (by rw [Z]; exact JH)
   generalize hR:sa (.ap (2*j+1) (gr rn.ns)) iQ rn.ns c2 rn.bl { s with pc:=fW }=R
   have Gv: ∀i,i<c.dI.length->R.id i=rn.id i:=by
    intro i hi;have hla:i<rn.bl.length:=J
    rw [<- hR];unfold sa Ren.id;simp only [dC,bp,anp (show i<c2.dI.length by omega),amu,aT hla]
   have O4: ∀i,i<c2.dI.length->c.dI.length<=i->R.id i=s.h.next+(i-c.dI.length):=by
    intro i hi UA;have hla:rn.bl.length<=i:=J
    rw [<- hR];unfold sa Ren.id;simp only [dC,bp,anp hi,amu,am8 hla];rw [nS]
   have aiU: ∀a b,a<c2.dI.length->b<c2.dI.length->R.id a=R.id b->a=b:=by
    intro a b ha hb he;rcases bg a c.dI.length with U|U<;>rcases bg b c.dI.length with Z|Z
    ·rw [Gv a U,Gv b Z] at he;exact Md a b U Z he
    ·rw [Gv a U,O4 b hb Z] at he;have:=HO a U;omega
    ·rw [O4 a ha U,Gv b Z] at he;have:=HO b Z;omega
    ·rw [O4 a ha U,O4 b hb Z] at he;omega
   have hRl:R.ns.length=c2.k:=by rw [<- hR]; simp [sa]
   have aiT:R.sh= []:=by rw [<- hR]; rfl
   have RY: ∀a,a<c2.k->R.env E.ρ a=E'.ρ a:=by
    intro a ha;unfold Ren.env
    have hn:fu R.ns a=some (match Nat.blt a iQ with |true=>(match fu rn.ns a with |some e=>e|none=> .lit 0)|false=>ph (.ap (2*j+1) (gr rn.ns)) (a+1)):=by rw [<- hR,dC];simp [sa,ha]
    rw [hn];simp only;have hy:ys[a+1]?=some ys[a+1]:=aT J;rw [b4 a _ hy];split
    ·rename_i hb;have gu:a<iQ:=Nat.lt_of_succ_le (by simpa [Nat.blt] using hb);rw [akY _ _ HK a _ gu hy];unfold low;rw [anH,bp,dC];cases rn.ns[a]?<;>rfl
    ·exact wF Uu hy
   have akX: ∀id o,c2.st.h.get id=some o->id<c2.dI.length/\c2.dI[id]?=some o:=by
    intro id o ho;have:(oX c2.dI 0 .nil).get id=some o:=ho;rw [j5] at this;split at this
    ·exact⟨J,this⟩
    ·simp [Tr.get] at this
   have EP: ∀id o,c2.dI[id]?=some o->c2.st.h.get id=some o:=by intro id o ho;show (oX c2.dI 0 .nil).get id=_;have gu:=(bk.1 ho).1;rw [j5,ak J];exact ho
   have aiI: ∀i,E'.dm i->i<c2.dI.length:=by
    intro i hd;rcases bg i c2.dI.length with h|h
    ·exact h
    ·exact absurd hd (b6.fresh i h)
   obtain⟨p1,p2,p3,p4⟩:=yi (r:=R) (os:=c2.dI) (i:=0) (h:=s.h) fun a b _ Z _ h4 he=>aiU a b J J he;generalize hH2:(⟨(kX R c2.dI 0 s.h).m,s.h.next+(c2.dI.length-rn.bl.length),s.h.res⟩ : Hp)=H2;have aiW: ∀id,H2.get id=(kX R c2.dI 0 s.h).get id:=by intro id; rw [<- hH2]; rfl
   have aaq:H2.next=s.h.next+(c2.dI.length-c.dI.length):=by rw [<- hH2,nS]
   have aiV:H2.res=s.h.res:=by rw [<- hH2]
   have akI: ∀k o,c2.dI[k]?=some o->H2.get (R.id k)=some (R.ob o):=by intro k o hk;have:=p1 k o hk;rw [aK] at this;rw [aiW]; exact this
   have hold: ∀id,(∀k,k<c2.dI.length->R.id k≠id)->H2.get id=s.h.get id:=by intro id hid;rw [aiW];exact p2 id fun k hk he=>by rw [aK] at he; exact hid k hk he
   have qd: ∀id o,H2.get id=some o->(∃k o',id=R.id k/\c2.dI[k]?=some o'/\o=R.ob o')\/(s.h.get id=some o/\∀k,k<c2.dI.length->R.id k≠id):=by
    intro id o hg;by_cases hex: ∃k,k<c2.dI.length/\R.id k=id
    ·obtain⟨k,hk,rfl⟩:=hex;have hx:=aT hk;have:=akI k _ hx;rw [hg] at this;simp only [an] at this;exact .inl ⟨k,_,rfl,hx,this⟩
    ·have gB: ∀k,k<c2.dI.length->R.id k≠id:=fun k hk he=>hex ⟨k,hk,he⟩;rw [hold id gB] at hg;exact .inr ⟨hg,gB⟩
   let E2:En:={ ρ:=E.ρ,θ:=fun id=>if id<s.h.next then E.θ id else E'.θ (id-s.h.next+c.dI.length),κ:=fun id=>if id<s.h.next then E.κ id else E'.κ (id-s.h.next+c.dI.length),dm:=fun id=>E.dm id\/(s.h.next<=id/\id<s.h.next+(c2.dI.length-c.dI.length)),ro:=E'.ro,hd:=E.hd };have hθo: ∀id,id<s.h.next->E2.θ id=E.θ id:=fun id h=>by show (if id<s.h.next then _ else _)=_; rw [ak h]
   have hκo: ∀id,id<s.h.next->E2.κ id=E.κ id:=fun id h=>by show (if id<s.h.next then _ else _)=_; rw [ak h]
   have hθn: ∀k,k<c2.dI.length->E2.θ (R.id k)=E'.θ k:=by
    intro k hk;rcases bg k c.dI.length with h|h
    ·rw [Gv k h,hθo _ (HO k h),<- hθr,(aa4 k h).2.2.1]
    ·rw [O4 k hk h];show (if s.h.next+(k-c.dI.length)<s.h.next then _ else _)=_;rw [ah J,aob,Nat.sub_add_cancel h]
   have hκn: ∀k,k<c2.dI.length->E2.κ (R.id k)=E'.κ k:=by
    intro k hk;rcases bg k c.dI.length with h|h
    ·rw [Gv k h,hκo _ (HO k h),<- hκr,(aa4 k h).2.2.2]
    ·rw [O4 k hk h];show (if s.h.next+(k-c.dI.length)<s.h.next then _ else _)=_;rw [ah J,aob,Nat.sub_add_cancel h]
   have aiK: ∀k,k<c2.dI.length->E2.dm (R.id k):=by
    intro k hk;rcases bg k c.dI.length with h|h
    ·obtain⟨o,U⟩:=tX k h;rw [Gv k h];exact .inl (r.live _ _ U).1
    ·rw [O4 k hk h];exact .inr ⟨J,J⟩
   have uN:fU E w.heap E2 w'.heap:=⟨rfl,fun _ h=> .inl h,fun id h=>hθo id (ET id h),fun id h=>hκo id (ET id h),b7,aal⟩
   have Yy: ∀i,E'.dm i->E2.dm (R.id i)/\E2.θ (R.id i)=E'.θ i/\E2.κ (R.id i)=E'.κ i:=by intro i hd;have hi:=aiI i hd;exact⟨aiK i hi,hθn i hi,hκn i hi⟩
   unfold wb at k1;simp only [au] at k1;obtain⟨⟨ks,ko⟩,_⟩:=k1
   have u6:fj E s.h w E2 H2 w':=by
    refine⟨rfl,fun _ h=> .inl h,fun id h=>hθo id (ET id h),fun id h=>hκo id (ET id h),b7,fun b JH=>(b8 b JH).imp id .inr,by rw [aaq]; omega,by rw [aiV]; exact .inr rfl,fun id h=>?_,hb.os,hb.tape,hb.output,hb.size,fun b aff hn=>hb.om b aff fun hf=>?_,fun id o hg gu=>?_,rfl⟩
    ·rcases h with h|h
     ·exact .inl h
     ·exact .inr (.inl ⟨h.1,by rw [aaq]; exact h.2⟩)
    ·obtain⟨id,o,U,Z⟩:=hfp b hf;exact hn id o U Z
    ·rcases qd id o hg with ⟨k,o',rfl,hk,_⟩|⟨U,_⟩
     ·have OY:=(bk.1 hk).1;rcases bg k c.dI.length with h|h
      ·obtain⟨o2,Z⟩:=tX k h;exact⟨_,o2,Z,by rw [Gv k h,hθo _ (HO k h)]⟩
      ·rw [hθn k OY] at gu;have hh:w.heap.size<=(E'.θ k).1:=b9 k o' (EP k o' hk) h;omega
     ·exact⟨id,o,U,(by rw [hθo id (ET id (r.live _ _ U).1)])⟩
   have r2:bS E2 H2 w':=by
    refine⟨fun id hid=>?_,fun q hq=>?_,fun id o hg=>?_,fun i1 i2 o1 o2 U Z he=>?_,b6.sq,bJ.cD r.ku b7 uN.Cb,r.Ux u6.hd u6.size u6.sO u6.own⟩
    ·rw [aaq] at hid;rintro (h|h)
     ·exact r.fresh id J h
     ·omega
    ·rw [aiV] at hq;obtain⟨g1,g2⟩:=r.res q hq;refine⟨by rw [aaq]; omega,?_⟩;rintro (h|h)
     ·exact g2 h
     ·omega
    ·rcases qd id o hg with ⟨k,o',rfl,hk,rfl⟩|⟨Z,gB⟩
     ·have OY:=(bk.1 hk).1;obtain⟨g1,g2,g3⟩:=b6.live k o' (EP k o' hk);refine⟨aiK k OY,?_,by rw [hθn k OY]; exact g3⟩;have ho3:=OR.low (K:=c2.k) (E:=E') (E':={ E' with ρ:=R.env E.ρ }) (fun a ha=>RY a ha) rfl rfl rfl rfl (vy ko hk) g2;exact OR.back (Eo:={ E' with ρ:=R.env E.ρ }) (E2:=E2) (r:=R) (by rw [hRl]; exact k3) aiT rfl (fun i hd=>Yy i hd) rfl (id:=k) (Jk k9 hk) g1 ho3
     ·obtain⟨g1,g2,g3⟩:=r.live id o Z;have U:=ET id g1;refine⟨.inl g1,g2.cD uN g1 (hb.om _ (gx r Z) ?_) (r.Vt rfl (fun x hx hn=>hb.om x hx fun hf=>by obtain⟨id,o,U,Z⟩:=hfp x hf; exact hn id o U Z) _),?_⟩
      ·rintro⟨i,hi,he⟩;obtain⟨o',h3⟩:=tX i hi;have yV:((E.ig rn).θ i).1=(E.θ id).1:=he;rw [hθr] at yV;have:=r.inj _ id o' o h3 Z yV;have hi':i<c.dI.length:=hi;exact gB i J (by rw [Gv i hi']; exact this)
      ·rw [hθo id U];intro hr;rcases b8 _ hr with hr|hr
       ·exact g3 hr
       ·have gu:(E.θ id).1<w.heap.size:=gx r Z;have UA:w.heap.size<=(E.θ id).1:=hr;omega
    ·have mix: ∀(k:Nat) (o':dX) (id:Nat) (o:dX),c2.dI[k]?=some o'->s.h.get id=some o->(∀k,k<c2.dI.length->R.id k≠id)->(E'.θ k).1=(E.θ id).1->False:=by
      intro k o' id o hk Z gB he;have OY:=(bk.1 hk).1;rcases bg k c.dI.length with h|h
      ·obtain⟨o3,h3⟩:=tX k h;have hb3:E'.θ k=(E.ig rn).θ k:=(aa4 k h).2.2.1;rw [hb3,hθr] at he;have:=r.inj _ id o3 o h3 Z he;exact gB k OY (by rw [Gv k h]; exact this)
      ·have h3:=gx r Z;have h4:w.heap.size<=(E'.θ k).1:=b9 k o' (EP k o' hk) h;omega
     rcases qd i1 o1 U with ⟨m1,y1,rfl,z1,_⟩|⟨x2,x3⟩
     ·have hm1:=(bk.1 z1).1;rcases qd i2 o2 Z with ⟨m2,y2,rfl,z2,_⟩|⟨x4,x5⟩
      ·have hm2:=(bk.1 z2).1;rw [hθn m1 hm1,hθn m2 hm2] at he;have:=b6.inj _ _ _ _ (EP m1 y1 z1) (EP m2 y2 z2) he;rw [this]
      ·rw [hθn m1 hm1,hθo _ (ET _ (r.live _ _ x4).1)] at he;exact (mix m1 y1 i2 o2 z1 x4 x5 he).elim
     ·rcases qd i2 o2 Z with ⟨m2,y2,rfl,z2,_⟩|⟨x4,x5⟩
      ·have hm2:=(bk.1 z2).1;rw [hθn m2 hm2,hθo _ (ET _ (r.live _ _ x2).1)] at he;exact (mix m2 y2 i1 o1 z2 x2 x3 he.symm).elim
      ·rw [hθo _ (ET _ (r.live _ _ x2).1),hθo _ (ET _ (r.live _ _ x4).1)] at he;exact r.inj _ _ _ _ x2 x4 he
   refine⟨E2,u6,r2,?_⟩
   have KU:cJ E' w'.heap (c2.bG.map fun p=>p.2) us:=by refine cJ.of (by rw [b5]; simp) fun k x hk=>?_;have:=ze (tr:=.nil) k2 k x hk;rw [aK] at this;obtain⟨u,U,Z⟩:=b6.sr k x this;exact⟨u,by simpa using U,Z⟩
   have aiE:mI c2.k (c2.bG.map fun p=>p.2)=true:=by
    have: ∀{l:List (Nat×Y)},sG c2.k l=true->mI c2.k (l.map fun p=>p.2)=true:=by
     intro l
     induction l with
     |nil=>intro _; rfl
     |cons p l ih=> intro h;simp only [sG,au] at h;simp only [aH,mI,au];exact⟨h.1,ih h.2⟩
    exact this ks
   have akx:=cJ.low (K:=c2.k) (E:=E') (E':={ E' with ρ:=R.env E.ρ }) (fun a ha=>RY a ha) rfl rfl rfl rfl _ _ aiE KU;have akw:=cJ.back (Eo:={ E' with ρ:=R.env E.ρ }) (E2:=E2) (r:=R) (by rw [hRl]; exact k3) aiT rfl (fun i hd=>Yy i hd) rfl _ _ akx;exact Db akw
  ·simp [T.leaf] at q1
 ·simp [T.leaf] at W
end
end Go.As
end
section
namespace Go.As
open Go.RowKit
structure Ny where
 ok:(Nat->Prop)->Array Obj->Prop
 cD: ∀{ro n6:Nat->Prop} {h h':Array Obj},ok ro h->(∀b,ro b->n6 b)->(∀b,ro b->h'[b]?=h[b]?)->ok n6 h'
@[reducible] def Ny.ku (G:Ny) (F:oR):bJ where
 ok ρ ro h:=G.ok ro h/\Good F ρ
 cD U Z h3:=⟨G.cD U.1 Z h3,U.2⟩
 ig U Z:=⟨U.1,U.2.ig Z⟩
structure AZ where
 g:Nat
 F4:List RK
 lY:List RK
 fB:C2
 pos:Option (List Nat×CS)
 pat:Option (CS×List dX×Nat):=none
 pG:List CS:=[]
 gh:List (Nat×Nat):=[]
 wh:List Nat:=[]
 iQ:Nat:=0
 tst:List (Nat×Nat):=[]
 fz:List (Nat×Nat×Nat):=[]
 Y1:List FH:=[]
def AZ.ez (e:AZ):List dX:=match e.pat with
 |none=>[]
 |some (_,o,_)=>o
def AZ.ko (e:AZ):Nat:=match e.pat with
 |none=>0
 |some (_,_,k)=>k
structure Sys where
 P:Program
 G:Ny
 tt:TT
 ft:Nat->Option Func
 rF:Nat->Nat->List Oper->Bool
 draw:eB->Nat->Nat->List Oper->St->T St
 xM:Nat->Option (List Y->St->T (Y×St))
 lf:Nat
 depth:Nat
 CT:Nat->List Nat
 bT:Nat->Option AZ
noncomputable section
def W! (c:CS) (args:List Y) (s:St):Bool:=match quick (cC args 0 .nil) c.bG with
 |false=>false
 |true=>Nat.beq args.length c.bG.length&&c.fits A_ ⟨cC args 0 .nil,s.h,s.pc⟩ (c.lR ⟨cC args 0 .nil,s.h,s.pc⟩)&&Hr (c.lR ⟨cC args 0 .nil,s.h,s.pc⟩)
def QD (s:St):List Nat->Bool
 |[]=>true
 |t::l=>match Nat.ble 1000 t with
  |true=>match s.bG.get (t-1000) with
   |some _=>QD s l
   |none=>false
  |false=>match s.bG.get t with
   |some _=>false
   |none=>QD s l
def aiX (s:St):List (Nat×Nat)->Bool
 |[]=>true
 |(t,_)::l=>match s.bG.get t with
  |some _=>aiX s l
  |none=>false
def LD (c:CS) (gh:List (Nat×Nat)) (wh:List Nat) (args:List Y) (s:St):Bool:=match quick (cC args 0 .nil) c.bG with
 |false=>false
 |true=>QD s wh&&aiX s gh&&Nat.beq args.length c.bG.length&&c.fits A_ ⟨cC args 0 .nil,s.h,s.pc⟩ (D' s gh (c.lR ⟨cC args 0 .nil,s.h,s.pc⟩))&&Hr (D' s gh (c.lR ⟨cC args 0 .nil,s.h,s.pc⟩))
def JN:Nat->List Y->Nat->List (Nat×Nat×Nat)
 |_,[],_=>[]
 |i,v::l,f=>match v with
  | .eD _ t=>(i,f,t)::JN i l (f+1)
  |_=>JN i l (f+1)
def Dt:List (Nat×Y)->List (Nat×Nat×Nat)
 |[]=>[]
 |(i,v)::l=>match v with
  | .agg cs=>JN i cs 0++Dt l
  |_=>Dt l
def ajA (args:List Y) (p:Nat×Nat×Nat):Bool:=match fu args p.1 with
 |some v=>match v with
  | .agg xs=>match fu xs p.2.1 with
    |some _=>true
    |none=>false
  |_=>false
 |none=>false
def O7 (s:St):List (Nat×Nat)->Bool
 |[]=>true
 |(t,c)::l=>match s.bG.get t with
  |some v=>match v with
   | .int _ _=>O7 s l
   | .agg cs=>match fu cs c with
     |some x=>match x with
      | .int _ _=>O7 s l
      |_=>false
     |none=>false
   |_=>false
  |none=>false
def ai4 (c:CS) (gh:List (Nat×Nat)) (wh:List Nat) (args:List Y) (s:St):Bool:=match gh with
 |[]=>false
 |_=>QD s wh&&O7 s gh&&match Dt c.bG with
  |[]=>false
  |fz=>fz.all (ajA args)
def Sys.Ct (S:Sys):List Nat->List Y->St->T (Y×St)
 |[],_,_=> .fail
 |j::l,args,s=>match S.bT j with
  |none=> .fail
  |some e=>match e.pat with
   |none=>Yu j e.F4 e.lY args s
   |some (c,ez,ko)=>match e.pG with
    |[]=>match W! c args s with
     |true=>Ys j c e.lY ez ko args s
     |false=>S.Ct l args s
    |r::rs=>match LD c e.gh e.wh args s with
     |true=>RN j e.iQ c e.gh (r::rs) args s
     |false=>match ai4 c e.gh e.wh args s with
      |true=>Mk (Dt c.bG) args s fun adB s'=>match LD c e.gh e.wh adB s' with
       |true=>RN j e.iQ c e.gh (r::rs) adB s'
       |false=>S.Ct l args s
      |false=>S.Ct l args s
def Sys.hook (S:Sys) (g:Nat):Option (List Y->St->T (Y×St)):=match S.CT g with
 |[]=>S.xM g
 |j::l=>some (match S.xM g with
  |none=>S.Ct (j::l)
  |some h=>orElse h (S.Ct (j::l)))
def Sys.call (S:Sys):eB:=J8 S.tt S.ft S.hook S.draw S.lf S.depth
def Sys.cfg (S:Sys) (e:AZ) (fn:Func):uJ:=⟨S.tt,S.call,S.draw S.call e.g,S.lf,fn.results.toList,e.lY,e.ez,e.ko,e.pG,e.iQ,e.fz,e.Y1⟩
def oe (S:Sys) (e:AZ):T Lf:=match S.ft e.g with
 |none=> .fail
 |some fn=>match fn.body with
  |none=> .fail
  |some body=>match e.pos with
   |none=>match e.pat with
    |none=>xw (S.cfg e fn) e.fB 1000 [] body [] ⟨cC (p8 e.F4 .dK 0) 0 .nil,Hp.zero,[]⟩
    |some (c,_,_)=>xw (S.cfg e fn) e.fB 1000 [] body [] c.st
   |some (p,c)=>match pz body p with
    |some (b,fr)=>match b with
     | .loop b=>NY (fun s=>xw (S.cfg e fn) e.fB 1000 (0::p) b (.loop p b::fr) s) e.tst c.st
     |_=> .fail
    |none=> .fail
def Sys.tree (S:Sys) (j:Nat):T Lf:=match S.bT j with
 |none=> .fail
 |some e=>oe S e
end
def N? (S:Sys) (e:AZ) (body:Code):Prop:= ∀p l,e.fB p=some l->(∃b fr,pz body p=some (.loop b,fr))/\∀j c,(j,c)∈l->S.bT j=some { e with pos:=some (p,c) }/\wb c.k c=true/\c.k<=900/\e.iQ<=c.k
structure F6 (S:Sys):Prop where
 tt:eJ S.P S.tt
 ft:Ve S.P S.rF S.ft
 draw: ∀(I:bJ) call,@iY I S.P call->∀g,@wx I S.P (S.rF g) (S.draw call g)
 xM: ∀(I:bJ),(∀ρ ro h,I.ok ρ ro h->S.G.ok ro h)->∀g h,S.xM g=some h->@kR I S.P g h
 run: ∀g j,j∈S.CT g->∀(args:Array Value) (w:World),(callFunc g args).run S.P w= .ok (.enter g args) w
 num: ∀g j e,j∈S.CT g->S.bT j=some e->e.g=g/\e.pos=none/\(match e.pat with
  |none=>(px e.F4).length<=900/\e.pG= []
  |some (c,ez,_)=>wb c.k c=true/\c.k<=900/\ez.length=c.dI.length/\(e.pG≠[]->G5 e.pG=true)/\nfs c.dI=true)
 outs: ∀j e,S.bT j=some e->ny e.ko e.ez=true/\e.ko<=900/\e.iQ<=900
 bT: ∀j e,S.bT j=some e->∀fn body,S.ft e.g=some fn->fn.body=some body->N? S e body
section
variable {S:Sys}
def adF (S:Sys) (n:Nat):Prop:= ∀g j e,j∈S.CT g->S.bT j=some e->match e.pat with
 |none=>r_ S.P S.G.ok g e.F4 e.lY (eV S.tree n j)
 |some (c,ez,ko)=>match e.pG with
  |[]=>adE S.P S.G.ok g c e.lY ez ko (eV S.tree n j)
  |r::rs=>adD S.P S.G.ok g c (r::rs) (eV S.tree n j)
def adG (S:Sys) (n:Nat):Prop:= ∀j e p c,S.bT j=some e->e.pos=some (p,c)->wb c.k c=true->c.k<=900->∀fn body b fr,S.ft e.g=some fn->fn.body=some body->pz body p=some (.loop b,fr)->
 ∀(B:mV) (E:En) (a:Act) (w:World) (xs ys:List Int),e.ez.length=B.m->eV S.tree n j xs=some ys->(∀i x,xs[i]?=some x->E.ρ i=x)->xs.length=c.k->lM B E c.st a w->S.G.ok E.ro w.heap->fn.ntmps<=a.tmps.size->a.defers= []->
  Ga S.P b (KE S.P (bodyPost S.P fn (QX B e.lY e.ez e.ko e.pG ys)) fr) a w
def LfG (iQ:Nat) (fB:C2):Lf->Prop
 | .out es=> ∀a e,a<iQ->es[a+1]?=some e->e= .dK a
 | .jump j es=>(∃p l c,fB p=some l/\(j,c)∈l/\es.length=c.k)/\∀a e,a<iQ->es[a]?=some e->e= .dK a
theorem HZ: ∀{n i:Nat} {ns:List V} {a:Nat} {e:V},a<n->(Cz n i ns)[a]?=some e->e= .dK (i+a)
 |0,_,_,a,_,h,_=>by omega
 |n+1,i,[],a,e,_,h=>by simp [Cz] at h
 |n+1,i,x::ns,0,e,_,h=>by simp [Cz] at h; rw [<- h]; rfl
 |n+1,i,x::ns,a+1,e,ha,h=>by
  simp only [Cz,aM] at h;rw [HZ (n:=n) J h]
  grind
theorem Mr {iQ:Nat} {r:Ren} {a:Nat} {e:V} (ha:a<iQ) (h:(r4 iQ r).ns[a]?=some e):e= .dK a:=by
 unfold r4 at h;split at h
 ·omega
 ·have:=HZ ha h
  grind
theorem Zg {n m iQ:Nat} {s:St} {ρ:Nat->Int} {lf:Lf} {fB:C2} {l:List CS} {k:Nat} (h:(MJ n m iQ s l k).leaf ρ=some lf):LfG iQ fB lf:=by
 obtain⟨i,c,_,_,_,rfl,_⟩:=DB h;intro a e ha he
 grind [Mr]
theorem tL {m iQ:Nat} {s:St} {ρ:Nat->Int} {lf:Lf} {fB:C2} {p:List Nat} {l0:List (Nat×CS)} (hp:fB p=some l0): ∀{l:List (Nat×CS)},(∀x∈l,x∈l0)->(rO m iQ s l).leaf ρ=some lf->LfG iQ fB lf
 |[],_,h=>by simp [rO,T.leaf] at h
 |(j,c)::l,oC,h=>by
  simp only [rO] at h;split at h
  ·exact tL hp (fun x hx=>oC x (by simp [hx])) h
  ·split at h
   ·have:=bE h;subst this;exact⟨⟨p,l0,c,hp,oC _ ad,by rw [vT,tZ]⟩,fun a e ha he=>Mr ha he⟩
   ·exact tL hp (fun x hx=>oC x (by simp [hx])) h
theorem rG {α:Type} {k:St->T α} {ρ:Nat->Int} {x:α}: ∀{ts:List Nat} {s:St},(we k ts s).leaf ρ=some x->∃s',(k s').leaf ρ=some x
 |[],s,h=> ⟨s,h⟩
 |i::ts,s,h=>by
  simp only [we] at h;split at h
  ·obtain⟨pc,b,U⟩:=je h;exact rG U
  ·exact rG h
theorem A3 {α:Type} {k:St->T α} {ρ:Nat->Int} {x:α}: ∀{ts:List (Nat×Nat)} {s:St},(NY k ts s).leaf ρ=some x->∃s',(k s').leaf ρ=some x
 |[],s,h=> ⟨s,h⟩
 |(t,g)::ts,s,h=>by
  simp only [NY] at h;split at h
  ·obtain⟨pc,b,U⟩:=je h;exact A3 U
  ·exact A3 h
theorem HV {α:Type} {ρ:Nat->Int} {v:Y} {s:St} {k:Y->St->T α} {x:α} (h:(O9 v s k).leaf ρ=some x): ∃v s,(k v s).leaf ρ=some x:=by
 unfold O9 at h;split at h
 ·split at h
  ·unfold yk at h;obtain⟨_,b1,h⟩:=je h
   cases b1 with
   |true=>simp [T.leaf] at h
   |false=>
    obtain⟨_,b2,h⟩:=je h
    cases b2 with
    |true=>simp [T.leaf] at h
    |false=>
     obtain⟨_,b3,h⟩:=je h
     cases b3 with
     |true=>simp [T.leaf] at h
     |false=>exact⟨_,_,h⟩
  grind
 grind
theorem E4 {α:Type} {ρ:Nat->Int} {x:α}: ∀{vs:List Y} {s:St} {k:List Y->St->T α},(HU vs s k).leaf ρ=some x->∃vs s,(k vs s).leaf ρ=some x
 |[],s,k,h=> ⟨_,_,h⟩
 |v::vs,s,k,h=>by
  simp only [HU] at h;obtain⟨_,_,h⟩:=HV h;obtain⟨_,_,h⟩:=E4 h
  grind
theorem El {α:Type} {ρ:Nat->Int} {x:α} {t:Nat}: ∀{ov:List (V×List Y)} {e:V} {s:St} {k:V->St->T α},(Hi t ov e s k).leaf ρ=some x->∃e s,(k e s).leaf ρ=some x
 |[],e,s,k,h=> ⟨_,_,h⟩
 |(j,cs)::ov,e,s,k,h=>by
  simp only [Hi] at h;obtain⟨_,_,h⟩:=El h
  grind [E4,T.leaf]
theorem UE {α:Type} {ρ:Nat->Int} {v:Y} {s:St} {k:Y->St->T α} {x:α} (h:(O8 v s k).leaf ρ=some x): ∃v s,(k v s).leaf ρ=some x:=by
 grind [O8,El,T.leaf,HV]
theorem HT {α:Type} {ρ:Nat->Int} {x:α} {k:List Y->St->T α}: ∀{fz:List (Nat×Nat×Nat)} {vs:List Y} {s:St},(Mk fz vs s k).leaf ρ=some x->∃vs s,(k vs s).leaf ρ=some x
 |[],vs,s,h=> ⟨_,_,h⟩
 |(i,f,t)::l,vs,s,h=>by
  simp only [Mk] at h;split at h
  ·split at h
   ·obtain⟨_,_,h⟩:=UE h;split at h
    ·exact HT h
    grind [T.leaf]
   grind [T.leaf]
  grind [T.leaf]
theorem Zh {g:uJ} {fB:C2} {e:Ex} {s:St} {ρ:Nat->Int} {lf:Lf} (hr:g.pG≠[]) (h:(Zi g e s).leaf ρ=some lf):LfG g.iQ fB lf:=by
 unfold Zi at h
 grind [T.leaf,HT,Zg]
theorem R5 {g:uJ} {fB:C2} {ρ:Nat->Int} (hr:g.pG≠[]): ∀n:Nat,
 (∀p c fr s lf,(xw g fB n p c fr s).leaf ρ=some lf->LfG g.iQ fB lf)/\
 (∀fr e s lf,(ub g fB n fr e s).leaf ρ=some lf->LfG g.iQ fB lf)
 |0=> ⟨fun _ _ _ _ _ h=>by simp [xw,T.leaf] at h,fun _ _ _ _ h=>by simp [ub,T.leaf] at h⟩
 |n+1=>by
  obtain⟨Vp,Ge⟩:=R5 hr n
  have aiz:H6 g=false:=by
   cases ho:H6 g with
   |false=>rfl
   |true=>exact absurd (E7 ho).2 hr
  have hfo: ∀(c:Code) (s:St) (k:St->T Lf),UG g c s k=k s:=fun c s k=>by unfold UG; rw [aiz]
  have hpo: ∀(s:St) (k:St->T Lf),Uc g s k=k s:=fun s k=>by unfold Uc; rw [aiz]
  have lfc: ∀(c:Code) fr s lf,((g.ev c s).bind fun (e,s')=>ub g fB n fr e s').leaf ρ=some lf->LfG g.iQ fB lf:=by intro c fr s lf h;obtain⟨⟨e,s'⟩,_,Z⟩:=T.fD h;exact Ge _ _ _ _ Z
  constructor
  ·intro p c fr s lf h;unfold xw at h;split at h
   ·rename_i l W;rw [hpo] at h;obtain⟨s',U⟩:=rG h;exact tL W (fun _ h=>h) U
   ·split at h
    ·grind
    ·grind
    ·grind
    ·split at h
     ·obtain⟨pc,b,U⟩:=je h
      grind
     grind [T.leaf]
    ·rw [hfo] at h;exact lfc _ _ _ _ h
  ·intro fr e s lf h;unfold ub at h;split at h
   ·exact Zh hr h
   ·grind
   ·grind
   ·split at h
    ·split at h
     ·rename_i l W;rw [hpo] at h;obtain⟨s',U⟩:=rG h;exact tL W (fun _ h=>h) U
     grind [T.leaf]
    grind
   grind
theorem CG {e:AZ} {ρ:Nat->Int} {lf:Lf} (hr:e.pG≠[]) (h:(oe S e).leaf ρ=some lf): ∃fn body,S.ft e.g=some fn/\fn.body=some body/\LfG e.iQ e.fB lf:=by
 unfold oe at h;split at h
 ·simp [T.leaf] at h
 ·rename_i fn vc;split at h
  ·simp [T.leaf] at h
  ·rename_i body hb;refine⟨fn,body,vc,hb,?_⟩;have key: ∀n p c fr s,(xw (S.cfg e fn) e.fB n p c fr s).leaf ρ=some lf->LfG e.iQ e.fB lf:=fun n p c fr s h=>(R5 (g:=S.cfg e fn) hr n).1 _ _ _ _ _ h;split at h
   ·grind
   ·split at h
    ·split at h
     ·obtain⟨s',U⟩:=A3 h
      grind
     ·simp [T.leaf] at h
    ·simp [T.leaf] at h
theorem I4 (hs:F6 S): ∀(n j:Nat) (e:AZ) (xs ys:List Int),S.bT j=some e->e.pG≠[]->eV S.tree n j xs=some ys->∀a y,a<e.iQ->ys[a+1]?=some y->y=low xs a
 |0,_,_,_,_,_,_,h=>by simp [eV] at h
 |n+1,j,e,xs,ys,he,hr,h=>by
  intro a y ha hy;obtain⟨_,_,hg⟩:=hs.outs j e he;have HM:S.tree j=oe S e:=by unfold Sys.tree; rw [he]
  simp only [eV,HM] at h;split at h
  ·grind
  ·rename_i es W;obtain⟨_,_,_,_,rP⟩:=CG hr W;simp only [an] at h;subst h;rw [bp,aZ] at hy;obtain⟨x,hx,rfl⟩:=hy;rw [rP a x ha hx];show df _ _ a=_
   grind [tb]
  ·rename_i j' es W;obtain⟨fn,body,vc,hb,⟨p,l,c,hp,hc,hlen⟩,rP⟩:=CG hr W;obtain⟨_,hh⟩:=hs.bT j e he fn body vc hb p l hp;obtain⟨q1,_,_,q4⟩:=hh j' c hc;have:=I4 hs n j' _ _ ys q1 hr h a y ha hy;rw [this];have Vv:a<es.length:=J
   have hx:=aT Vv;unfold low;rw [anH,bp,hx];show (es[a]).den _=_;rw [rP a _ ha hx];show df _ _ a=_
   grind [tb]
theorem mr.mono {P:Program} {g:FuncId} {vals:Array Value} {w:World} {R R':Value->World->Prop} (h:mr P g vals w R) (k: ∀u w',R u w'->R' u w'):mr P g vals w R':=by
 unfold mr at h ⊢;unfold oQ at h ⊢;split at h
 ·grind
 ·exact Calls.mono h fun e w' ⟨u,he,hr⟩=> ⟨u,he,k _ _ hr⟩
 grind
theorem aa2 (hs:F6 S) {n:Nat} (h:adF S n):@iY (S.G.ku (eV S.tree n)) S.P S.call:=by
 letI I:=S.G.ku (eV S.tree n);have a1: ∀ρ ro h,I.ok ρ ro h->S.G.ok ro h:=fun _ _ _ h=>h.1;have a2: ∀ρ ro h,I.ok ρ ro h->Good (eV S.tree n) ρ:=fun _ _ _ h=>h.2;refine At hs.tt hs.ft (hook:=S.hook) ?_ (fun call hc g=>hs.draw I call hc g) S.lf S.depth
 have hL: ∀g l,(∀j∈l,j∈S.CT g)->@kR I S.P g (S.Ct l):=by
  intro g l
  induction l with
  |nil=>
   intro _ aml s E w vals v s' r hv hp W
   grind [Sys.Ct,T.leaf]
  |cons j l ih=>
   intro oC aml s E w vals v s' r hv hp W;have hj:=oC j ad;simp only [Sys.Ct] at W;split at W
   ·grind [T.leaf]
   ·rename_i e he;have vF:=h g j e hj he;obtain⟨_,_,EO⟩:=hs.num g j e hj he;obtain⟨ho1,ho2,_⟩:=hs.outs j e he
    cases tR:e.pat with
    |none=> rw [tR] at W vF;exact @Yt S.P I S.G.ok a1 (eV S.tree n) a2 g j e.F4 e.lY vF (hs.run g j hj) aml s E w vals v s' r hv hp W
    |some q=>
     obtain⟨c,ez,ko⟩:=q;rw [tR] at W vF EO;simp only at W vF EO;unfold AZ.ez AZ.ko at ho1;unfold AZ.ko at ho2;rw [tR] at ho1 ho2
     cases Bt:e.pG with
     |nil=>
      rw [Bt] at W vF;simp only at W vF;split at W
      ·exact @Yr S.P I S.G.ok a1 (eV S.tree n) a2 g j c e.lY ez ko ho1 ho2 EO.2.2.1 vF (hs.run g j hj) aml s E w vals v s' r hv hp W
      ·exact ih (fun j hj=>oC j (by simp [hj])) aml s E w vals v s' r hv hp W
     |cons r0 rs=>
      rw [Bt] at W vF;simp only at W vF;have hrp:=EO.2.2.2.1 (by rw [Bt]; simp);rw [Bt] at hrp;split at W
      ·exact @L8 S.P I S.G.ok a1 (eV S.tree n) a2 g j c e.gh e.iQ (r0::rs) hrp (fun xs ys h=>I4 hs n j e xs ys he (by rw [Bt]; simp) h) vF (hs.run g j hj) aml s E w vals v s' r hv hp W
      ·split at W
       ·obtain⟨as1,U,fW,E1,fL,f,hv1,W⟩:=JQ rfl r hp hv W;split at W
        ·rw [<- f.ρ] at W fL;have:=@L8 S.P I S.G.ok a1 (eV S.tree n) a2 g j c e.gh e.iQ (r0::rs) hrp (fun xs ys h=>I4 hs n j e xs ys he (by rw [Bt]; simp) h) vF (hs.run g j hj) as1 { s with h:=U,pc:=fW } E1 w vals v s' f.rel hv1 fL W;obtain⟨k1,k2,k3⟩:=this;rw [f.ρ] at k2;exact⟨k1,k2,mr.mono k3 fun u w' ⟨E2,q1,q2,q3⟩=> ⟨E2,f.ei.trans q1,q2,q3⟩⟩
        ·exact ih (fun j hj=>oC j (by simp [hj])) aml s E w vals v s' r hv hp W
       ·exact ih (fun j hj=>oC j (by simp [hj])) aml s E w vals v s' r hv hp W
 intro g f hf;unfold Sys.hook at hf;split at hf
 ·exact hs.xM I a1 g f hf
 ·rename_i j l hj;simp only [an] at hf;subst hf;have Z:=hL g (j::l) (by rw [hj]; exact fun _ h=>h);split
  ·exact Z
  ·rename_i h0 hh;exact wL (hs.xM I a1 g h0 hh) Z
theorem OL (hs:F6 S) {n:Nat} (h:adG S n) {j:Nat} {e:AZ} (he:S.bT j=some e) {fn:Func} {body:Code} (vc:S.ft e.g=some fn) (hb:fn.body=some body) (B:mV) (hm:e.ez.length=B.m) (ys:List Int) :
 @y! (S.G.ku (eV S.tree n)) S.P body fn.ntmps B (bodyPost S.P fn (QX B e.lY e.ez e.ko e.pG ys)) (eV S.tree n) ys e.fB:=by
 intro p l hp;obtain⟨⟨b,fr,W⟩,hh⟩:=hs.bT j e he fn body vc hb p l hp;refine⟨b,fr,W,fun j' c hc E a w t hg ⟨xs,U,Z,h3,h4⟩ hN hd=>?_⟩;obtain⟨q1,q2,q3,_⟩:=hh j' c hc;exact h j' { e with pos:=some (p,c) } p c q1 rfl q2 q3 fn body b fr vc hb W B E a w xs ys hm h4 U Z t hg.1 hN hd
theorem X4 {F:oR} {E:En} {xs:List Int} {k:Nat} (h: ∀i x,xs[i]?=some x->E.ρ i=x) (hk:xs.length=k) (h9:k<=900): ∀i,i<k->df F (low xs) i=E.ρ i:=by
 intro i hi
 grind [tb,low]
theorem Jt {tree:Nat->T Lf} {n j:Nat} {xs ys:List Int} (h:eV tree (n+1) j xs=some ys): ∃lf,(tree j).leaf (df (eV tree n) (low xs))=some lf/\Nx (eV tree n) (df (eV tree n) (low xs)) ys lf:=by
 simp only [eV] at h;split at h
 ·grind
 ·rename_i es W;simp only [an] at h;exact⟨_,W,h⟩
 ·rename_i j' es W;exact⟨_,W,h⟩
theorem QE.spec {w:World} {ro:Nat->Prop} {θ:Nat->Nat×Nat} {κ:Nat->Nat} {lY:List RK} {ys:List Int} {e:Ending} {w':World} (h:QE ⟨w,ro,0,θ,κ⟩ lY [] 0 ys e w') :
 ∃u,e= .returned u/\Below w.heap.size w w'/\∃n6:Nat->Prop,(∀b,ro b->n6 b)/\(∀b,n6 b->ro b\/w.heap.size<=b)/\(∀b,n6 b->b<w'.heap.size)/\abe lY ys n6 w'.heap u:=by
 obtain⟨u,q1,q2,n6,q3,q4,q5,_,_,q6⟩:=h;exact⟨u,q1,⟨q2.os,q2.tape,q2.output,q2.size,fun k hk=>q2.om k hk fun⟨i,hi,_⟩=>absurd hi (by show ¬i<0; omega)⟩,n6,q3,q4,q5,q6⟩
theorem Bel.refl {B:mV}:Bel B B.w0:=⟨rfl,rfl,rfl,ay _,fun _ _ _=>rfl⟩
theorem wv.grow {E:En} {s:St} {w:World} {vals:List Value} (f:wv E s { tmps:=vals.toArray,defers:=[] } w) (n:Nat):wv E s { tmps:=vals.toArray++Array.replicate n undef,defers:=[] } w:=by
 refine⟨f.fresh,f.res,f.live,f.inj,f.sq,fun t v ht=>?_,f.pc,f.hid⟩;obtain⟨u,U,Z⟩:=f.sr t v ht
 grind
theorem wv.hd0 {E:En} {s:St} {a:Act} {w:World} (f:wv E s a w) (hn: ∀id o,s.h.get id=some o->nf o=true):wv { E with hd:=fun _=>none } s a w:=by
 have k:fU E w.heap { E with hd:=fun _=>none } w.heap:=⟨rfl,fun _ h=>h,fun _ _=>rfl,fun _ _=>rfl,fun _ h=>h,fun _ _=>rfl⟩;refine⟨f.fresh,f.res,fun id o ho=>?_,f.inj,f.sq,fun t v ht=>?_,f.pc,fun b x hb=>by simp at hb⟩
 ·obtain⟨U,Z,h3⟩:=f.live id o ho;exact⟨U,Z.ab7 k U rfl (hn id o ho),h3⟩
 ·obtain⟨u,U,Z⟩:=f.sr t v ht;exact⟨u,U,VR.cD k _ _ Z⟩
theorem Xf (hs:F6 S): ∀n:Nat,adF S n/\adG S n
 |0=> ⟨fun g j e _ _=>by
  cases e.pat with
  |none=>exact fun xs ys h=>by simp [eV] at h
  |some q=>
   obtain⟨c,ez,ko⟩:=q
   cases e.pG with
   |nil=>exact fun xs ys h=>by simp [eV] at h
   |cons r rs=>exact fun xs ys h=>by simp [eV] at h,fun j e p c _ _ _ _ fn body b fr _ _ _ B E a w xs ys _ h=>by simp [eV] at h⟩
 |n+1=>by
  obtain⟨Vp,Ge⟩:=Xf hs n;letI I:=S.G.ku (eV S.tree n);have acn:=aa2 hs Vp;have k!: ∀(e:AZ) (fn:Func),P7 S.P (S.cfg e fn) (S.rF e.g):=fun e fn=> ⟨hs.tt,acn,hs.draw I S.call acn e.g⟩;constructor
  ·intro g j e hn he;obtain⟨hg,mh,EO⟩:=hs.num g j e hn he;obtain⟨oU,C',_⟩:=hs.outs j e he;have HM:S.tree j=oe S e:=by unfold Sys.tree; rw [he]
   cases tR:e.pat with
   |none=>
    rw [tR] at EO;simp only at EO ⊢;intro xs ys hx ro w vals fl lZ Mf sh hc;obtain⟨lf,U,Z⟩:=Jt hx;rw [HM] at U;unfold oe at U
    cases vc:S.ft e.g with
    |none=>rw [vc] at U; simp [T.leaf] at U
    |some fn=>
     rw [vc] at U
     cases hb:fn.body with
     |none=>simp only [hb] at U; simp [T.leaf] at U
     |some body=>
      simp only [hb,mh,tR] at U;obtain⟨hf,_,hd⟩:=hs.ft e.g fn vc;rw [hg] at hf;have nF:=hd body hb;have hlx:=hc.length.1;have Gf:e.ez= []:=by unfold AZ.ez; rw [tR]
      have YB:e.ko=0:=by unfold AZ.ko; rw [tR]
      have hvr:cJ (En.zero (df (eV S.tree n) (low xs)) ro) w.heap (p8 e.F4 .dK 0) vals:=by
       refine sU sh hc fun k x hk=>?_;have OY:=(bk.1 hk).1;rw [aK];show df _ _ k=x
       grind [tb,low]
      have pK:I.ok (df (eV S.tree n) (low xs)) ro w.heap:=⟨Mf,lK _ _⟩;let B:mV:=⟨w,ro,0,fun _=>(0,0),fun _=>0⟩
      have t0:lM B (En.zero (df (eV S.tree n) (low xs)) ro) ⟨cC (p8 e.F4 .dK 0) 0 .nil,Hp.zero,[]⟩ { tmps:=vals.toArray++Array.replicate (fn.ntmps-vals.toArray.size) undef,defers:=[] } w:=by
       have fit:Fit (En.zero (df (eV S.tree n) (low xs)) ro) ⟨cC (p8 e.F4 .dK 0) 0 .nil,Hp.zero,[]⟩ { tmps:=vals.toArray++Array.replicate (fn.ntmps-vals.toArray.size) undef,defers:=[] } w:=
        ⟨K5 _ ro w lZ pK,zL hvr _,by intro c b h; simp at h⟩
       exact⟨fit.x,fun _ h=>h,fun _ h=> .inl h,Bel.refl,fun id o h=>by simp [Hp.zero,Hp.get,Tr.get] at h,fun i hi=>absurd hi (by show ¬i<0; omega),fun b x hb=>by simp [En.zero] at hb⟩
      refine Calls.mono (calls_of_wp (R:=QX B e.lY e.ez e.ko e.pG ys) hf hb ?_) fun e' w' hq=>QE.spec (w:=w) (ro:=ro) (θ:=fun _=>(0,0)) (κ:=fun _=>0) (by rw [Gf,YB,EO.2] at hq; exact hq);exact (JM (B:=B) (k! e fn) nF rfl (by show e.ez.length=0; rw [Gf]; rfl) oU C' (OL hs Ge he vc hb B (by show e.ez.length=0; rw [Gf]; rfl) ys) 1000).1 [] body [] _ lf _ _ w rfl U Z t0 pK (by simp; omega) rfl
   |some q=>
    obtain⟨c,ez,ko⟩:=q;rw [tR] at EO;simp only at EO ⊢;obtain⟨aiM,hc9,hom,hrp,hnf⟩:=EO
    have main: ∀xs ys,eV S.tree (n+1) j xs=some ys->∀(E:En) (w:World) (vals:List Value),(∀i x,xs[i]?=some x->E.ρ i=x)->xs.length=c.k->wv E c.st { tmps:=vals.toArray,defers:=[] } w->S.G.ok E.ro w.heap->
     Calls S.P g vals.toArray w (QX ⟨w,E.ro,c.dI.length,E.θ,E.κ⟩ e.lY ez ko e.pG ys):=?_
    ·cases Bt:e.pG with
     |nil=> simp only;intro xs ys hx E w vals nH hlen fx Mf;have:=main xs ys hx E w vals nH hlen fx Mf;rw [Bt] at this;exact this
     |cons r0 rs=> simp only;intro xs ys hx E w vals nH hlen fx Mf;have:=main xs ys hx E w vals nH hlen fx Mf;rw [Bt] at this;exact this
    intro xs ys hx E0 w vals nH hlen fx0 Mf
    have fx:=fx0.hd0 fun id o ho=>by
     have:(oX c.dI 0 .nil).get id=some o:=ho;rw [j5] at this;split at this
     ·exact Jk hnf this
     ·simp [Tr.get] at this
    have hE: ∃E:En,E= { E0 with hd:=fun _=>none }:=⟨_,rfl⟩;obtain⟨E,hE⟩:=hE;rw [<- hE] at fx;have nH: ∀i x,xs[i]?=some x->E.ρ i=x:=by rw [hE]; exact nH
    have Mf:S.G.ok E.ro w.heap:=by rw [hE]; exact Mf
    have hEd:E.hd=fun _=>none:=by rw [hE]
    suffices Calls S.P g vals.toArray w (QX ⟨w,E.ro,c.dI.length,E.θ,E.κ⟩ e.lY ez ko e.pG ys) by rw [hE] at this; exact this
    obtain⟨lf,U,Z⟩:=Jt hx;rw [HM] at U;unfold oe at U
    cases vc:S.ft e.g with
    |none=>rw [vc] at U; simp [T.leaf] at U
    |some fn=>
     rw [vc] at U
     cases hb:fn.body with
     |none=>simp only [hb] at U; simp [T.leaf] at U
     |some body=>
      simp only [hb,mh,tR] at U;obtain⟨hf,_,hd⟩:=hs.ft e.g fn vc;rw [hg] at hf;have nF:=hd body hb;have Gf:e.ez=ez:=by unfold AZ.ez; rw [tR]
      have YB:e.ko=ko:=by unfold AZ.ko; rw [tR]
      let B:mV:=⟨w,E.ro,c.dI.length,E.θ,E.κ⟩
      have akW: ∀id o,c.st.h.get id=some o->id<c.dI.length:=by
       intro id o ho;have:(oX c.dI 0 .nil).get id=some o:=ho
       grind [j5,Tr.get]
      have akR: ∀id,id<c.dI.length->∃o,c.st.h.get id=some o:=by
       intro id hid;refine⟨c.dI[id],?_⟩;show (oX c.dI 0 .nil).get id=_
       grind [j5]
      have t1:lM B E c.st { tmps:=vals.toArray++Array.replicate (fn.ntmps-vals.toArray.size) undef,defers:=[] } w:=by refine⟨fx.grow _,fun _ h=>h,fun _ h=> .inl h,Bel.refl,fun id o h=> .inr ⟨id,akW id o h,rfl⟩,fun i hi=>?_,fun b x hb=>by rw [hEd] at hb; simp at hb⟩;obtain⟨o,ho⟩:=akR i hi;exact⟨(fx.live i o ho).1,rfl,rfl⟩
      have t0:=t1.low (ρ':=df (eV S.tree n) (low xs)) aiM (X4 nH hlen hc9);have pK:I.ok (df (eV S.tree n) (low xs)) E.ro w.heap:=⟨Mf,lK _ _⟩;have hm:e.ez.length=B.m:=by rw [Gf]; exact hom
      have hw:=(JM (B:=B) (k! e fn) nF rfl hm oU C' (OL hs Ge he vc hb B hm ys) 1000).1 [] body [] _ lf { E with ρ:=df (eV S.tree n) (low xs) } _ w rfl U Z t0 pK (by simp; omega) rfl;have hw':=calls_of_wp (R:=QX B e.lY e.ez e.ko e.pG ys) hf hb hw
      grind
  ·intro j e p c he mh akP h9 fn body b fr vc hb W B E a w xs ys hm hx nH hlen t Mf hN Dq;obtain⟨oU,C',_⟩:=hs.outs j e he;obtain⟨lf,U,Z⟩:=Jt hx;have HM:S.tree j=oe S e:=by unfold Sys.tree; rw [he]
   rw [HM] at U;unfold oe at U;simp only [vc,hb,mh,W] at U;obtain⟨hf,_,hd⟩:=hs.ft e.g fn vc;have nF:=hd body hb;have t':=t.low (ρ':=df (eV S.tree n) (low xs)) akP (X4 nH hlen h9);have pK:I.ok (df (eV S.tree n) (low xs)) E.ro w.heap:=⟨Mf,lK _ _⟩;refine OG ?_;obtain⟨s2,t2,RZ⟩:=IN (E:={ E with ρ:=df (eV S.tree n) (low xs) }) U t';exact (JM (B:=B) (k! e fn) nF rfl hm oU C' (OL hs Ge he vc hb B hm ys) 1000).1 (0::p) b (.loop p b::fr) s2 lf { E with ρ:=df (eV S.tree n) (low xs) } a w (by simp only [pz,W]) RZ Z t2 pK hN Dq
theorem Xe (hs:F6 S) {g j:Nat} {e:AZ} (hn:j∈S.CT g) (he:S.bT j=some e) (hp:e.pat=none) (n:Nat):r_ S.P S.G.ok g e.F4 e.lY (eV S.tree n j):=by
 have:=(Xf hs n).1 g j e hn he
 grind
end
end Go.As
end
section
namespace Go.As
open Go.RowKit
def CA:List (Nat×Nat)->Nat->Option Nat
 |[],_=>none
 |(t,k)::l,x=>match Nat.beq t x with
  |true=>some k
  |false=>CA l x
def LG (l:List (Nat×Nat)) (tt:TT):TT:=fun t=>match tt t with
 |some i=>some { i with own:=CA l t }
 |none=>none
section
variable {P:Program}
theorem W? {l:List (Nat×Nat)} {tt:TT} (h:eJ P tt):eJ P (LG l tt):=by
 intro t i hi;unfold LG at hi;split at hi
 ·rename_i j hj;simp only [an] at hi;subst hi;obtain⟨U,Z⟩:=h t j hj;exact⟨U,Z⟩
 grind
theorem OJ (l:List (Nat×Nat)) (tt:TT):kindOf (LG l tt)=kindOf tt:=by
 funext op;cases op
 case convert t u x=>
  simp only [kindOf,LG]
  cases ht:tt t with
  |none=>rfl
  |some i=>
   grind
 all_goals rfl
theorem HG (l:List (Nat×Nat)) (tt:TT) (all:List Oper) (ms:List Nat): ∀(os:List Oper) (i n:Nat),items (LG l tt) all ms os i n=items tt all ms os i n
 |[],_,_=>rfl
 |o::os,i,n=>by simp only [items,OJ,HG l tt all ms os]
theorem Xk (l:List (Nat×Nat)) (tt:TT) (all:List Oper):stat (LG l tt) all=stat tt all:=by
 unfold stat
 simp only [HG]
theorem k_ (l:List (Nat×Nat)) (tt:TT) (H:Nat->Nat->Option AQ):KA (LG l tt) H=KA tt H:=by funext g id all;unfold KA;simp only [vI,Xk]
end
structure FE where
 no:Nat
 g:Nat
 F4:List RK
 lY:List RK
 pat:Option (CS×List dX×Nat):=none
 pG:List CS:=[]
 gh:List (Nat×Nat):=[]
 wh:List Nat:=[]
 iQ:Nat:=0
 tst:List (Nat×Nat):=[]
 fz:List (Nat×Nat×Nat):=[]
 Y1:List FH:=[]
 loops:List (List Nat×CS):=[]
def idxs (p:List Nat):List (List Nat×CS)->Nat->List (Nat×CS)
 |[],_=>[]
 |(q,c)::l,j=>match iu q p with
  |true=>(j,c)::idxs p l (j+1)
  |false=>idxs p l (j+1)
def FE.fB (f:FE):C2:=fun p=>match idxs p f.loops (f.no+1) with
 |[]=>none
 |x::l=>some (x::l)
def FE.ent (f:FE):AZ:=⟨f.g,f.F4,f.lY,f.fB,none,f.pat,f.pG,f.gh,f.wh,f.iQ,f.tst,f.fz,f.Y1⟩
def uY (t:Nat->Option FE) (j:Nat):Option AZ:=match t (j / 50) with
 |none=>none
 |some f=>match j % 50 with
  |0=>some f.ent
  |i+1=>match fu f.loops i with
   |some x=>some { f.ent with pos:=some x }
   |none=>none
def Yi:Option (Code×List FrE)->Bool
 |some (c,_)=>match c with
  | .loop _=>true
  |_=>false
 |none=>false
def Jp (iQ:Nat) (body:Code) (x:List Nat×CS):Bool:=Yi (pz body x.1)&&wb x.2.k x.2&&Nat.ble x.2.k 900&&Nat.ble iQ x.2.k
def aib {α:Type}:List α->Bool
 |[]=>true
 |_=>false
def Y5 (ft:Nat->Option Func) (k:Nat) (f:FE):Bool:=Nat.beq f.no (50*k)&&Nat.blt f.loops.length 50&&Nat.ble f.iQ 900&&
 (match f.pat with
  |none=>Nat.ble (px f.F4).length 900&&aib f.pG
  |some (c,ez,ko)=>wb c.k c&&Nat.ble c.k 900&&Nat.beq ez.length c.dI.length&&G5 f.pG&&ny ko ez&&Nat.ble ko 900&&nfs c.dI)&&
 (match ft f.g with
  |some fn=>match fn.body with
   |some body=>f.loops.all (Jp f.iQ body)
   |none=>false
  |none=>false)
def LL (ft:Nat->Option Func) (t:Nat->Option FE) (g:Nat) (l:List Nat):Bool:=
 l.all fun j=>Nat.beq (j % 50) 0&&match t (j / 50) with
  |some f=>Nat.beq f.g g&&(match ft g with
   |some fn=>fn.body.isSome
   |none=>false)
  |none=>false
theorem Fu: ∀{a b:List Nat},iu a b=true->a=b
 |[],[],_=>rfl
 |[],_::_,h=>by simp [iu] at h
 |_::_,[],h=>by simp [iu] at h
 |a::x,b::y,h=>by
  simp only [iu] at h;split at h
  ·rename_i U;rw [az U,Fu h]
  grind
theorem zM {p:List Nat}: ∀{l:List (List Nat×CS)} {n j:Nat} {c:CS},(j,c)∈idxs p l n->∃i,l[i]?=some (p,c)/\j=n+i
 |[],n,j,c,h=>by simp [idxs] at h
 |(q,c0)::l,n,j,c,h=>by
  simp only [idxs] at h;split at h
  ·rename_i hq;rcases aF.1 h with h|h
   ·simp only [aq] at h;obtain⟨rfl,rfl⟩:=h;exact⟨0,by rw [Fu hq]; rfl,rfl⟩
   ·obtain⟨i,U,Z⟩:=zM h;exact⟨i+1,by simpa using U,J⟩
  ·obtain⟨i,U,Z⟩:=zM h;exact⟨i+1,by simpa using U,J⟩
structure U4 where
 P:Program
 G:Ny
 tt:TT
 ft:Nat->Option Func
 rF:Nat->Nat->List Oper->Bool
 draw:eB->Nat->Nat->List Oper->St->T St
 xM:Nat->Option (List Y->St->T (Y×St))
 t:Nat->Option FE
 CT:Nat->List Nat
noncomputable def U4.sys (S:U4):Sys:=⟨S.P,S.G,S.tt,S.ft,S.rF,S.draw,S.xM,40,60,S.CT,uY S.t⟩
theorem Fv {t:Nat->Option FE} {j:Nat} {e:AZ} (h:uY t j=some e): ∃f pos,t (j / 50)=some f/\e= { f.ent with pos:=pos }:=by
 unfold uY at h;split at h
 ·grind
 ·rename_i f hf;split at h
  ·simp only [an] at h;exact⟨f,none,hf,h.symm⟩
  grind
theorem P! {S:U4} (U:eJ S.P S.tt) (Z:Ve S.P S.rF S.ft) (h3: ∀(I:bJ) call,@iY I S.P call->∀g,@wx I S.P (S.rF g) (S.draw call g)) (h4: ∀(I:bJ),(∀ρ ro h,I.ok ρ ro h->S.G.ok ro h)->∀g h,S.xM g=some h->@kR I S.P g h)
 (h5: ∀k f,S.t k=some f->Y5 S.ft k f=true) (h6: ∀g,LL S.ft S.t g (S.CT g)=true):F6 S.sys where
 tt:=U
 ft:=Z
 draw:=h3
 xM:=h4
 run:=by
  intro g j hj args w;have hn:=h6 g;unfold LL at hn;have:=bj.1 hn j hj;simp only [au] at this;obtain⟨_,h⟩:=this;split at h
  ·simp only [au] at h;obtain⟨_,h⟩:=h;split at h
   ·rename_i fn vc;obtain⟨q1,q2,_⟩:=Z g fn vc;obtain⟨c,hb⟩:=amS.1 h;unfold callFunc;simp [U4.sys,q1,hb,by simpa using q2]
   ·simp at h
  ·simp at h
 num:=by
  intro g j e hj he;have hn:=h6 g;unfold LL at hn;have:=bj.1 hn j hj;simp only [au] at this;obtain⟨hm,h⟩:=this;have hm:=az hm;have yV:uY S.t j=some e:=he;unfold uY at yV;split at h
  ·rename_i f hf;rw [hf,hm] at yV;simp only [an] at yV;subst yV;simp only [au] at h;have pI:=h5 _ _ hf;unfold Y5 at pI;simp only [au] at pI;obtain⟨⟨_,hp⟩,_⟩:=pI;refine⟨az h.1,rfl,?_⟩
   show (match f.pat with
    |none=>_
    |some (c,ez,_)=>_)
   cases tR:f.pat with
   |none=>
    rw [tR] at hp;simp only [au] at hp;refine⟨amC hp.1,?_⟩;show f.pG= []
    cases hr:f.pG with
    |nil=>rfl
    |cons a l=>rw [hr] at hp; simp [aib] at hp
   |some q=> obtain⟨c,ez,ko⟩:=q;rw [tR] at hp;simp only [au] at hp;obtain⟨⟨⟨⟨⟨⟨p1,p2⟩,p3⟩,p4⟩,_⟩,_⟩,p7⟩:=hp;exact⟨p1,amC p2,az p3,fun _=>p4,p7⟩
  ·simp at h
 outs:=by
  intro j e he;obtain⟨f,pos,hf,rfl⟩:=Fv he;have pI:=h5 _ _ hf;unfold Y5 at pI;simp only [au] at pI;obtain⟨⟨⟨_,hg⟩,hp⟩,_⟩:=pI;refine⟨?_,?_,amC hg⟩
  ·unfold AZ.ez AZ.ko;show ny (match f.pat with |none=>0|some (_,_,k)=>k) (match f.pat with |none=>[]|some (_,o,_)=>o)=true
   cases tR:f.pat with
   |none=>rfl
   |some q=> obtain⟨c,ez,ko⟩:=q;rw [tR] at hp;simp only [au] at hp;exact hp.1.1.2
  ·unfold AZ.ko;show (match f.pat with |none=>0|some (_,_,k)=>k)<=900
   cases tR:f.pat with
   |none=>exact amR _
   |some q=> obtain⟨c,ez,ko⟩:=q;rw [tR] at hp;simp only [au] at hp;exact amC hp.1.2
 bT:=by
  intro j e he fn body vc hb;obtain⟨f,pos,hf,rfl⟩:=Fv he;have pI:=h5 _ _ hf;unfold Y5 at pI;simp only [au] at pI;obtain⟨⟨⟨⟨tW,hlen⟩,_⟩,_⟩,W⟩:=pI;have tW:=az tW;have hlen:f.loops.length<50:=Nat.lt_of_succ_le (by simpa [Nat.blt] using hlen);have ak0:S.ft f.g=some fn:=vc;rw [ak0] at W;simp only [hb] at W;intro p l hp;have fQ:f.fB p=some l:=hp
  have hl0:l=idxs p f.loops (f.no+1)/\l≠[]:=by
   unfold FE.fB at fQ;split at fQ
   ·simp at fQ
   ·rename_i x l' hx;simp only [an] at fQ;rw [hx,fQ];exact⟨rfl,by rw [<- fQ]; simp⟩
  have hD: ∀i c,f.loops[i]?=some (p,c)->Jp f.iQ body (p,c)=true:=fun i c hi=>bj.1 W _ (amm hi);constructor
  ·obtain⟨Bx,hl2⟩:=hl0
   cases hc:l with
   |nil=>exact absurd hc hl2
   |cons x l'=>
    obtain⟨j',c⟩:=x;have:(j',c)∈idxs p f.loops (f.no+1):=by rw [<- Bx,hc]; simp
    obtain⟨i,hi,_⟩:=zM this;have:=hD i c hi;unfold Jp at this;simp only [au] at this;have hi:=this.1.1.1;unfold Yi at hi;split at hi
    ·rename_i c' fr heq;split at hi
     ·rename_i b;exact⟨b,fr,heq⟩
     ·simp at hi
    ·simp at hi
  ·intro j' c hc;rw [hl0.1] at hc;obtain⟨i,hi,rfl⟩:=zM hc;have dU:=(bk.1 hi).1;have:=hD i c hi;unfold Jp at this;simp only [au] at this;obtain⟨⟨⟨_,q1⟩,q2⟩,q3⟩:=this;refine⟨?_,q1,amC q2,amC q3⟩;show uY S.t (f.no+1+i)=_;have hd:(f.no+1+i) / 50=j / 50:=by rw [tW]; omega
   have hm:(f.no+1+i) % 50=i+1:=by rw [tW]; omega
   unfold uY;rw [hd,hf,hm];simp only;rw [dC,hi]
end Go.As
end
section
namespace Go.As
open Go.RowKit
def u8L (l:List Int):List Y:=l.map fun n=> .int .u8 (.lit n)
noncomputable section
def a0 (j:Nat) (l:List V):V:=.ap (2*j) (gr l)
def a1 (j:Nat) (l:List V):V:=.ap (2*j+1) (gr l)
def rr (j:Nat) (l:List V) (i:Nat):V:=ph (.ap (2*j+1) (gr l)) i
def nm (x:V):V:=.op .num x (.lit 0)
def mk (x:V):V:=.op .mk x (.lit 0)
def ln (x:V):V:=.op .len x (.lit 0)
def ce (j:Nat) (x:V):V:=.op (.cell j) x (.lit 0)
def el (x y:V):V:=.op .at x y
def cn (x y:V):V:=.op .cons x y
def wr (x:V):V:=.wrap .i64 x
def sp (c:SB) (a b:T Lf):T Lf:=.split c a b
def ou (l:List V):T Lf:=.ret (.out l)
def ju (j:Nat) (l:List V):T Lf:=.ret (.jump j l)
def fl:T Lf:=.fail
end
end Go.As
end
section
namespace Go.As
open Go.RowKit
def xn (kn:List (Nat×V)):V->Bool
 | .ap f a=>xn kn a&&kn.any fun p=>Nat.beq f (2*p.1+1)&&fm a p.2
 | .op _ a b=>xn kn a&&xn kn b
 | .add a b=>xn kn a&&xn kn b
 | .sub a b=>xn kn a&&xn kn b
 | .mul a b=>xn kn a&&xn kn b
 | .quo a b=>xn kn a&&xn kn b
 | .rem a b=>xn kn a&&xn kn b
 | .wrap _ a=>xn kn a
 | .xK _ _=>false
 | .lit _=>true
 | .eD _=>true
 | .dK i=>Nat.blt i 900
def A! (kn:List (Nat×V)):SB->Bool
 | .lit _=>true
 | .lt a b=>xn kn a&&xn kn b
 | .le a b=>xn kn a&&xn kn b
 | .eq a b=>xn kn a&&xn kn b
 | .not a=>A! kn a
 | .and a b=>A! kn a&&A! kn b
def BV:SB->Option (Nat×V)
 | .eq x y=>match x with
   | .ap f a=>match y with
     | .lit n=>match vC n 1&&Nat.beq (f % 2) 0 with
       |true=>some (f / 2,a)
       |false=>none
     |_=>none
   |_=>none
 |_=>none
def aeX:T Lf->Bool
 | .fail=>true
 |_=>false
def XN (kn:List (Nat×V)):List V->Bool
 |[]=>true
 |e::l=>xn kn e&&XN kn l
def NH (kn:List (Nat×V)):T Lf->Bool
 | .fail=>true
 | .ret l=>match l with
   | .out es=>XN kn es
   | .jump _ es=>XN kn es
 | .split c x y=>match BV c with
   |some p=>xn kn p.2&&NH (p::kn) x&&aeX y
   |none=>A! kn c&&NH kn x&&NH kn y
inductive RS where
 |no
 |out (ys:List Int)
 |jump (j:Nat) (xs:List Int)
noncomputable def ei (ρ:Nat->Int):T Lf->RS
 | .fail=> .no
 | .ret l=>match l with
   | .out es=> .out (es.map (V.den ρ))
   | .jump j es=> .jump j (es.map (V.den ρ))
 | .split c x y=>if c.den ρ=true then ei ρ x else ei ρ y
theorem zn {tree:Nat->T Lf} {n j:Nat} {xs:List Int}:eV tree (n+1) j xs=match ei (df (eV tree n) (low xs)) (tree j) with
 | .no=>none
 | .out ys=>some ys
 | .jump j' xs'=>eV tree n j' xs':=by
 have: ∀t:T Lf,(match t.leaf (df (eV tree n) (low xs)) with
  |none=>none
  |some (.out es)=>some (es.map (V.den (df (eV tree n) (low xs))))
  |some (.jump j' es)=>eV tree n j' (es.map (V.den (df (eV tree n) (low xs)))))=match ei (df (eV tree n) (low xs)) t with
  | .no=>none
  | .out ys=>some ys
  | .jump j' xs'=>eV tree n j' xs':=by
  intro t
  induction t with
  |fail=>rfl
  |ret l=>cases l<;>rfl
  |split c x y ihx ihy=>
   grind [T.leaf,ei]
 exact this (tree j)
def Fle (F F':oR):Prop:= ∀j xs ys,F j xs=some ys->F' j xs=some ys
def Kn (F F':oR) (lo:Nat->Int) (kn:List (Nat×V)):Prop:= ∀p∈kn,p.2.den (df F lo)=p.2.den (df F' lo)/\∃xs ys,p.2.den (df F lo)=mX xs/\F p.1 xs=some ys
theorem Ii {F:oR} {lo:Nat->Int} {j:Nat} {z:Int} (h:df F lo (jO (2*j) z)=1): ∃xs ys,z=mX xs/\F j xs=some ys:=by
 have U:=wj (2*j) z;unfold df at h;rw [ah J] at h;split at h
 ·rename_i hp;obtain⟨q1,q2⟩:=tf hp.choose_spec;have q1:hp.choose.1=j:=J
  split at h
  ·rename_i hs;obtain⟨ys,hy⟩:=amS.1 hs
   grind
  ·omega
 ·split at h
  ·rename_i hp;have:=(tf hp.choose_spec).1;omega
  ·omega
section
variable {F F':oR} {lo:Nat->Int}
theorem gb (hF:Fle F F') {kn:List (Nat×V)} (hk:Kn F F' lo kn): ∀{e:V},xn kn e=true->e.den (df F lo)=e.den (df F' lo)
 | .ap f a,h=>by simp only [xn,au] at h;have ha:=gb hF hk h.1;obtain⟨p,hp,hq⟩:=an9.1 h.2;simp only [au] at hq;have U:=az hq.1;have Z:=cX _ _ hq.2;subst Z;obtain⟨k1,xs,ys,k2,k3⟩:=hk p hp;simp only [V.den];rw [<- k1,k2,U,(lK F lo p.1 xs).2,(lK F' lo p.1 xs).2,k3,hF _ _ _ k3]
 | .op o a b,h=>by simp only [xn,au] at h; simp only [V.den,gb hF hk h.1,gb hF hk h.2]
 | .add a b,h=>by simp only [xn,au] at h; simp only [V.den,gb hF hk h.1,gb hF hk h.2]
 | .sub a b,h=>by simp only [xn,au] at h; simp only [V.den,gb hF hk h.1,gb hF hk h.2]
 | .mul a b,h=>by simp only [xn,au] at h; simp only [V.den,gb hF hk h.1,gb hF hk h.2]
 | .quo a b,h=>by simp only [xn,au] at h; simp only [V.den,gb hF hk h.1,gb hF hk h.2]
 | .rem a b,h=>by simp only [xn,au] at h; simp only [V.den,gb hF hk h.1,gb hF hk h.2]
 | .wrap k a,h=>by simp only [xn] at h; simp only [V.den,gb hF hk h]
 | .xK _ _,h=>by simp [xn] at h
 | .lit _,_=>rfl
 | .eD _,_=>rfl
 | .dK i,h=>by simp_all [xn,V.den,tb]
theorem zA (hF:Fle F F') {kn:List (Nat×V)} (hk:Kn F F' lo kn): ∀{c:SB},A! kn c=true->c.den (df F lo)=c.den (df F' lo)
 | .lit _,_=>rfl
 | .lt a b,h=>by simp only [A!,au] at h; simp only [SB.den,gb hF hk h.1,gb hF hk h.2]
 | .le a b,h=>by simp only [A!,au] at h; simp only [SB.den,gb hF hk h.1,gb hF hk h.2]
 | .eq a b,h=>by simp only [A!,au] at h; simp only [SB.den,gb hF hk h.1,gb hF hk h.2]
 | .not a,h=>by simp only [A!] at h; simp only [SB.den,zA hF hk h]
 | .and a b,h=>by simp only [A!,au] at h; simp only [SB.den,zA hF hk h.1,zA hF hk h.2]
theorem vx (hF:Fle F F') {kn:List (Nat×V)} (hk:Kn F F' lo kn): ∀{es:List V},XN kn es=true->es.map (V.den (df F lo))=es.map (V.den (df F' lo))
 |[],_=>rfl
 |e::l,h=>by simp only [XN,au] at h;simp only [aH,gb hF hk h.1,vx hF hk h.2]
theorem CJ {c:SB} {p:Nat×V} (h:BV c=some p):c= .eq (.ap (2*p.1) p.2) (.lit 1):=by
 cases c with
 |eq x y=>
  cases x with
  |ap f a=>
   cases y with
   |lit n=>
    simp only [BV] at h;split at h
    ·rename_i hb;simp only [an] at h;simp only [au] at hb;have U:=wV hb.1;have Z:=az hb.2
     grind
    grind
   |_=>simp [BV] at h
  |_=>simp [BV] at h
 |_=>simp [BV] at h
theorem zd (hF:Fle F F'): ∀{t:T Lf} {kn:List (Nat×V)},Kn F F' lo kn->NH kn t=true->ei (df F lo) t≠.no->ei (df F' lo) t=ei (df F lo) t
 | .fail,_,_,_,h=>absurd rfl h
 | .ret (.out es),_,hk,ho,_=>by simp only [NH] at ho; simp only [ei,vx hF hk ho]
 | .ret (.jump j es),_,hk,ho,_=>by simp only [NH] at ho; simp only [ei,vx hF hk ho]
 | .split c x y,kn,hk,ho,h=>by
   simp only [NH] at ho;split at ho
   ·rename_i p hp;simp only [au] at ho;obtain⟨⟨U,Z⟩,h3⟩:=ho;have hc:=CJ hp;subst hc
    have hy:y= .fail:=by
     grind [aeX]
    subst hy;have hd:=gb hF hk U;simp only [ei,SB.den,V.den] at h ⊢;by_cases h4:df F lo (jO (2*p.1) (p.2.den (df F lo)))=1
    ·obtain⟨xs,ys,e1,e2⟩:=Ii h4;have e3:=hF _ _ _ e2
     have h5:df F' lo (jO (2*p.1) (p.2.den (df F' lo)))=1:=by rw [<- hd,e1,(lK F' lo p.1 xs).1,e3];rfl
     have c4:(df F lo (jO (2*p.1) (p.2.den (df F lo))) == 1)=true:=by rw [h4]; rfl
     have c5:(df F' lo (jO (2*p.1) (p.2.den (df F' lo))) == 1)=true:=by rw [h5]; rfl
     simp only [c4,c5,if_true] at h ⊢;refine zd hF (kn:=p::kn) ?_ Z h;intro q hq;rcases aF.1 hq with rfl|hq
     ·grind
     ·exact hk q hq
    grind
   ·simp only [au] at ho;obtain⟨⟨U,Z⟩,h3⟩:=ho;have hc:=zA hF hk U;simp only [ei] at h ⊢;rw [<- hc];by_cases h4:c.den (df F lo)=true
    ·rw [ak h4] at h ⊢;rw [ak h4];exact zd hF hk Z h
    ·rw [ah h4] at h ⊢;rw [ah h4];exact zd hF hk h3 h
end
section
variable {tree:Nat->T Lf} (pI: ∀j,NH [] (tree j)=true)
include pI
theorem G0 {n:Nat} {F':oR} (hF:Fle (eV tree n) F') {j:Nat} {xs ys:List Int} (h:eV tree (n+1) j xs=some ys) :
 (match ei (df F' (low xs)) (tree j) with
 | .no=>none
 | .out ys=>some ys
 | .jump j' xs'=>F' j' xs')=some ys:=by
 rw [zn] at h
 have gB:ei (df (eV tree n) (low xs)) (tree j)≠.no:=by
  intro he
  grind
 rw [zd hF (kn:=[]) (by intro p hp; simp at hp) (pI j) gB];split at h
 ·grind
 ·rename_i heq; exact h
 ·rename_i heq; exact hF _ _ _ h
theorem G3: ∀n,Fle (eV tree n) (eV tree (n+1))
 |0=>fun j xs ys h=>by simp [eV] at h
 |n+1=>fun j xs ys h=>by rw [zn (n:=n+1)];exact G0 pI (G3 n) h
theorem zo {n m:Nat} (h:n<=m):Fle (eV tree n) (eV tree m):=by
 induction h with
 |refl=>exact fun _ _ _ h=>h
 |step _ ih=>exact fun j xs ys h=>G3 pI _ _ _ _ (ih _ _ _ h)
end
open Classical in
noncomputable def pA (tree:Nat->T Lf):oR:=fun j xs=>if h: ∃n ys,eV tree n j xs=some ys then some h.choose_spec.choose else none
section
variable {tree:Nat->T Lf} (pI: ∀j,NH [] (tree j)=true)
include pI
theorem OI {n j:Nat} {xs ys:List Int} (h:eV tree n j xs=some ys):pA tree j xs=some ys:=by
 unfold pA;have he: ∃n ys,eV tree n j xs=some ys:=⟨n,ys,h⟩;rw [dif_pos he];have Z:=he.choose_spec.choose_spec;have h3:=zo pI (Nat.le_max_left n he.choose) _ _ _ h;have h4:=zo pI (Nat.le_max_right n he.choose) _ _ _ Z
 grind
omit pI in
theorem Js {j:Nat} {xs ys:List Int} (h:pA tree j xs=some ys): ∃n,eV tree n j xs=some ys:=by
 unfold pA at h;split at h
 all_goals grind
theorem ED (n:Nat):Fle (eV tree n) (pA tree):=fun _ _ _ h=>OI pI h
def KnS (tree:Nat->T Lf) (n0:Nat) (lo:Nat->Int) (kn:List (Nat×V)):Prop:= ∀m,n0<=m->Kn (eV tree m) (pA tree) lo kn
theorem vk {lo:Nat->Int}: ∀{t:T Lf} {kn:List (Nat×V)} (n0:Nat),KnS tree n0 lo kn->NH kn t=true->ei (df (pA tree) lo) t≠.no->∃n,∀m,n<=m->ei (df (eV tree m) lo) t=ei (df (pA tree) lo) t
 | .fail,_,_,_,_,h=>absurd rfl h
 | .ret (.out es),_,n0,hk,ho,_=> ⟨n0,fun m hm=>by simp only [NH] at ho; simp only [ei,vx (ED pI m) (hk m hm) ho]⟩
 | .ret (.jump j es),_,n0,hk,ho,_=> ⟨n0,fun m hm=>by simp only [NH] at ho; simp only [ei,vx (ED pI m) (hk m hm) ho]⟩
 | .split c x y,kn,n0,hk,ho,h=>by
   simp only [NH] at ho;split at ho
   ·rename_i p hp;simp only [au] at ho;obtain⟨⟨U,Z⟩,h3⟩:=ho;have hc:=CJ hp;subst hc
    have hy:y= .fail:=by
     grind [aeX]
    subst hy;have hd: ∀m,n0<=m->p.2.den (df (eV tree m) lo)=p.2.den (df (pA tree) lo):=fun m hm=>gb (ED pI m) (hk m hm) U;simp only [ei,SB.den,V.den] at h ⊢;by_cases h4:df (pA tree) lo (jO (2*p.1) (p.2.den (df (pA tree) lo)))=1
    ·have c4:(df (pA tree) lo (jO (2*p.1) (p.2.den (df (pA tree) lo))) == 1)=true:=by rw [h4]; rfl
     obtain⟨xs,ys,e1,e2⟩:=Ii h4;obtain⟨n1,e3⟩:=Js e2;simp only [c4,if_true] at h ⊢
     have Cu:KnS tree (max n0 n1) lo (p::kn):=by
      intro m hm q hq;rcases aF.1 hq with rfl|hq
      ·refine⟨hd m J,xs,ys,by rw [hd m J]; exact e1,zo pI (show n1<=m by omega) _ _ _ e3⟩
      ·exact hk m J q hq
     obtain⟨n2,h5⟩:=vk (max n0 n1) Cu Z h;refine⟨max (max n0 n1) n2,fun m hm=>?_⟩
     have c5:(df (eV tree m) lo (jO (2*p.1) (p.2.den (df (eV tree m) lo))) == 1)=true:=by rw [hd m J,e1,(lK (eV tree m) lo p.1 xs).1,zo pI (show n1<=m by omega) _ _ _ e3];rfl
     grind
    grind
   ·simp only [au] at ho;obtain⟨⟨U,Z⟩,h3⟩:=ho;have hc: ∀m,n0<=m->c.den (df (eV tree m) lo)=c.den (df (pA tree) lo):=fun m hm=>zA (ED pI m) (hk m hm) U;simp only [ei] at h ⊢;by_cases h4:c.den (df (pA tree) lo)=true
    ·rw [ak h4] at h;obtain⟨n2,h5⟩:=vk n0 hk Z h;refine⟨max n0 n2,fun m hm=>?_⟩
     grind
    ·rw [ah h4] at h;obtain⟨n2,h5⟩:=vk n0 hk h3 h;refine⟨max n0 n2,fun m hm=>?_⟩
     grind
noncomputable def fin (F:oR):RS->Option (List Int)
 | .no=>none
 | .out ys=>some ys
 | .jump j xs=>F j xs
theorem aeS (j:Nat) (xs:List Int):pA tree j xs=fin (pA tree) (ei (df (pA tree) (low xs)) (tree j)):=by
 cases h:pA tree j xs with
 |some ys=>
  obtain⟨n,hn⟩:=Js h
  cases n with
  |zero=>simp [eV] at hn
  |succ n=> have:=G0 pI (ED pI n) hn;rw [<- this];cases ei (df (pA tree) (low xs)) (tree j)<;>rfl
 |none=>
  cases hs:ei (df (pA tree) (low xs)) (tree j) with
  |no=>rfl
  |out ys=>
   exfalso;obtain⟨n,hn⟩:=vk pI (lo:=low xs) (t:=tree j) (kn:=[]) 0 (by intro m _ p hp; simp at hp) (pI j) (by rw [hs]; simp);have:eV tree (n+1) j xs=some ys:=by rw [zn,hn n (ay _),hs]
   grind [OI]
  |jump j' xs'=>
   show none=pA tree j' xs'
   cases Z:pA tree j' xs' with
   |none=>rfl
   |some ys=>
    exfalso;obtain⟨n,hn⟩:=vk pI (lo:=low xs) (t:=tree j) (kn:=[]) 0 (by intro m _ p hp; simp at hp) (pI j) (by rw [hs]; simp);obtain⟨n2,h3⟩:=Js Z
    have:eV tree (max n n2+1) j xs=some ys:=by rw [zn,hn _ (Nat.le_max_left _ _),hs];exact zo pI (Nat.le_max_right n n2) _ _ _ h3
    grind [OI]
end
theorem Tx {S:U4} {j:Nat} (h:uY S.t j=none):NH [] (S.sys.tree j)=true:=by
 have:S.sys.tree j= .fail:=by unfold Sys.tree;show (match uY S.t j with |none=>T.fail|some e=>oe S.sys e)=_;rw [h]
 rw [this];rfl
def Ym (j:Nat):List Nat->Bool
 |[]=>false
 |i::l=>match Nat.beq i j with
  |true=>true
  |false=>Ym j l
theorem L5 {j:Nat}: ∀{l:List Nat},Ym j l=true->j∈l
 |[],h=>by simp [Ym] at h
 |i::l,h=>by
  simp only [Ym] at h;split at h
  ·rename_i hb;rw [az hb];simp
  ·exact anq _ (L5 h)
def adx (t:Nat->Option FE) (N:Nat) (l:List Nat):Bool:=(List.range N).all fun k=>match t k with
 |none=>true
 |some f=>(List.range (f.loops.length+1)).all fun i=>Ym (50*k+i) l
theorem cov {t:Nat->Option FE} {N:Nat} {l:List Nat} (h:adx t N l=true) (hN: ∀k,N<=k->t k=none) {j:Nat} {e:AZ} (he:uY t j=some e):j∈l:=by
 unfold uY at he;split at he
 ·grind
 ·rename_i f hf
  have hk:j / 50<N:=by
   grind
  have:=bj.1 h _ (amB.2 hk);rw [hf] at this
  have hm:j % 50<f.loops.length+1:=by
   split at he
   ·omega
   ·rename_i i hi;split at he
    ·rename_i x hx;rw [dC] at hx
     grind
    grind
  have:=L5 (bj.1 this _ (amB.2 hm))
  grind
theorem X8 {α:Type} {n:Nat} {t:Tr α} {k:Nat} (h:n<=k):HE n t k=none:=by unfold HE;rw [ano h]
section
variable {F:oR} {lo:Nat->Int} {ρ:Nat->Int} {xs:List Int}
theorem ey (c:SB) (a b:T Lf):ei ρ (sp c a b)=if c.den ρ=true then ei ρ a else ei ρ b:=rfl
theorem iT (l:List V):ei ρ (ou l)= .out (l.map (V.den ρ)):=rfl
theorem lX (j:Nat) (l:List V):ei ρ (ju j l)= .jump j (l.map (V.den ρ)):=rfl
theorem tA:ei ρ fl= .no:=rfl
theorem bQ {i:Nat} (h:i<900):(V.dK i).den (df F lo)=lo i:=tb h
theorem bL (x:Int):low (x::xs) 0=x:=rfl
theorem bO (x:Int) (i:Nat):low (x::xs) (i+1)=low xs i:=rfl
theorem da (n:Int):(V.lit n).den ρ=n:=rfl
theorem gM (d:D):(V.eD d).den ρ=enc d:=rfl
theorem den_add (a b:V):(V.add a b).den ρ=a.den ρ+b.den ρ:=rfl
theorem aaY (a b:V):(V.sub a b).den ρ=a.den ρ-b.den ρ:=rfl
theorem v8 (a:V):(wr a).den ρ=IntKind.i64.wrap (a.den ρ):=rfl
theorem BR (a:V):(nm a).den ρ=(dec (a.den ρ)).n:=rfl
theorem FF (a:V):(mk a).den ρ=enc (.i (a.den ρ)):=rfl
theorem gj (a:V):(ln a).den ρ=((dec (a.den ρ)).l.length:Int):=rfl
theorem e? (j:Nat) (a:V):(ce j a).den ρ=enc ((dec (a.den ρ)).hd j):=rfl
theorem BS (a b:V):(el a b).den ρ=enc ((dec (a.den ρ)).at (b.den ρ)):=rfl
theorem FG (a b:V):(cn a b).den ρ=enc (.p (dec (a.den ρ)) (dec (b.den ρ))):=rfl
theorem FD (o:fT) (a b:V):(V.op o a b).den ρ=o.den (a.den ρ) (b.den ρ):=rfl
theorem gv (j:Nat) (l:List V):(a0 j l).den (df F lo)=if (F j (l.map (V.den (df F lo)))).isSome=true then 1 else 0:=by unfold a0;show df F lo (jO (2*j) ((gr l).den (df F lo)))=_;rw [jU,(lK F lo j _).1]
theorem fS (j:Nat) (l:List V) (i:Nat):(rr j l i).den (df F lo)=low ((F j (l.map (V.den (df F lo)))).getD []) i:=by unfold rr ph;show (dec (enc ((dec (df F lo (jO (2*j+1) ((gr l).den (df F lo))))).hd i))).n=_;rw [jU,(lK F lo j _).2,bC];simp only [mX,bC,D.hd,bD,bp];unfold low;rw [anH];cases ((F j (l.map (V.den (df F lo)))).getD [])[i]?<;>rfl
theorem gz (a b:V):((SB.eq a b).den ρ=true)=(a.den ρ=b.den ρ):=by simp [SB.den]
theorem lO (a b:V):((SB.lt a b).den ρ=true)=(a.den ρ<b.den ρ):=by simp [SB.den]
theorem eG (a:SB):((SB.not a).den ρ=true)= ¬(a.den ρ=true):=by simp [SB.den]
end
def eE:IntKind->Int->Prop
 | .i64,n=> -9223372036854775808<=n/\n<=9223372036854775807
 | .u8,n=>0<=n/\n<=255
 |_,_=>True
def te:Nat->Nat
 |0=>8
 |1=>8
 |2=>16
 |3=>56
 |4=>64
 |5=>64
 |6=>56
 |7=>80
 |8=>64
 |9=>40
 |10=>24
 |11=>24
 |12=>16
 |13=>40
 |14=>1
 |15=>24
 |16=>48
 |_=>1
theorem l! (t:Nat):1<=te t:=by
 unfold te
 grind
inductive Wd:CK->D->Prop where
 |int (k:IntKind) (n:Int) (h:eE k n):Wd (.int k) (.i n)
 |bool (b:Bool):Wd .bool (.i (if b then 1 else 0))
 |str (s:ByteArray) (h:s.size<=140737488351232):Wd .str (uD s)
 |nil (t:Nat):Wd (.sl t) (.i 1)
 |wO (t:Nat):Wd (.sl t) (.i 2)
 |one (t:Nat) (c:CK) (ds:List D) (hr:rowOf t= .one c) (hn:ds≠[]) (hm:ds.length*te t<=140737488351232) (h: ∀d∈ds,Wd c d):Wd (.sl t) (dL ds)
 |many (t:Nat) (cs:List CK) (rows:List (List D)) (hr:rowOf t= .many cs) (hn:rows≠[]) (hm:rows.length*te t<=140737488351232) (W: ∀r∈rows,r.length=cs.length)
  (h: ∀r∈rows,∀(j:Nat) (d:D) (c:CK),r[j]?=some d->cs[j]?=some c->Wd c d):Wd (.sl t) (dL (rows.map dL))
def Sh (d:D):Prop:=d= .i 1\/d= .i 2\/(d=dL d.l/\d.l≠[])
theorem Wd.sh {t:Nat} {d:D} (h:Wd (.sl t) d):Sh d:=by
 cases h with
 |nil=>exact .inl rfl
 |wO=>exact .inr (.inl rfl)
 |one _ c ds hr hn hm h=>exact .inr (.inr ⟨by rw [bD],by rw [bD]; exact hn⟩)
 |many _ cs rows hr hn hm W h=>exact .inr (.inr ⟨by rw [bD],by rw [bD]; simpa using hn⟩)
theorem Wd.i {k:IntKind} {d:D} (h:Wd (.int k) d): ∃n,d= .i n/\eE k n:=by
 cases h with
 |int _ n h=>exact⟨n,rfl,h⟩
theorem Wd.b {d:D} (h:Wd .bool d):d= .i 0\/d= .i 1:=by
 cases h with
 |bool b=>cases b<;>simp
theorem Wd.s {d:D} (h:Wd .str d): ∃s,d=uD s:=by
 cases h with
 |str s=>exact⟨s,rfl⟩
theorem Wd.room {t:Nat} {d:D} (h:Wd (.sl t) d):d.l.length*te t<=140737488351232:=by
 cases h with
 |nil=>simp [D.l]
 |wO=>simp [D.l]
 |one _ c ds hr hn hm h=>rw [bD]; exact hm
 |many _ cs rows hr hn hm W h=>rw [bD,bu]; exact hm
theorem Wd.len {t:Nat} {d:D} (h:Wd (.sl t) d):d.l.length<=140737488351232:=
 bq (Nat.le_mul_of_pos_right _ (l! t)) h.room
theorem Wd.el1 {t:Nat} {c:CK} {d:D} (h:Wd (.sl t) d) (hr:rowOf t= .one c): ∀x∈d.l,Wd c x:=by
 cases h with
 |nil=>intro x hx; simp [D.l] at hx
 |wO=>intro x hx; simp [D.l] at hx
 |one _ c' ds L7 hn hm h=>
  rw [hr] at L7;simp only [Row.one.injEq] at L7;subst L7;intro x hx;rw [bD] at hx
  grind
 |many _ cs rows L7 hn hm W h=>rw [hr] at L7; simp at L7
theorem Wd.elN {t:Nat} {cs:List CK} {d:D} (h:Wd (.sl t) d) (hr:rowOf t= .many cs): ∀x∈d.l,∃r,x=dL r/\r.length=cs.length/\∀(j:Nat) (y:D) (c:CK),r[j]?=some y->cs[j]?=some c->Wd c y:=by
 cases h with
 |nil=>intro x hx; simp [D.l] at hx
 |wO=>intro x hx; simp [D.l] at hx
 |one _ c' ds L7 hn hm h=>rw [hr] at L7; simp at L7
 |many _ mw rows L7 hn hm W h=>
  rw [hr] at L7;simp only [Row.many.injEq] at L7;subst L7;intro x hx;rw [bD] at hx
  grind
def isDecl (x:D):Prop:= ∃(k n ln:Int) (s s':ByteArray),x=dL [.i k,uD s,.i n,uD s',.i ln]/\eE .u8 k/\eE .i64 n/\eE .i64 ln
def wU (x:D):Prop:= ∃(o c d g:Int) (r v:D),x=dL [.i o,.i c,.i d,.i g,r,v]/\eE .i64 o/\eE .i64 c/\(d=0\/d=1)/\eE .i64 g/\Wd (.sl 0) r/\Wd (.sl 0) v
theorem ai5 {α:Type} {r:List α} (h:r.length=5): ∃a b c d e,r= [a,b,c,d,e]:=by
 match r,h with
 |[a,b,c,d,e],_=>exact⟨a,b,c,d,e,rfl⟩
theorem six {α:Type} {r:List α} (h:r.length=6): ∃a b c d e f,r= [a,b,c,d,e,f]:=by
 match r,h with
 |[a,b,c,d,e,f],_=>exact⟨a,b,c,d,e,f,rfl⟩
theorem Wd.decl {d:D} (h:Wd (.sl 3) d): ∀x∈d.l,isDecl x:=by intro x hx;obtain⟨r,rfl,W,hc⟩:=h.elN (cs:=[.int .u8,.str,.int .i64,.str,.int .i64]) rfl x hx;obtain⟨a,b,c,d,e,rfl⟩:=ai5 W;obtain⟨k,rfl,hk⟩:=(hc 0 _ _ rfl rfl).i;obtain⟨s,rfl⟩:=(hc 1 _ _ rfl rfl).s;obtain⟨n,rfl,hn⟩:=(hc 2 _ _ rfl rfl).i;obtain⟨s',rfl⟩:=(hc 3 _ _ rfl rfl).s;obtain⟨ln,rfl,OX⟩:=(hc 4 _ _ rfl rfl).i;exact⟨k,n,ln,s,s',rfl,hk,hn,OX⟩
theorem Wd.mM {d:D} (h:Wd (.sl 7) d): ∀x∈d.l,wU x:=by
 intro x hx;obtain⟨r,rfl,W,hc⟩:=h.elN (cs:=[.int .i64,.int .i64,.bool,.int .i64,.sl 0,.sl 0]) rfl x hx;obtain⟨a,b,c,d,e,f,rfl⟩:=six W;obtain⟨o,rfl,ho⟩:=(hc 0 _ _ rfl rfl).i;obtain⟨k,rfl,hk⟩:=(hc 1 _ _ rfl rfl).i;obtain⟨g,rfl,hg⟩:=(hc 3 _ _ rfl rfl).i;rcases (hc 2 _ _ rfl rfl).b with rfl|rfl
 ·exact⟨o,k,0,g,e,f,rfl,ho,hk,.inl rfl,hg,hc 4 _ _ rfl rfl,hc 5 _ _ rfl rfl⟩
 ·exact⟨o,k,1,g,e,f,rfl,ho,hk,.inr rfl,hg,hc 4 _ _ rfl rfl,hc 5 _ _ rfl rfl⟩
theorem mK {z:Int} (U: -9223372036854775808<=z) (Z:z<=9223372036854775807):IntKind.i64.wrap z=z:=IntWalk.i64_in z ⟨U,Z⟩
theorem bP {n:Nat} (h:n<9223372036854775807):IntKind.i64.wrap ((n:Int)+1)=((n+1:Nat):Int):=by rw [mK J J]; omega
theorem nD (n:Int):(D.i n).n=n:=rfl
theorem l_p (a b:D):(D.p a b).l=a::b.l:=rfl
theorem jr (n:Int):(D.i n).l= []:=rfl
theorem eT (l:List D) (j:Nat):(dL l).hd j=(l[j]?).getD (.i 0):=by unfold D.hd; rw [bD]
theorem mJ (d:D) (i:Nat):d.at (i:Int)=(d.l[i]?).getD (.i 0):=rfl
theorem bV {d:D} {i:Nat} (h:i<d.l.length):d.at (i:Int)=d.l[i]:=by rw [mJ,aT h];rfl
end Go.As
end
section
namespace Go.As
open Go Go.RowKit
theorem add_add (a:Addr) (m n:Nat):(a.add m).add n=a.add (m+n):=by
 unfold Addr.add;by_cases U:m=0
 ·subst U; simp
 ·by_cases Z:n=0
  ·subst Z; simp
  ·simp [U,Z,amq]
def lP (i:Nat):List CK:=match rowOf i with
 | .one c=>[c]
 | .many cs=>cs
def E6 (F:TypeId->Option (List CK)) (P:Program):List Field->Nat->Nat->Option (List CK)
 |[],o,tot=>if o=tot then some [] else none
 |f::fs,o,tot=>match F f.type with
  |none=>none
  |some cs=>if f.offset=o/\P.cellsOf f.type=cs.length then (match E6 F P fs (o+cs.length) tot with
   |none=>none
   |some l=>some (cs++l)) else none
def s8 (P:Program) (own:TypeId->Option Nat):Nat->TypeId->Option (List CK)
 |0,_=>none
 |n+1,t=>match P.underlying t with
  |some .bool=>some [.bool]
  |some (.int k)=>some [.int k]
  |some .string=>some [.str]
  |some (.slice _)=>match own t with
   |some i=>some [.sl i]
   |none=>none
  |some (.struct fs)=>E6 (s8 P own n) P fs.toList 0 (P.cellsOf t)
  |some (.array m e)=>match s8 P own n e with
   |some cs=>if P.cellsOf e=cs.length/\P.cellsOf t=m*cs.length then some (List.replicate m cs).flatten else none
   |none=>none
  |_=>none
def x? (P:Program) (own:TypeId->Option Nat):Prop:= ∀t i,own t=some i->∃e n,P.underlying t=some (.slice e)/\s8 P own n e=some (lP i)/\P.cellsOf e=(lP i).length/\te i<=P.bytesOf e/\0<(lP i).length
inductive Rs (ro:Nat->Prop) (h:Array Obj):List CK->List D->List Value->Prop where
 |nil:Rs ro h [] [] []
 |cons {c:CK} {d:D} {v:Value} {cs:List CK} {ds:List D} {vs:List Value} (r:Rd ro h c d v) (w:Wd c d) (t:Rs ro h cs ds vs):Rs ro h (c::cs) (d::ds) (v::vs)
section
variable {ro:Nat->Prop} {h:Array Obj}
theorem Rs.append {cs mw:List CK} {ds ds':List D} {vs NC:List Value} (a:Rs ro h cs ds vs) (b:Rs ro h mw ds' NC):Rs ro h (cs++mw) (ds++ds') (vs++NC):=by
 induction a with
 |nil=>exact b
 |cons r w _ ih=>exact .cons r w ih
theorem Rs.len {cs:List CK} {ds:List D} {vs:List Value} (a:Rs ro h cs ds vs):ds.length=cs.length/\vs.length=cs.length:=by
 induction a with
 |nil=>exact⟨rfl,rfl⟩
 |cons r w _ ih=>exact⟨by simp [ih.1],by simp [ih.2]⟩
theorem Rs.at {cs:List CK} {ds:List D} {vs:List Value} (a:Rs ro h cs ds vs): ∀{j:Nat} {d:D} {c:CK},ds[j]?=some d->cs[j]?=some c->∃v,vs[j]?=some v/\Rd ro h c d v/\Wd c d:=by
 induction a with
 |nil=>intro j d c U _; simp at U
 |cons r w _ ih=>
  intro j d c U Z
  cases j with
  |zero=> simp only [aL,an] at U Z;subst U Z;exact⟨_,rfl,r,w⟩
  |succ j=> simp only [aM] at U Z;obtain⟨v,h3,h4⟩:=ih U Z;exact⟨v,by simpa using h3,h4⟩
end
theorem aa9 {l:List Nat} {m:Nat} (h:l.all (·<=m)=true): ∀x∈l,x<=m:=fun x hx=>by simpa using bj.1 h x hx
theorem Oy {l:List Nat} {m:Nat} (h: ∀x∈l,x<=m):l.all (·<=m)=true:=bj.2 fun x hx=>by simpa using h x hx
theorem aa8 {l l':List Nat} {m:Nat} (h:l.all (·<=m)=true) (s: ∀x∈l',x∈l):l'.all (·<=m)=true:=Oy fun x hx=>aa9 h x (s x hx)
theorem vg {H:Type} {P:Program} {e:TypeId}: ∀{l:List (DataW H)} {d:DataW H},d∈l->∀x∈d.weights P e,x∈DataW.weightsAll P e l
 |[],_,h,_,_=>by simp at h
 |d'::l,d,h,x,hx=>by
  simp only [DataW.weightsAll,amt];rcases aF.1 h with rfl|h
  ·exact .inl hx
  ·exact .inr (vg h x hx)
section
variable {P:Program} {own:TypeId->Option Nat} (ok:x? P own) {H:Type} {en:TypeId×Value->H} {Z':World}
abbrev NF (Z':World):Nat->Prop:=fun b=>b<Z'.heap.size
theorem S3 {b o:Nat} {v:Value} (h:Z'.cell? ⟨b,o,none⟩ = some v):b<Z'.heap.size:=by
 rw [oM] at h;unfold kJ at h;split at h
 ·rename_i hb;exact (amD.1 hb).1
 ·simp at h
def Reads (P:Program) (own:TypeId->Option Nat) (en:TypeId×Value->H) (Z':World) (fuel:Nat):Prop:=
 ∀(t:TypeId) (n:Nat) (Gy:List CK) (cs:List Value) (x:DataW H×List MemPlace),s8 P own n t=some Gy->DataW.trod en P Z' 0 (fun _=>true) true fuel t cs=some x->(x.1.weights P t).all (·<=reachBytes)=true->∃ds,Rs (NF Z') Z'.heap Gy ds cs
theorem Cf {fuel:Nat} (ih:Reads P own en Z' fuel) {n:Nat} {cs:List Value} {tot:Nat} (W:cs.length=tot): ∀(fs:List Field) (o:Nat) (Gy:List CK) (xs:List (DataW H×List MemPlace)),E6 (s8 P own n) P fs o tot=some Gy->xs.length=fs.length->
 (∀(i:Nat) (f:Field),fs[i]?=some f->DataW.trod en P Z' 0 (fun _=>true) true fuel f.type ((cs.drop f.offset).take (P.cellsOf f.type))=xs[i]?)->
 (DataW.weightsEach P (fs.map (·.type)) (xs.map (·.1))).all (·<=reachBytes)=true->∃ds,Rs (NF Z') Z'.heap Gy ds (cs.drop o)
 |[],o,Gy,xs,hf,_,_,_=>by
  simp only [E6] at hf;split at hf
  ·rename_i ho;simp only [an] at hf;subst hf;rw [anI J];exact⟨[],.nil⟩
  ·simp at hf
 |f::fs,o,Gy,[],_,hx,_,_=>by simp at hx
 |f::fs,o,Gy,x::xs,hf,hx,ht,hw=>by
  simp only [E6] at hf;split at hf
  ·simp at hf
  ·rename_i c1 U;split at hf
   ·rename_i ho;split at hf
    ·simp at hf
    ·rename_i l hl2;simp only [an] at hf;subst hf;have h0:=ht 0 f rfl;rw [ho.1,ho.2] at h0;simp only [aH,DataW.weightsEach,anJ,au] at hw;obtain⟨ds,r1⟩:=ih f.type n c1 _ x U h0 hw.1;obtain⟨ds',r2⟩:=Cf ih W fs (o+c1.length) l xs hl2 (by simpa using hx) (fun i g hg=>ht (i+1) g (by simpa using hg)) hw.2;refine⟨ds++ds',?_⟩
     have e:cs.drop o=(cs.drop o).take c1.length++cs.drop (o+c1.length):=by rw [<- aoa,amE]
     rw [e];exact r1.append r2
   ·simp at hf
include ok in
theorem Lv {fuel:Nat} (ih:Reads P own en Z' fuel) {t e:TypeId} {i:Nat} (ht:P.underlying t=some (.slice e)) (ho:own t=some i) {cs:List Value} {x:DataW H×List MemPlace} (hx:DataW.trod en P Z' 0 (fun _=>true) true (fuel+1) t cs=some x) (hw:(x.1.weights P t).all (·<=reachBytes)=true) :
 ∃d v,cs= [v]/\Rd (NF Z') Z'.heap (.sl i) d v/\Wd (.sl i) d:=by
 obtain⟨e',nf,ht',hfl,hce,hby,mh⟩:=ok t i ho;rw [ht] at ht';simp only [an,TypeDesc.slice.injEq] at ht';subst ht';rcases DataW.trod_slice ht hx with ⟨rfl,rfl⟩|⟨a,len,cap,elems,rest,n,hn,rfl,rfl,_,hlc,_,hlen,hel,_,_⟩
 ·exact⟨.i 1,_,rfl,.nil i,.nil i⟩
 ·simp only [Nat.succ.injEq] at hn;subst hn;rcases am0 len with h0|h0
  ·subst h0;exact⟨.i 2,_,rfl,.wO i a cap,.wO i⟩
  ·simp only [DataW.weights,ht,List.all_cons,anJ,au,decide_eq_true_eq,bu] at hw
   have row: ∀k,k<len->∃cs ds,Z'.cells? 0 (a.add (k*(lP i).length)) (lP i).length=some cs/\Rs (NF Z') Z'.heap (lP i) ds cs:=by intro k hk;have he:=hel k hk;rw [aT J,hce,anv] at he;obtain⟨cs,U,Z⟩:=he;obtain⟨ds,hr⟩:=ih e nf (lP i) cs _ hfl Z (aa8 hw.2.1 (vg (List.mem_map_of_mem (aG _))));exact⟨cs,ds,U,hr⟩
   obtain⟨b,o,spot⟩:=a
   have aiu:spot=none:=by obtain⟨cs,ds,U,hr⟩:=row 0 h0;obtain⟨_,h4,h5⟩:=World.cells?_some U;have:=h5 0 mh;rw [aT J] at this;simpa [Addr.add] using World.cell?_spot this
   subst aiu
   have cell: ∀k,k<len->∃ds vs,Rs (NF Z') Z'.heap (lP i) ds vs/\∀j,j<(lP i).length->kJ Z'.heap b (o+k*(lP i).length+j)=vs[j]?:=by
    intro k hk;obtain⟨cs,ds,U,hr⟩:=row k hk;obtain⟨_,h4,h5⟩:=World.cells?_some U;refine⟨ds,cs,hr,fun j hj=>?_⟩;have:=h5 j hj;rw [add_add] at this;have e2:(Addr.mk b o none).add (k*(lP i).length+j)=⟨b,o+k*(lP i).length+j,none⟩:=by simp [Addr.add,amq]
    rw [e2,oM] at this;exact this
   have hb:b<Z'.heap.size:=by obtain⟨ds,vs,hr,hc⟩:=cell 0 h0;have:=hc 0 mh;rw [aT (by rw [hr.len.2]; exact mh),<- oM] at this;exact S3 this
   have aci:len*te i<=140737488351232:=by
    have U:(elems.length+rest.length)*P.bytesOf e<=reachBytes:=hw.1
    have Z:len*te i<=(elems.length+rest.length)*P.bytesOf e:=anQ J hby
    have h3:reachBytes=140737488351232:=rfl;omega
   classical
   let ds:Nat->List D:=fun k=>if h:k<len then (cell k h).choose else [];let vs:Nat->List Value:=fun k=>if h:k<len then (cell k h).choose_spec.choose else []
   have spec: ∀k,k<len->Rs (NF Z') Z'.heap (lP i) (ds k) (vs k)/\∀j,j<(lP i).length->kJ Z'.heap b (o+k*(lP i).length+j)=(vs k)[j]?:=by intro k hk;have e1:ds k=(cell k hk).choose:=dif_pos hk;have e2:vs k=(cell k hk).choose_spec.choose:=dif_pos hk;rw [e1,e2];exact (cell k hk).choose_spec.choose_spec
   have get: ∀{k:Nat} {r:List D},((List.range len).map ds)[k]?=some r->k<len/\r=ds k:=by
    intro k r hk;rw [bp] at hk
    have Gg:k<len:=by
     rcases bg k len with h|h
     ·exact h
     ·rw [am8 (by simpa using h)] at hk; simp at hk
    rw [anp Gg] at hk;simp only [amu,an] at hk;exact⟨Gg,hk.symm⟩
   cases iD:rowOf i with
   |one c=>
    have Mc:lP i= [c]:=by unfold lP; rw [iD]
    have ai3: ∀{k:Nat} {d:D},((List.range len).map fun k=>(ds k).headD (.i 0))[k]?=some d->k<len/\d=(ds k).headD (.i 0):=by
     intro k d hk;rw [bp] at hk
     have Gg:k<len:=by
      rcases bg k len with h|h
      ·exact h
      ·rw [am8 (by simpa using h)] at hk; simp at hk
     rw [anp Gg] at hk;simp only [amu,an] at hk;exact⟨Gg,hk.symm⟩
    have sp1: ∀k,k<len->∃d v,ds k= [d]/\kJ Z'.heap b (o+k)=some v/\Rd (NF Z') Z'.heap c d v/\Wd c d:=by
     intro k hk;obtain⟨hr,hc⟩:=spec k hk;rw [Mc] at hr hc
     match Vt:ds k,hvk:vs k,hr with
     |[d],[v],.cons r w .nil=> have:=hc 0 ad;rw [hvk] at this;exact⟨d,v,rfl,by simpa using this,r,w⟩
    have e:len=((List.range len).map fun k=>(ds k).headD (.i 0)).length:=ad
    have r:=Rd.one (ro:=NF Z') (h:=Z'.heap) i c b o cap ((List.range len).map fun k=>(ds k).headD (.i 0)) (fun k=>(vs k).headD undef) iD (by rw [<- e]; exact hlc) hb
     (fun k d hd=>by
      obtain⟨hk,rfl⟩:=ai3 hd;obtain⟨hr,hc⟩:=spec k hk;rw [Mc] at hr hc;have:=hc 0 ad
      match Vt:ds k,hvk:vs k,hr with
      |[d],[v],.cons r w .nil=>
       rw [hvk] at this
       simpa using this)
     (fun k d hd=>by
      obtain⟨hk,rfl⟩:=ai3 hd;obtain⟨hr,hc⟩:=spec k hk;rw [Mc] at hr
      match Vt:ds k,hvk:vs k,hr with
      |[d],[v],.cons r w .nil=>exact r)
    rw [<- e] at r;refine⟨_,_,rfl,r,.one i c _ iD (fun h=>by have:=congrArg List.length h; simp at this; omega) (by rw [<- e]; exact aci) fun d hd=>?_⟩;obtain⟨k,hk,rfl⟩:=bd.1 hd;obtain⟨d,v,U,_,_,w⟩:=sp1 k (by simpa using hk);rw [U];exact w
   |many Gy=>
    have Mc:lP i=Gy:=by unfold lP; rw [iD]
    have e:len=((List.range len).map ds).length:=ad
    have hlr: ∀r∈(List.range len).map ds,r.length=Gy.length:=by intro r hr;obtain⟨k,hk,rfl⟩:=bd.1 hr;have:=(spec k (by simpa using hk)).1.len.1;rw [Mc] at this;exact this
    have r:=Rd.many (ro:=NF Z') (h:=Z'.heap) i Gy b o cap ((List.range len).map ds) (fun k j=>((vs k)[j]?).getD undef) iD (by rw [<- e]; exact hlc) hb hlr
     (fun k r j d hr hj=>by
      obtain⟨hk,rfl⟩:=get hr;obtain⟨OU,hc⟩:=spec k hk;rw [Mc] at OU hc
      have YD:j<Gy.length:=by have:=(bk.1 hj).1;rw [OU.len.1] at this;exact this
      rw [hc j YD,aT (by rw [OU.len.2]; exact YD)]
      rfl)
     (fun k r j d c hr hj hcj=>by
      obtain⟨hk,rfl⟩:=get hr;obtain⟨OU,hc⟩:=spec k hk;rw [Mc] at OU;obtain⟨v,U,Z,_⟩:=OU.at hj hcj;show Rd (NF Z') Z'.heap c d (((vs k)[j]?).getD undef);rw [U]
      exact Z)
    rw [<- e] at r;refine⟨_,_,rfl,r,.many i Gy _ iD (fun h=>by have:=congrArg List.length h; simp at this; omega) (by rw [<- e]; exact aci) hlr fun r hr j d c hj hcj=>?_⟩;obtain⟨k,hk,rfl⟩:=bd.1 hr;have OU:=(spec k (by simpa using hk)).1;rw [Mc] at OU;obtain⟨v,_,_,h3⟩:=OU.at hj hcj;exact h3
theorem Ea {fuel:Nat} (ih:Reads P own en Z' fuel) {n:Nat} {cs:List Value} {e:TypeId} {c1:List CK} (U:s8 P own n e=some c1): ∀(xs:List (DataW H×List MemPlace)) (i:Nat),cs.length=(i+xs.length)*c1.length->
 (∀(j:Nat),j<xs.length->DataW.trod en P Z' 0 (fun _=>true) true fuel e ((cs.drop ((i+j)*c1.length)).take c1.length)=xs[j]?)->
 (DataW.weightsAll P e (xs.map (·.1))).all (·<=reachBytes)=true->∃ds,Rs (NF Z') Z'.heap (List.replicate xs.length c1).flatten ds (cs.drop (i*c1.length))
 |[],i,W,_,_=>by rw [anI (by rw [W]; simp)];exact⟨[],.nil⟩
 |x::xs,i,W,ht,hw=>by
  have h0:=ht 0 ad;rw [bw] at h0;simp only [aH,DataW.weightsAll,anJ,au] at hw;obtain⟨ds,r1⟩:=ih e n c1 _ x U h0 hw.1
  obtain⟨ds',r2⟩:=Ea ih U xs (i+1) (by rw [W,aQ]; congr 1; omega) (fun j hj=>by
   have:=ht (j+1) (by simpa using hj);rw [show i+1+j=i+(j+1) by omega]
   simpa using this) hw.2
  refine⟨ds++ds',?_⟩
  have e1:cs.drop (i*c1.length)=(cs.drop (i*c1.length)).take c1.length++cs.drop ((i+1)*c1.length):=by rw [Nat.succ_mul,<- aoa,amE]
  rw [e1,aQ,an0,List.flatten_cons];exact r1.append r2
include ok in
theorem I7: ∀fuel:Nat,Reads P own en Z' fuel
 |0=>fun t n Gy cs x _ hx _=>by simp [DataW.trod] at hx
 |fuel+1=>fun t n Gy cs x hf hx hw=>by
  cases n with
  |zero=>simp [s8] at hf
  |succ n=>
   unfold s8 at hf;split at hf
   ·rename_i ht;simp only [an] at hf;subst hf;obtain⟨b,rfl,_⟩:=DataW.trod_bool ht hx;exact⟨_,.cons (.bool b) (.bool b) .nil⟩
   ·rename_i k ht;simp only [an] at hf;subst hf;obtain⟨z,rfl,_,xr⟩:=DataW.trod_int ht hx;refine⟨_,.cons (.int k z) (.int k z ?_) .nil⟩;simp only [Lit.wf,au,decide_eq_true_eq] at xr;cases k<;>first |exact xr|trivial
   ·rename_i ht;simp only [an] at hf;subst hf;obtain⟨s,rfl,rfl,_⟩:=DataW.trod_string ht hx;refine⟨_,.cons (.str s) (.str s ?_) .nil⟩;simp only [DataW.weights,List.all_cons,List.all_nil,Bool.and_true,decide_eq_true_eq] at hw;exact hw
   ·rename_i e ht;split at hf
    ·rename_i i ho;simp only [an] at hf;subst hf;obtain⟨d,v,rfl,r,w⟩:=Lv ok (I7 fuel) ht ho hx hw;exact⟨_,.cons r w .nil⟩
    ·simp at hf
   ·rename_i fs ht;obtain⟨xs,m,hm,rfl,W,hxl,nH⟩:=DataW.trod_struct ht hx;simp only [Nat.succ.injEq] at hm;subst hm
    have hw':(DataW.weightsEach P (fs.toList.map (·.type)) (xs.map (·.1))).all (·<=reachBytes)=true:=by simp only [DataW.weights,ht] at hw;exact hw
    have:=Cf (I7 fuel) W fs.toList 0 Gy xs hf (by simpa using hxl) (fun i f hi=>nH i f (by simpa using hi)) hw';simpa using this
   ·rename_i m e ht;split at hf
    ·rename_i c1 U;split at hf
     ·rename_i hce;simp only [an] at hf;subst hf;obtain⟨xs,m',hm,rfl,W,hxl,nH⟩:=DataW.trod_array ht hx;simp only [Nat.succ.injEq] at hm;subst hm;subst hxl
      have hw':(DataW.weightsAll P e (xs.map (·.1))).all (·<=reachBytes)=true:=by simp only [DataW.weights,ht] at hw;exact hw
      rw [hce.2] at W
      have:=Ea (I7 fuel) U xs 0 (by rw [W,aK]) (fun j hj=>by
       rw [aK];have:=nH j hj;rw [hce.1] at this
       exact this) hw'
      simpa using this
     ·simp at hf
    ·simp at hf
   ·simp at hf
end
end Go.As
end

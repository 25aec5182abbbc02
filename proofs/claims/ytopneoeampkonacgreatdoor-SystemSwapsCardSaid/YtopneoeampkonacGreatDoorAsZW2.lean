import Derived.Deep.LoopGhost
import Derived.IntWalk
import Derived.ChangeArms
import Derived.DataReads
import GoSem.ClaimJoined
import Derived.OpenShut
import Derived.Test.YtopneoeampkonacGreatDoorAsZW1
set_option linter.unusedSectionVars false
set_option linter.unusedVariables false
set_option linter.unusedSimpArgs false
section
namespace Go.As
noncomputable section
open Go.RowKit
section
variable {P:Program}
theorem xq {g:FuncId} {fn:Func} {e:Array Value->Sem Value} (hf:P.funcs[g]?=some fn) (mn:(fn.name == "runtime.NumGoroutine")=false) (hb:fn.body.isNone=true) (hn:Extern.findNext fn=none) (he:Extern.find fn=some e)
 {args:Array Value} {w:World} {u:Value} (hr:(e args).run P w= .ok u w):(callFunc g args).run P w= .ok (.value u) w:=by
 have rU:fn.body=none:=by simpa using hb
 unfold callFunc;simp [hf,rU,by simpa using mn,hn,he,hr]
def F7 (c:Nat):List Nat->Nat
 |[]=>0
 |x::xs=>if x.beq c then F7 c xs+1 else F7 c xs
def BT:List AV->St->T (AV×St):=fun args s=>match args with
 |[.str b,.int .u8 (.lit (.ofNat c))]=>if c<256 then .ret (.int .i64 (.lit (Int.ofNat (F7 c b))),s) else .fail
 |_=> .fail
theorem I4 {a b:Nat} (ha:a<256) (hb:b<256):(UInt8.ofNat a == UInt8.ofNat b)=a.beq b:=by
 rw [ana];simp only [beq_iff_eq,Nat.beq_eq];constructor
 ·intro h;have:=congrArg UInt8.toNat h;simp only [ano] at this;omega
 grind
theorem ID {c:Nat} (hc:c<256): ∀{s:List Nat},(∀b∈s,b<256)->Lib.countByte (s.map UInt8.ofNat) (UInt8.ofNat c)=F7 c s
 |[],_=>rfl
 |x::xs,h=>by
  have ih:=ID hc (s:=xs) fun b hb=>h b (by simp [hb]);unfold Lib.countByte at *;rw [aK,List.count_cons,ih,I4 (h x ae) hc];simp only [F7]
  grind
theorem t! [bK] {g:FuncId} {fn:Func} (hf:P.funcs[g]?=some fn) (mn:(fn.name == "runtime.NumGoroutine")=false) (hb:fn.body.isNone=true) (hn:Extern.findNext fn=none) (he:Extern.find fn=some Extern.BytealgCount.count):kQ P g BT:=by
 intro amV s E w vals u s' r hv hp Y;unfold BT at Y;split at Y
 ·rename_i b c;split at Y
  ·rename_i hc;have:=bF Y;simp only [au] at this;obtain⟨rfl,rfl⟩:=this;simp only [cC,VR,V.den] at hv;obtain⟨u1,r1,rfl,⟨rfl,N7⟩,u2,r2,rfl,rfl,rfl⟩:=hv;refine⟨rfl,hp,?_⟩;unfold mz oY;rw [xq hf mn hb hn he (Lib.run_countString (di b) (Int.ofNat c) w)];refine⟨E,fq.refl _ _ _,r,?_⟩;simp only [VR,V.den];have:(Int.ofNat c).toNat.toUInt8=UInt8.ofNat c:=rfl;rw [this];have Z:(di b).data.toList=b.map UInt8.ofNat:=by simp [di]
   rw [Z,ID hc N7];rfl
  ·simp [T.leaf] at Y
 ·simp [T.leaf] at Y
def E4 (c:Nat):List Nat->Int
 |[]=> -1
 |x::xs=>if x.beq c then 0 else match E4 c xs with
  | .ofNat n=> .ofNat (n+1)
  | .negSucc n=> .negSucc n
def BS:List AV->St->T (AV×St):=fun args s=>match args with
 |[.str b,.int .u8 (.lit (.ofNat c))]=>if c<256 then .ret (.int .i64 (.lit (E4 c b)),s) else .fail
 |_=> .fail
theorem H3 {c:Nat} (hc:c<256): ∀{s:List Nat},(∀b∈s,b<256)->Lib.indexByte (s.map UInt8.ofNat) (UInt8.ofNat c)=E4 c s
 |[],_=>rfl
 |x::xs,h=>by
  have ih:=H3 hc (s:=xs) fun b hb=>h b (by simp [hb]);have U3:=Lib.indexByte_ge (xs.map UInt8.ofNat) (UInt8.ofNat c);simp only [aK,Lib.indexByte,E4];rw [I4 (h x ae) hc];cases x.beq c
  ·simp only [aG,if_false];rw [ih] at U3 ⊢
   cases hi:E4 c xs with
   |ofNat n=>rw [hi] at U3; simp
   |negSucc n=>
    grind
  ·rfl
theorem YU [bK] {g:FuncId} {fn:Func} (hf:P.funcs[g]?=some fn) (mn:(fn.name == "runtime.NumGoroutine")=false) (hb:fn.body.isNone=true) (hn:Extern.findNext fn=none) (he:Extern.find fn=some Extern.BytealgIndexByte.indexByte):kQ P g BS:=by
 intro amV s E w vals u s' r hv hp Y;unfold BS at Y;split at Y
 ·rename_i b c;split at Y
  ·rename_i hc;have:=bF Y;simp only [au] at this;obtain⟨rfl,rfl⟩:=this;simp only [cC,VR,V.den] at hv;obtain⟨u1,r1,rfl,⟨rfl,N7⟩,u2,r2,rfl,rfl,rfl⟩:=hv;refine⟨rfl,hp,?_⟩;unfold mz oY;rw [xq hf mn hb hn he (Lib.run_indexByteString (di b) (Int.ofNat c) w)];refine⟨E,fq.refl _ _ _,r,?_⟩;simp only [VR,V.den];have:(Int.ofNat c).toNat.toUInt8=UInt8.ofNat c:=rfl;rw [this];have Z:(di b).data.toList=b.map UInt8.ofNat:=by simp [di]
   rw [Z,H3 hc N7]
  ·simp [T.leaf] at Y
 ·simp [T.leaf] at Y
def LP:List Nat->List Nat->Bool
 |[],_=>true
 |_::_,[]=>false
 |a::x,b::y=>if a.beq b then LP x y else false
def zo (c:List Nat):List Nat->Bool
 |[]=>LP c []
 |b::bs=>if LP c (b::bs) then true else zo c bs
def ub:List AV->St->T (AV×St):=fun args s=>match args with
 |[.str b,.str c]=>if b.length<4294967281 then .ret (.bool (.lit (zo c b)),s) else .fail
 |_=> .fail
theorem RC: ∀{c s:List Nat},(∀b∈c,b<256)->(∀b∈s,b<256)->(c.map UInt8.ofNat).isPrefixOf (s.map UInt8.ofNat)=LP c s
 |[],_,_,_=>by simp [LP]
 |_::_,[],_,_=>by simp [LP]
 |a::x,b::y,hc,hs=>by
  have ih:=RC (c:=x) (s:=y) (fun z hz=>hc z (by simp [hz])) (fun z hz=>hs z (by simp [hz]));simp only [aK,List.isPrefixOf,LP];rw [I4 (hc a ae) (hs b ae),ih]
  grind
theorem index_ge (sub:List UInt8): ∀l:List UInt8,-1<=Lib.index l sub
 |[]=>by unfold Lib.index; split<;>omega
 |b::l=>by
  have ih:=index_ge sub l;unfold Lib.index
  grind
theorem D4 {c:List Nat} (hc: ∀b∈c,b<256): ∀{s:List Nat},(∀b∈s,b<256)->Lib.contains (s.map UInt8.ofNat) (c.map UInt8.ofNat)=zo c s
 |[],_=>by cases c<;>simp [Lib.contains,Lib.index,zo,LP]
 |b::bs,h=>by
  have ih:=D4 hc (s:=bs) fun z hz=>h z (by simp [hz]);have hp:=RC hc h;simp only [aK] at hp;unfold Lib.contains at *;simp only [aK,Lib.index,zo]
  grind
theorem Ns [bK] {g:FuncId} (hg: ∀(ρ:Nat->Int) (ro:Nat->Prop) (w:World),bK.ok ρ ro w.heap->∀s sub:ByteArray,s.size<4294967281->Calls P g #[.string s,.string sub] w fun e w'=>e= .returned (.bool (Lib.contains s.data.toList sub.data.toList))/\w'=w)
 (kP: ∀(args:Array Value) (w:World),(callFunc g args).run P w= .ok (.enter g args) w):kQ P g ub:=by
 intro amV s E w vals u s' r hv hp Y;unfold ub at Y;split at Y
 ·rename_i b c;split at Y
  ·rename_i hlen;have:=bF Y;simp only [au] at this;obtain⟨rfl,rfl⟩:=this;simp only [cC,VR] at hv;obtain⟨u1,r1,rfl,⟨rfl,N7⟩,u2,r2,rfl,⟨rfl,V0⟩,rfl⟩:=hv;refine⟨rfl,hp,?_⟩;unfold mz oY;rw [kP];refine Calls.mono (hg E.ρ E.ro w r.kj (di b) (di c) (by simpa [di,ByteArray.size] using hlen)) fun e w' ⟨he,hw⟩=>?_;subst hw;refine⟨_,he,E,fq.refl _ _ _,r,?_⟩;simp only [VR,SB.den];have Z: ∀l:List Nat,(di l).data.toList=l.map UInt8.ofNat:=by intro l; simp [di]
   rw [Z,Z,D4 V0 N7]
  ·simp [T.leaf] at Y
 ·simp [T.leaf] at Y
end
end
end Go.As
end
section
namespace Go.As
noncomputable section
structure Dc where
 m:Nat
 k:Kind
 st:Nat
 rd:List Nat
structure NX where
 is:List Dc
 nE:Nat
 rs:List (Nat×List Nat)
def O7:Kind->Kind->Bool
 | .pa,.pa=>true
 | .e,.e=>true
 | .r,.r=>true
 |_,_=>false
def yG:List Nat->List Nat->Bool
 |[],[]=>true
 |a::x,b::y=>Nat.beq a b&&yG x y
 |_,_=>false
def BB:List Item->List Dc->Bool
 |[],[]=>true
 |x::xs,d::ds=>Nat.beq x.m d.m&&O7 x.k d.k&&Nat.beq x.st d.st&&yG x.rd d.rd&&BB xs ds
 |_,_=>false
def Bz:List (Item×List Nat)->List (Nat×List Nat)->Bool
 |[],[]=>true
 |(x,ks)::xs,(i,js)::ys=>Nat.beq x.i i&&yG ks js&&Bz xs ys
 |_,_=>false
def Bm:Nat->List Oper->List Dc->List Item
 |i,o::os,d::ds=> ⟨i,o,d.m,d.k,d.st,d.rd⟩ ::Bm (i+1) os ds
 |_,_,_=>[]
def Ur (is:List Item):List (Nat×List Nat)->List (Item×List Nat)
 |[]=>[]
 |(i,ks)::r=>match fy is i with
  |some x=>(x,ks)::Ur is r
  |none=>Ur is r
def statOf (all:List Oper) (H:NX):Stat:=⟨Bm 0 all H.is,H.nE,Ur (Bm 0 all H.is) H.rs⟩
def wa (tt:TT) (all:List Oper) (H:NX):Bool:=match stat tt all with
 |none=>false
 |some q=>BB q.is H.is&&Nat.beq q.nE H.nE&&Bz q.rs H.rs
theorem UP {a b:Kind} (h:O7 a b=true):a=b:=by cases a<;>cases b<;>simp [O7] at h<;>rfl
theorem BK: ∀{a b:List Nat},yG a b=true->a=b
 |[],[],_=>rfl
 |[],_::_,h=>by simp [yG] at h
 |_::_,[],h=>by simp [yG] at h
 |a::x,b::y,h=>by simp only [yG,aw] at h;rw [aA h.1,BK h.2]
theorem HW {tt:TT} {all:List Oper} {ms:List Nat}: ∀{os:List Oper} {i n:Nat} {ds:List Dc},BB (items tt all ms os i n) ds=true->items tt all ms os i n=Bm i os ds
 |[],i,n,ds,h=>by cases ds<;>simp [items,BB,Bm] at *
 |o::os,i,n,ds,h=>by
  cases ds with
  |nil=>simp [items,BB] at h
  |cons d ds=> simp only [items,BB,aw] at h;obtain⟨⟨⟨⟨U,Z⟩,h3⟩,h4⟩,h5⟩:=h;have ih:=HW h5;simp only [items,Bm];rw [ih,aA U,UP Z,aA h3,BK h4]
theorem Ry {is:List Item}: ∀{xs:List (Item×List Nat)} {ys:List (Nat×List Nat)},(∀p∈xs,fy is p.1.i=some p.1)->Bz xs ys=true->Ur is ys=xs
 |[],[],_,_=>rfl
 |[],_::_,_,h=>by simp [Bz] at h
 |_::_,[],_,h=>by simp [Bz] at h
 |(x,ks)::xs,(i,js)::ys,hm,h=>by simp only [Bz,aw] at h;have U:=hm (x,ks) ae;simp only [Ur];rw [<- aA h.1.1,U,<- BK h.1.2,Ry (fun p hp=>hm p (by simp [hp])) h.2]
theorem Ll: ∀{i:Nat} {os:List Oper} {ds:List Dc} {x:Item},x∈Bm i os ds->i<=x.i/\fy (Bm i os ds) (x.i-i)=some x
 |_,[],_,_,h=>by simp [Bm] at h
 |_,_::_,[],_,h=>by simp [Bm] at h
 |i,o::os,d::ds,x,h=>by
  simp only [Bm,aH] at h ⊢;rcases h with rfl|h
  ·simp [fy]
  ·obtain⟨U,Z⟩:=Ll h;refine⟨J,?_⟩;have:x.i-i=(x.i-(i+1))+1:=J
   rw [this];exact Z
theorem BV {tt:TT} {all:List Oper} {H:NX} (h:wa tt all H=true):stat tt all=some (statOf all H):=by
 unfold wa at h;split at h
 ·grind
 ·rename_i q hq;rw [hq];simp only [aw] at h;obtain⟨⟨U,Z⟩,h3⟩:=h;have Sl:=hq;unfold stat at Sl;simp only at Sl;split at Sl
  ·simp only [aq] at Sl;subst Sl;have e1:=HW U;simp only at Z h3
   have e3:Ur (Bm 0 all H.is) H.rs=_:=Ry (is:=Bm 0 all H.is) (by
    intro p hp;simp only [bd,anm] at hp;obtain⟨x,⟨hx,_⟩,rfl⟩:=hp;rw [e1] at hx;have:=(Ll hx).2
    simpa using this) h3
   unfold statOf;rw [e3,<- aA Z,<- e1]
  grind
end
end Go.As
end
section
namespace Go.As
noncomputable section
def xW (pos:Nat->Nat) (o:Oper):Oper:={ o with after:=o.after.map (fun e=>{ e with on:=pos e.on }),guard:=match o.guard with |none=>none|some (j,b)=>some (pos j,b) }
def posOf:List Nat->Nat->Nat
 |[],_=>0
 |x::xs,i=>match Nat.beq x i with
  |true=>0
  |false=>posOf xs i+1
def CD (pos:Nat->Nat) (all:List Oper):List Nat->List Oper
 |[]=>[]
 |i::is=>match fy all i with
  |some o=>xW pos o::CD pos all is
  |none=>[]
def gB (ord:List Nat) (all:List Oper):List Oper:=CD (posOf ord) all ord
def Jr (ord:List Nat) (n:Nat):Bool:=
 Nat.beq ord.length n&&(List.range n).all (fun i=>match fy ord (posOf ord i) with |some j=>Nat.beq i j|none=>false)&&
 (List.range n).all (fun j=>match fy ord j with |some i=>Nat.blt i n&&Nat.beq (posOf ord i) j|none=>false)
theorem LQ: ∀(ord:List Nat) (i:Nat),posOf ord i<=ord.length
 |[],_=>az _
 |x::xs,i=>by
  simp only [posOf,aR];split
  ·omega
  ·have:=LQ xs i; omega
theorem Hv: ∀(ord:List Nat) (i:Nat),posOf ord i<ord.length->ord[posOf ord i]?=some i
 |[],_,h=>by simp [posOf] at h
 |x::xs,i,h=>by
  simp only [posOf,aR] at h ⊢;split
  ·rename_i he;simp_all
  ·rename_i he;rw [he] at h;simp only at h;simpa using Hv xs i J
structure Perm (n:Nat) (ord:List Nat):Prop where
 len:ord.length=n
 at': ∀i,i<n->ord[posOf ord i]?=some i
 back: ∀j,j<n->∃i,ord[j]?=some i/\i<n/\posOf ord i=j
theorem UB {ord:List Nat} {n:Nat} (h:Jr ord n=true):Perm n ord:=by
 unfold Jr at h;simp only [aw,bh,anc] at h;obtain⟨⟨U,Z⟩,h3⟩:=h;refine⟨aA U,fun i hi=>?_,fun j hj=>?_⟩
 ·have:=Z i hi;split at this
  all_goals simp_all [du]
 simp_all [du]
theorem Perm.lt {n:Nat} {ord:List Nat} (p:Perm n ord) {i:Nat} (hi:i<n):posOf ord i<n:=by
 have:=p.at' i hi;rw [<- p.len]
 grind
theorem Perm.ge {n:Nat} {ord:List Nat} (p:Perm n ord) {i:Nat} (hi: ¬i<n):posOf ord i=n:=by
 have U:=LQ ord i;rw [p.len] at U;rcases bg (posOf ord i) n with h|h
 ·have Z:=Hv ord i (by rw [p.len]; exact h);obtain⟨k,h3,h4,_⟩:=p.back _ h
  grind
 ·omega
theorem Perm.inj {n:Nat} {ord:List Nat} (p:Perm n ord) {i j:Nat} (hi:i<n) (hj:j<n) (h:posOf ord i=posOf ord j):i=j:=by
 have U:=p.at' i hi;have Z:=p.at' j hj
 grind
theorem Hx {pos:Nat->Nat} {all:List Oper}: ∀{is:List Nat},(∀i∈is,i<all.length)->∀j:Nat,(CD pos all is)[j]?=(is[j]?).bind fun i=>(all[i]?).map (xW pos)
 |[],_,j=>by simp [CD]
 |i::is,h,j=>by
  have hi:=h i ae;have ih:=Hx (pos:=pos) (is:=is) fun k hk=>h k (by simp [hk])
  grind [CD,du]
section
variable {P:Program}
theorem oG {ord:List Nat} {ops:Array Oper} (p:Perm ops.size ord) {i:Nat} (hi:i<ops.size):(gB ord ops.toList)[posOf ord i]?=(ops[i]?).map (xW (posOf ord)):=by
 unfold gB
 rw [Hx (by
  intro k hk;obtain⟨j,hj,rfl⟩:=anL hk;obtain⟨i',U,Z,_⟩:=p.back j (by rw [<- p.len]; exact hj);rw [aW hj] at U;simp only [aq] at U;rw [U]
  simpa using Z),p.at' i hi]
 simp
theorem vP {ord:List Nat} {ops:Array Oper} (p:Perm ops.size ord):(gB ord ops.toList).length=ops.size:=by
 have h0: ∀j,j<ops.size->(gB ord ops.toList)[j]?.isSome=true:=by
  intro j hj;obtain⟨i,_,Z,h3⟩:=p.back j hj
  grind [oG]
 have hle:(gB ord ops.toList).length<=ops.size:=by
  have: ∀(is:List Nat),(CD (posOf ord) ops.toList is).length<=is.length:=by
   intro is
   induction is with
   |nil=>simp [CD]
   |cons i is ih=>simp only [CD]; split<;>simp; omega
  have:=this ord;rw [p.len] at this;exact this
 rcases bg (gB ord ops.toList).length ops.size with h|h
 all_goals grind
theorem X4 (pos:Nat->Nat) (o:Oper) (a:Act) (w:World) (K:Act->World->Prop) (Q:Exit->Act->World->Prop):(xW pos o).wp P a w K Q=o.wp P a w K Q:=rfl
theorem OO (pos:Nat->Nat) (o:Oper) (a:Act) (w:World):(xW pos o).asks P a w=o.asks P a w:=rfl
theorem I0 {ord:List Nat} {ops:Array Oper} (p:Perm ops.size ord) (tmps:Array Value) (j:Nat):yielded (gB ord ops.toList).toArray tmps (posOf ord j)=yielded ops tmps j:=by
 unfold yielded
 have:((gB ord ops.toList).toArray[posOf ord j]?).bind (·.dst)=(ops[j]?).bind (·.dst):=by
  rw [aoG];rcases bg j ops.size with h|h
  ·rw [oG p h];cases ops[j]?<;>rfl
  ·rw [p.ge J,anD (by rw [vP p]; exact az _),aoH h]
 grind
theorem Lq {ord:List Nat} {ops:Array Oper} (p:Perm ops.size ord) (tmps:Array Value) (o:Oper) :
 Region.wanted (xW (posOf ord) o) (yielded (gB ord ops.toList).toArray tmps)=Region.wanted o (yielded ops tmps):=by
 unfold Region.wanted xW
 cases hg:o.guard with
 |none=>rfl
 |some g=> obtain⟨j,b⟩:=g;simp only;rw [I0 p]
theorem kx {md:Region.Mode} {ops:Array Oper} {listed:Array Bool} {i:Nat}:i∈Region.ready md ops listed↔∃o,ops[i]?=some o/\listed.getD i true=false/\∀e∈o.after.toList,Region.binds md e=true->listed.getD e.on false=true:=by
 unfold Region.ready;simp only [anm,anc,aw,anj];constructor
 ·rintro⟨U,Z,h3⟩;have e:=aoX U;refine⟨_,e,Z,?_⟩;rw [e] at h3;simp only [am4,ay,Array.all_eq_true_iff_forall_mem] at h3;intro x hx hb
  grind
 grind
theorem yB {md:Region.Mode} {ord:List Nat} {ops:Array Oper} (p:Perm ops.size ord) {listed jb:Array Bool} (hz:listed.size=ops.size) (JP:jb.size=ops.size) (Y: ∀i,i<ops.size->jb[posOf ord i]?=listed[i]?) {i:Nat} (hi:i<ops.size) :
 posOf ord i∈Region.ready md (gB ord ops.toList).toArray jb↔i∈Region.ready md ops listed:=by
 have hg: ∀(k:Nat) (d:Bool),jb.getD (posOf ord k) d=listed.getD k d:=by
  intro k d;simp only [anx];rcases bg k ops.size with h|h
  ·grind
  ·rw [p.ge J,aoH J,aoH J]
 rw [kx,kx,aoG,oG p hi,hg];constructor
 ·rintro⟨o,U,Z,h3⟩;rw [aZ] at U;obtain⟨o0,h0,rfl⟩:=U;refine⟨o0,h0,Z,fun e he hb=>?_⟩
  have:=h3 { e with on:=posOf ord e.on } (by
   simp only [xW,aos,bd]
   exact⟨e,he,rfl⟩) hb
  simp_all
 ·rintro⟨o,U,Z,h3⟩;refine⟨xW (posOf ord) o,by rw [U]; rfl,Z,fun e he hb=>?_⟩;simp only [xW,aos,bd] at he;obtain⟨e0,he0,rfl⟩:=he;show jb.getD (posOf ord e0.on) false=true;rw [hg];exact h3 e0 he0 hb
theorem Oj {md:Region.Mode} {ord:List Nat} {ops:Array Oper} (p:Perm ops.size ord) {Q:Exit->Act->World->Prop}: ∀(fuel:Nat) (listed jb:Array Bool) (a:Act) (w:World),listed.size=ops.size->jb.size=ops.size->
 (∀i,i<ops.size->jb[posOf ord i]?=listed[i]?)->wpAny P md (gB ord ops.toList).toArray Q fuel jb a w->wpAny P md ops Q fuel listed a w:=by
 have aiM: ∀(listed jb:Array Bool),listed.size=ops.size->jb.size=ops.size->(∀i,i<ops.size->jb[posOf ord i]?=listed[i]?)->
  (Region.ready md (gB ord ops.toList).toArray jb= []↔Region.ready md ops listed= []):=by
  intro listed jb hz JP Y;constructor
  ·intro h;rw [aoe] at h ⊢;intro i hm
   have hi:i<ops.size:=by
    grind [kx]
   exact h _ ((yB p hz JP Y hi).2 hm)
  ·intro h;rw [aoe] at h ⊢;intro j hm
   have hj:j<ops.size:=by
    grind [kx]
   obtain⟨i,_,Z,h3⟩:=p.back j hj;subst h3;exact h _ ((yB p hz JP Y Z).1 hm)
 intro fuel
 induction fuel with
 |zero=> intro listed jb a w hz JP Y h;exact⟨(aiM _ _ hz JP Y).1 h.1,h.2⟩
 |succ fuel ih=>
  intro listed jb a w hz JP Y h;refine⟨fun h0=>h.1 ((aiM _ _ hz JP Y).2 h0),fun i hm=>?_⟩
  have hi:i<ops.size:=by
   grind [kx]
  have hh:=h.2 _ ((yB p hz JP Y hi).2 hm)
  have CN: ∀a w,wpAny P md (gB ord ops.toList).toArray Q fuel (jb.setIfInBounds (posOf ord i) true) a w->wpAny P md ops Q fuel (listed.setIfInBounds i true) a w:=by
   intro a w hw;refine ih _ _ a w (by simp [hz]) (by simp [JP]) (fun k hk=>?_) hw;rw [aoI,aoI];by_cases hik:i=k
   ·grind
   ·rw [ak hik,ak (fun h=>hik (p.inj hi hk h)),Y k hk]
  have Z:=wpOp_mono CN hh;unfold wpOp at Z ⊢;rw [aoG,oG p hi] at Z
  cases ho:ops[i]? with
  |none=>rw [ho] at Z; exact Z
  |some o=> rw [ho] at Z;simp only [am4] at Z ⊢;rw [Lq p,X4,OO] at Z;exact Z
structure G_ where
 ord:List Nat
 h:NX
def p! (tt:TT) (H:Nat->Nat->Option G_) (call:eu) (g id:Nat) (all:List Oper) (s:St):T St:=match H g id with
 |some p=>match p.ord with
  |[]=>FY tt call all (statOf all p.h) s
  |o::os=>match gB (o::os) all with
   |A!=>FY tt call A! (statOf A! p.h) s
 |none=> .fail
def agJ (tt:TT) (H:Nat->Nat->Option G_) (g id:Nat) (all:List Oper):Bool:=match H g id with
 |some p=>match p.ord with
  |[]=>wa tt all p.h
  |o::os=>Jr (o::os) all.length&&wa tt (gB (o::os) all) p.h
 |none=>true
theorem p_ [bK] {tt:TT} (cP:eJ P tt) (hm:P.follows .mixedOrders=true) {H:Nat->Nat->Option G_} {call:eu} (hc:iT P call) (g:Nat):wQ P (agJ tt H g) (p! tt H call g):=by
 intro id ops hk E s s' a w Q W fit h hq;unfold agJ at hk;unfold p! at h;split at hk
 ·rename_i p hp;rw [hp] at h;simp only at h;split at hk
  ·rename_i he;rw [he] at h;have:=BV hk;refine abq cP hm hc id ops E s s' a w Q W fit ?_ hq
   grind [draw]
  ·rename_i o os he;rw [he] at h;simp only at h;simp only [aw] at hk;have hp:=UB hk.1;have hp:Perm ops.size (o::os):=by simpa using hp
   have:=BV hk.2;refine wp_region_any hm ?_
   have Fh: ∀x∈((gB (o::os) ops.toList).toArray).toList,∀d,x.dst=some d->d<a.tmps.size:=by
    intro x hx d hxd;obtain⟨j,hj,rfl⟩:=anL hx;have Zb:j<ops.size:=by rw [<- vP hp]; exact hj
    obtain⟨i,_,Z,h3⟩:=hp.back j Zb;have hg:=oG hp Z;rw [h3] at hg
    have hx2:(gB (o::os) ops.toList)[j]?=some ((gB (o::os) ops.toList).toArray.toList[j]):=by
     grind
    rw [hx2] at hg;rw [aoX Z] at hg;simp only [am4,aq] at hg;rw [hg] at hxd;exact W (ops[i]) ae d hxd
   have key:=FX (ops:=(gB (o::os) ops.toList).toArray) cP hc Fh fit (by
    unfold draw;rw [this]
    exact h) hq
   have iR:(gB (o::os) ops.toList).toArray.size=ops.size:=by simpa using vP hp
   rw [iR] at key;refine Oj hp _ _ _ _ _ ae ae (fun i hi=>?_) key;rw [anM,anM,an hi,an (hp.lt hi)]
 grind [T.leaf]
end
end
end Go.As
end
section
namespace Go.As
noncomputable section
def Hz (h:Hp):List Nat->Tr dO->Tr dO
 |[],t=>t
 |i::is,t=>match h.get i with
  |some o=>Hz h is (t.put i (some o))
  |none=>Hz h is t
theorem BH {h:Hp}: ∀(is:List Nat) (t:Tr dO),(∀id o,t.get id=some o->h.get id=some o)->∀id o,(Hz h is t).get id=some o->h.get id=some o
 |[],_,ht,id,o,hg=>ht id o hg
 |i::is,t,ht,id,o,hg=>by
  simp only [Hz] at hg;split at hg
  ·rename_i x hx;refine BH is _ (fun j y hy=>?_) id o hg
   grind [Tr.bU]
  ·exact BH is t ht id o hg
def BA:List (V×List AV)->List (V×List AV)->Bool
 |[],[]=>true
 |(i,a)::x,(j,b)::y=>fv i j&&iY a b&&BA x y
 |_,_=>false
theorem Hi: ∀{a b:List (V×List AV)},BA a b=true->a=b
 |[],[],_=>rfl
 |[],_::_,h=>by simp [BA] at h
 |_::_,[],h=>by simp [BA] at h
 |(i,a)::x,(j,b)::y,h=>by simp only [BA,aw] at h;rw [cR _ _ h.1.1,gj _ _ h.1.2,Hi h.2]
def Jf:dO->dO->Bool
 | .cells a e,.cells b f=>iY a b&&Nat.beq e f
 | .vec a t e x,.vec b u f y=>fv a b&&Nat.beq t u&&Nat.beq e f&&BA x y
 |_,_=>false
theorem OK {a b:dO} (h:Jf a b=true):a=b:=by
 cases a<;>cases b<;>simp only [Jf,aG,aw] at h
 ·rw [gj _ _ h.1,aA h.2]
 ·rw [cR _ _ h.1.1.1,aA h.1.1.2,aA h.1.2,Hi h.2]
def Cx {α:Type} (f:α->α->Bool):Tr α->Tr α->Bool
 | .nil,.nil=>true
 | .node v l r,.node u x y=>(match v,u with |some a,some b=>f a b|none,none=>true|_,_=>false)&&Cx f l x&&Cx f r y
 |_,_=>false
theorem zB {α:Type} {f:α->α->Bool} (hf: ∀a b,f a b=true->a=b): ∀(a b:Tr α),Cx f a b=true->a=b
 | .nil,b,h=>by cases b<;>simp [Cx] at h; rfl
 | .node v l r,b,h=>by
   cases b with
   |nil=>simp [Cx] at h
   |node u x y=>
    simp only [Cx,aw] at h;rw [zB hf l x h.1.2,zB hf r y h.2]
    grind
def inL (i:Nat):List Nat->Bool
 |[]=>false
 |j::l=>match Nat.beq i j with
  |true=>true
  |false=>inL i l
theorem JO {i:Nat}: ∀{l:List Nat},inL i l=true↔i∈l
 |[]=>by simp [inL]
 |j::l=>by
  simp only [inL,aH];split
  ·rename_i h; simp [aA h]
  ·rename_i h; rw [JO]; simp [anR h]
def tD (i:Nat):List Nat->List Nat
 |[]=>[]
 |j::l=>match Nat.beq i j with
  |true=>tD i l
  |false=>j::tD i l
theorem rm {i k:Nat}: ∀{l:List Nat},k∈tD i l↔k∈l/\k≠i
 |[]=>by simp [tD]
 |j::l=>by
  simp only [tD];split
  ·rename_i h;have:=aA h;subst this;rw [rm]
   grind
  ·rename_i h;have:=anR h;simp only [aH];rw [rm]
   grind
def HP (all:List Oper) (rem:List Nat) (i:Nat):Bool:=match fy all i with
 |some o=>o.after.toList.all fun e=>!Region.binds .any e||(!inL e.on rem&&Nat.blt e.on all.length)
 |none=>false
def NA (tt:TT) (call:eu) (all:List Oper) (pc:List (SB×Bool)) (tS:Tr AV) (tH:Hp):Nat->List Nat->Tr AV->Hp->Bool
 |0,rem,S,H=>match rem with
  |[]=>Cx eR S tS&&Cx Jf H.m tH.m&&Nat.beq H.next tH.next&&(match H.res with |none=>true|_=>false)
  |_=>false
 |n+1,rem,S,H=>match rem with
  |[]=>false
  |_=>rem.any (HP all rem)&&rem.all fun i=>match HP all rem i with
   |false=>true
   |true=>match fy all i with
    |some o=>match SS tt call all o ⟨S,H,pc⟩ with
     | .ret (v,s')=>NA tt call all pc tS tH n (tD i rem) (vJ S o.dst v) s'.h
     |_=>false
    |none=>false
section
variable {P:Program}
theorem XQ {E:En} {h:Array Obj} {S:Tr AV} {a:Act} (sr:SR E h S a) {d:Option Nat} {v:AV} {u:Value} (W: ∀t,d=some t->t<a.tmps.size) (hv:VR E h v u):SR E h (vJ S d v) (a.put d u):=by
 cases d with
 |none=>exact sr
 |some t=>exact sr.put (W t rfl) hv
theorem A_ [bK] {tt:TT} (cP:eJ P tt) {call:eu} (hc:iT P call) {ops:Array Oper} {ρ:Nat->Int} {pc:List (SB×Bool)} (hpc:bY ρ pc) {tS:Tr AV} {tH:Hp} (J?:tH.res=none) {Q:Exit->Act->World->Prop} {m:Nat} (W: ∀o∈ops.toList,∀d,o.dst=some d->d<m) :
 ∀(n:Nat) (rem:List Nat) (S:Tr AV) (H:Hp) (E:En) (a:Act) (w:World) (listed:Array Bool),NA tt call ops.toList pc tS tH n rem S H=true->E.ρ=ρ->bR E H w->SR E w.heap S a->a.tmps.size=m->listed.size=ops.size->
  (∀i,i<ops.size->(listed[i]?=some true↔i∉rem))->(∀i∈rem,i<ops.size)->
  (∀(a':Act) (w':World) (E':En),fq E H w E' tH w'->bR E' tH w'->SR E' w'.heap tS a'->a'.tmps.size=m->a'.defers=a.defers->Q .normal a' w')->wpAny P .any ops Q n listed a w:=by
 intro n;have hY: ∀(i:Nat),fy ops.toList i=ops[i]?:=fun i=>by rw [du,amZ]
 have X5: ∀(rem:List Nat) (listed:Array Bool),listed.size=ops.size->(∀i,i<ops.size->(listed[i]?=some true↔i∉rem))->∀i,i∈Region.ready .any ops listed->i∈rem/\HP ops.toList rem i=true/\i<ops.size:=by
  intro rem listed iR Y i hi;obtain⟨o,ho,U,Z⟩:=kx.1 hi;have Ao:i<ops.size:=(anf.1 ho).1
  have hf:listed[i]?=some false:=by simp_all
  refine⟨?_,?_,Ao⟩
  ·grind
  ·unfold HP;rw [hY,ho];simp only [bh];intro e he
   cases hb:Region.binds .any e with
   |false=>rfl
   |true=>
    have:=Z e he hb
    have gv:e.on<ops.size:=by
     grind
    simp only [aog,anZ,aw,anj];refine⟨?_,by simpa [anN] using gv⟩
    cases alv:inL e.on rem with
    |false=>rfl
    |true=> exfalso;have hm:=JO.1 alv;simp_all
 have afa: ∀(rem:List Nat) (listed:Array Bool),listed.size=ops.size->(∀i,i<ops.size->(listed[i]?=some true↔i∉rem))->(∀i∈rem,i<ops.size)->rem.any (HP ops.toList rem)=true->Region.ready .any ops listed≠[]:=by
  intro rem listed iR Y hr ajr k8;rw [aoJ] at ajr;obtain⟨i,hi,hm⟩:=ajr;have Ao:=hr i hi
  have:i∈Region.ready .any ops listed:=by
   rw [kx];unfold HP at hm;rw [hY] at hm;split at hm
   ·rename_i o ho;refine⟨o,ho,?_,fun e he hb=>?_⟩
    ·have e1:listed[i]?=some (listed[i]'J):=by simp [iR,Ao]
     simp only [anx,e1,ay]
     grind
    ·rw [bh] at hm;have:=hm e he;rw [hb] at this;simp only [aog,anZ,aw,anj] at this;obtain⟨this,gv⟩:=this;have gv:e.on<ops.size:=by simpa [anN] using gv
     have ai9:e.on∉rem:=fun h=>by rw [JO.2 h] at this; simp at this
     simp_all
   grind
  grind
 induction n with
 |zero=>
  intro rem S H E a w listed h hρ r sr ha iR Y hr hq;simp only [NA] at h;split at h
  ·simp only [aw] at h;obtain⟨⟨⟨U,Z⟩,h3⟩,h4⟩:=h;have e1:=zB ku _ _ U;have e2:=zB (fun _ _=>OK) _ _ Z;have e3:=aA h3
   have e4:H.res=none:=by
    grind
   have eH:H=tH:=by
    obtain⟨m1,n1,r1⟩:=H;obtain⟨m2,n2,r2⟩:=tH
    grind
   subst e1 eH;refine⟨?_,hq a w E (fq.refl _ _ _) r sr ha rfl⟩;rw [aoe];intro i hi;have:=(X5 [] listed iR Y i hi).1
   grind
  grind
 |succ n ih=>
  intro rem S H E a w listed h hρ r sr ha iR Y hr hq;simp only [NA] at h;split at h
  ·grind
  ·rename_i gb;simp only [aw] at h;refine⟨fun h0=>absurd h0 (afa rem listed iR Y hr h.1),fun i hi=>?_⟩;obtain⟨g1,g2,g3⟩:=X5 rem listed iR Y i hi;have JS:=(bh.1 h.2) i g1;rw [g2] at JS;simp only at JS;split at JS
   ·rename_i o ho;have Ai:ops[i]?=some o:=by rw [<- hY]; exact ho
    split at JS
    ·rename_i v s' hev;have alJ:=KB cP hc (ops:=ops) (o:=o) (s:=⟨S,H,pc⟩) (s':=s') (v:=v) (ρ:=ρ) hpc (by rw [hev]; rfl);refine alJ.wpOp hρ r sr Ai fun u E' w' st r' hv=>?_
     have hdo: ∀t,o.dst=some t->t<a.tmps.size:=by intro t ht;rw [ha];exact W o (Array.mem_toList_iff.2 (aoD Ai)) t ht
     have sr':SR E' w'.heap (vJ S o.dst v) (a.put o.dst u):=XQ (sr.cx (st.keeps r)) hdo hv;refine ih (tD i rem) _ _ E' (a.put o.dst u) w' (listed.setIfInBounds i true) JS (st.ρ.trans hρ) r' sr' (by rw [EA]; exact ha) (by simpa using iR) ?_ ?_ ?_
     ·intro k hk;rw [aoI,rm]
      grind
     ·intro k hk;exact hr k (rm.1 hk).1
     ·intro a' w2 E2 vo r2 sr2 hs2 jG;exact hq a' w2 E2 (st.trans vo) r2 sr2 hs2 (by rw [jG,As.put_defers])
    grind
   grind
end
end
end Go.As
end
section
namespace Go.As
noncomputable section
def FU (o:Oper) (j:Nat):Bool:=o.after.toList.any fun e=>Region.binds .any e&&Nat.beq e.on j
def Jd (n1:Nat) (all:List Oper):Bool:=
 Nat.blt 0 n1&&Nat.ble n1 all.length&&
 (List.range all.length).all (fun j=>match fy all j with
  |some o=>match Nat.blt j n1 with
   |true=>(o.after.toList.all fun e=>!Region.binds .any e||Nat.blt e.on j)&&(match o.guard with |some (k,_)=>Nat.blt k n1|none=>true)
   |false=>FU o (n1-1)
  |none=>false)&&
 (match fy all (n1-1) with
  |some o=>(List.range (n1-1)).all fun i=>FU o i
  |none=>false)
structure QG (n1:Nat) (ops:Array Oper):Prop where
 pos:0<n1
 le:n1<=ops.size
 back: ∀(i:Nat) (o:Oper),i<n1->ops[i]?=some o->∀e∈o.after.toList,Region.binds .any e=true->e.on<i
 guard: ∀(i:Nat) (o:Oper),i<n1->ops[i]?=some o->∀k b,o.guard=some (k,b)->k<n1
 late: ∀(i:Nat) (o:Oper),n1<=i->ops[i]?=some o->∃e∈o.after.toList,Region.binds .any e=true/\e.on=n1-1
 last: ∀(o:Oper),ops[n1-1]?=some o->∀i,i<n1-1->∃e∈o.after.toList,Region.binds .any e=true/\e.on=i
theorem Iz {o:Oper} {j:Nat} (h:FU o j=true): ∃e∈o.after.toList,Region.binds .any e=true/\e.on=j:=by unfold FU at h;rw [aoJ] at h;simp_all
theorem OG {n1:Nat} {ops:Array Oper} (h:Jd n1 ops.toList=true):QG n1 ops:=by
 have hY: ∀(i:Nat),fy ops.toList i=ops[i]?:=fun i=>by rw [du,amZ]
 unfold Jd at h;simp only [aw] at h;obtain⟨⟨⟨U,Z⟩,h3⟩,h4⟩:=h;have U:0<n1:=by simpa [anN] using U
 have Z:n1<=ops.size:=by simpa using ane Z
 rw [bh] at h3
 have h3: ∀(i:Nat) (o:Oper),ops[i]?=some o->(match Nat.blt i n1 with
  |true=>(o.after.toList.all fun e=>!Region.binds .any e||Nat.blt e.on i)&&(match o.guard with |some (k,_)=>Nat.blt k n1|none=>true)
  |false=>FU o (n1-1))=true:=by
  intro i o ho;have hi:i<ops.size:=(anf.1 ho).1;have:=h3 i (anc.2 (by simpa using hi));rw [hY,ho] at this;exact this
 refine⟨U,Z,?_,?_,?_,?_⟩
 ·intro i o hi ho e he hb;have:=h3 i o ho;rw [show Nat.blt i n1=true by simpa [anN] using hi] at this;simp only [aw] at this;have:=(bh.1 this.1) e he;simp_all
 ·intro i o hi ho k b hg;have:=h3 i o ho;rw [show Nat.blt i n1=true by simpa [anN] using hi] at this;simp_all
 ·intro i o hi ho;have:=h3 i o ho
  rw [show Nat.blt i n1=false by
   cases hb:Nat.blt i n1 with
   |false=>rfl
   |true=>rw [anN] at hb; omega] at this
  exact Iz this
 ·intro o ho i hi;rw [hY,ho] at h4;exact Iz ((bh.1 h4) i (anc.2 hi))
section
variable {P:Program}
theorem wp_exit {o:Oper} {a:Act} {w:World} {K:Act->World->Prop} {Q1 Q:Exit->Act->World->Prop} (h: ∀e a w,e≠.normal->Q1 e a w->Q e a w) (hh:o.wp P a w K Q1):o.wp P a w K Q:=by
 have Y:LetsOut Q1->LetsOut Q:=fun⟨a,w,U⟩=> ⟨a,w,h _ _ _ ae U⟩;unfold Oper.wp at *;generalize (execOp a.eval o).run P w=r at *
 cases r with
 |ok n w'=>
  cases n<;>simp only [Oper.upon] at hh ⊢<;>
   first
    |exact hh
    |exact Calls.mono hh (fun e w'' he=>by cases e<;>first |exact he|exact h _ _ _ ae he|exact Y he)
 |halt x w'=>cases x<;>simp only [Oper.upon] at hh ⊢<;>first |exact hh|exact h _ _ _ ae hh
theorem Mc {l l':Nat->Bool} {i:Nat} (U:l i=false) (Z:l' i=true) (h: ∀j,j≠i->l' j=l j): ∀n,i<n->left l' n+1=left l n
 |0,hi=>by omega
 |n+1,hi=>by
  simp only [left];by_cases Ao:i=n
  ·subst Ao
   have: ∀m,m<=i->left l' m=left l m:=by
    intro m
    induction m with
    |zero=>intro _; rfl
    |succ m ih=>
     intro hm
     grind [left]
   grind
  ·have:=Mc U Z h n J
   grind
theorem Md {l:Nat->Bool}: ∀n,(∀i,i<n->l i=true)->left l n=0
 |0,_=>rfl
 |n+1,h=>by simp only [left];rw [Md n (fun i hi=>h i J),h n J];rfl
def wz (n1 n:Nat):Array Bool:=(Array.range n).map fun i=>decide (i<n1)
theorem Lo {n1:Nat} {ops:Array Oper} (sf:QG n1 ops) {Q Q1:Exit->Act->World->Prop} (hq: ∀e a w,e≠.normal->Q1 e a w->Q e a w) (hn: ∀a w,Q1 .normal a w->wpAny P .any ops Q (ops.size-n1) (wz n1 ops.size) a w) :
 ∀(f:Nat) (l1 l:Array Bool) (a:Act) (w:World),l1.size=n1->l.size=ops.size->(∀i,i<n1->l[i]?=l1[i]?)->(∀i,n1<=i->i<ops.size->l[i]?=some false)->left (fun i=>l1.getD i true) n1=f->(l1[n1-1]?=some true->f=0)->
  wpAny P .any (ops.toList.take n1).toArray Q1 f l1 a w->wpAny P .any ops Q (f+(ops.size-n1)) l a w:=by
 have hR: ∀i,i<n1->(ops.toList.take n1).toArray[i]?=ops[i]?:=by
  intro i hi
  grind
 have hRs:(ops.toList.take n1).toArray.size=n1:=by
  have:=sf.le
  grind
 have rT:LetsOut Q1->LetsOut Q:=fun⟨a,w,U⟩=> ⟨a,w,hq _ _ _ ae U⟩
 have wb: ∀(l:Array Bool) (i:Nat),i<l.size->(l.getD i true=true↔l[i]?=some true)/\(l.getD i false=true↔l[i]?=some true):=by intro l i hi;simp_all
 intro f
 induction f with
 |zero=>
  intro l1 l a w U Z h3 h4 h5 h6 hw;have BX:=BP n1 h5
  have:l=wz n1 ops.size:=by
   grind [wz]
  rw [this,aL];exact hn a w hw.2
 |succ f ih=>
  intro l1 l a w U Z h3 h4 h5 h6 hw;rw [show f+1+(ops.size-n1)=(f+(ops.size-n1))+1 by omega];have hle:=sf.le;have ml:=sf.pos;have acW:l1[n1-1]?=some true->False:=fun h=>by have:=h6 h; omega
  refine⟨fun k8=>?_,fun i hi=>?_⟩
  ·exfalso
   have BX: ∀i,i<n1->l[i]?=some true:=by
    intro i
    induction i using Nat.strongRecOn with
    |_ i Gy=>
     intro hi;apply Classical.byContradiction;intro uc;have hio:ops[i]?=some (ops[i]'J):=ae
     have:i∈Region.ready .any ops l:=by
      rw [kx];refine⟨_,hio,?_,fun e he hb=>?_⟩
      ·grind
      ·have gv:=sf.back i _ hi hio e he hb
       grind
     grind
   grind
  ·obtain⟨o,ho,g1,g2⟩:=kx.1 hi;have Ao:i<ops.size:=(anf.1 ho).1
   have hi1:i<n1:=by
    rcases bg i n1 with h|h
    ·exact h
    ·exfalso;obtain⟨e,e1,e2,e3⟩:=sf.late i o h ho
     grind
   have Al:l1.getD i true=false:=by
    grind
   have hed: ∀e∈o.after.toList,Region.binds .any e=true->l1.getD e.on false=true:=by
    intro e he hb
    grind
   have hr1:i∈Region.ready .any (ops.toList.take n1).toArray l1:=by
    rw [kx]
    grind
   have mI:=hw.2 i hr1
   have acT: ∀a w,wpAny P .any (ops.toList.take n1).toArray Q1 f (l1.setIfInBounds i true) a w->wpAny P .any ops Q (f+(ops.size-n1)) (l.setIfInBounds i true) a w:=by
    intro a w hw2
    have Sq:left (fun j=>(l1.setIfInBounds i true).getD j true) n1=f:=by
     have:=Mc (l:=fun j=>l1.getD j true) (l':=fun j=>(l1.setIfInBounds i true).getD j true) (i:=i) Al (by
      simp only [anx,Array.getElem?_setIfInBounds_self]
      split<;>rfl) (fun j hj=>by
      simp only [anx]
      rw [Array.getElem?_setIfInBounds_ne (fun e=>hj e.symm)]) n1 hi1
     omega
    refine ih _ _ a w (by simpa using U) (by simpa using Z) (fun k hk=>?_) (fun k ni Bg=>?_) Sq (fun gv=>?_) hw2
    ·grind
    ·grind
    ·by_cases dK:i=n1-1
     ·rw [<- Sq];refine Md n1 fun k hk=>?_;by_cases Bg:k=i
      ·grind
      ·obtain⟨e,e1,e2,e3⟩:=sf.last o (by rw [<- dK]; exact ho) k J
       grind
     grind
   have mI:=wpOp_mono acT mI;unfold wpOp at mI ⊢;rw [hR i hi1,ho] at mI;rw [ho];simp only at mI ⊢
   have aiY:Region.wanted o (yielded (ops.toList.take n1).toArray a.tmps)=Region.wanted o (yielded ops a.tmps):=by
    unfold Region.wanted
    cases hg:o.guard with
    |none=>rfl
    |some g=>
     obtain⟨k,b⟩:=g;simp only;have:=sf.guard i o hi1 ho k b hg;unfold yielded
     grind
   rw [aiY] at mI;split
   ·rename_i hwt;rw [an hwt] at mI;rcases mI with h|⟨h,h'⟩
    ·exact .inl (wp_exit hq h)
    grind
   grind
end
end
end Go.As
end
section
namespace Go.As
noncomputable section
def Ev (n1 n:Nat):List Nat:=(List.range (n-n1)).map fun k=>k+n1
def aiz:AV->List Nat
 | .ptr i _=>[i]
 | .slice i _ _ _=>[i]
 |_=>[]
def afy (S:Tr AV):List Nat->List Nat
 |[]=>[]
 |t::ts=>match S.get t with
  |some v=>aiz v++afy S ts
  |none=>afy S ts
def Si (all:List Oper) (S:Tr AV):List Nat->List Nat
 |[]=>[]
 |i::is=>match fy all i with
  |some o=>afy S (EL o.op)++Si all S is
  |none=>Si all S is
def XT (tt:TT) (call:eu) (all:List Oper) (pc:List (SB×Bool)):List Nat->Tr AV->Hp->Option (Tr AV×Hp)
 |[],S,H=>some (S,H)
 |i::is,S,H=>match fy all i with
  |some o=>match SS tt call all o ⟨S,H,pc⟩ with
   | .ret (v,s')=>XT tt call all pc is (vJ S o.dst v) s'.h
   |_=>none
  |none=>none
def KJ (tt:TT) (call:eu) (all:List Oper) (n1:Nat) (s1:St):T St:=
 match s1.h.res with
 |some _=> .fail
 |none=>match (⟨Hz s1.h (Si all s1.bG (Ev n1 all.length)) .nil,s1.h.next,none⟩ : Hp) with
  |small=>match XT tt call all s1.pc (Ev n1 all.length) s1.bG small with
   |some (S,H)=>match H.res with
    |none=>match Nat.beq H.next s1.h.next&&NA tt call all s1.pc S H (all.length-n1) (Ev n1 all.length) s1.bG small with
     |true=> .ret ⟨S,⟨Tr.over H.m (Tr.minus small.m s1.h.m),s1.h.next,none⟩,s1.pc⟩
     |false=> .fail
    |some _=> .fail
   |none=> .fail
structure Bb where
 ord:List Nat
 n1:Nat
 h:NX
def IB (tt:TT) (H:Nat->Nat->Option Bb) (call:eu) (g id:Nat) (all:List Oper) (s:St):T St:=match H g id with
 |some p=>match p.n1 with
  |0=>match p.ord with
   |[]=>FY tt call all (statOf all p.h) s
   |o::os=>match gB (o::os) all with
    |A!=>FY tt call A! (statOf A! p.h) s
  |n1=>(FY tt call (all.take n1) (statOf (all.take n1) p.h) s).bind (KJ tt call all n1)
 |none=> .fail
def KR (tt:TT) (H:Nat->Nat->Option Bb) (g id:Nat) (all:List Oper):Bool:=match H g id with
 |some p=>match p.n1 with
  |0=>match p.ord with
   |[]=>wa tt all p.h
   |o::os=>Jr (o::os) all.length&&wa tt (gB (o::os) all) p.h
  |n1=>Jd n1 all&&wa tt (all.take n1) p.h
 |none=>true
section
variable {P:Program}
theorem HN {n1 n i:Nat} (h:n1<=n):i∈Ev n1 n↔n1<=i/\i<n:=by
 unfold Ev;rw [bd];constructor
 ·rintro⟨k,hk,rfl⟩
  grind
 ·rintro⟨U,Z⟩;exact⟨i-n1,anc.2 J,J⟩
theorem UN (n:Nat): ∀m,m<=n->left (fun i=>(Array.replicate n false).getD i true) m=m:=by
 intro m
 induction m with
 |zero=>intro _; rfl
 |succ m ih=>
  intro hm;have gv:m<n:=J
  simp only [left];rw [ih J];simp [gv]
theorem P4 [bK] {tt:TT} (cP:eJ P tt) {call:eu} (hc:iT P call) {ops:Array Oper} {n1:Nat} (sf:QG n1 ops) {E:En} {s s1 s':St} {a a1:Act} {w w1:World} {Q:Exit->Act->World->Prop}
 (W: ∀o∈ops.toList,∀d,o.dst=some d->d<a.tmps.size) (ht:nK E s a w s1 a1 w1) (h:(KJ tt call ops.toList n1 s1).leaf E.ρ=some s') (hq: ∀a' w',nK E s a w s' a' w'->Q .normal a' w') :
 wpAny P .any ops Q (ops.size-n1) (wz n1 ops.size) a1 w1:=by
 obtain⟨d1,z1,E1,Ej,f1⟩:=ht;have hlen:ops.toList.length=ops.size:=bo;unfold KJ at h;split at h
 ·simp [T.leaf] at h
 ·rename_i yQ;simp only at h;split at h
  ·rename_i S H amJ;split at h
   ·rename_i hHr;split at h
    ·rename_i BX;simp only [aw] at BX;have hnx:=aA BX.1;have:=bF h;subst this
     have oI: ∀id o,(⟨Hz s1.h (Si ops.toList s1.bG (Ev n1 ops.toList.length)) .nil,s1.h.next,none⟩ : Hp).get id=some o->s1.h.get id=some o:=
      fun id o hg=>BH _ _ (fun _ _ hh=>by simp [Tr.get] at hh) id o hg
     have rs:=f1.rel.part oI (az _) ae;have hpc:bY E1.ρ s1.pc:=f1.pc;have V1:=BX.2;rw [hlen] at V1;refine A_ cP hc (ops:=ops) (ρ:=E1.ρ) (pc:=s1.pc) hpc hHr (m:=a.tmps.size) W (ops.size-n1) (Ev n1 ops.size) s1.bG _ E1 a1 w1 (wz n1 ops.size) V1 rfl (by rw [hlen] at rs; exact rs) f1.sr z1 (by simp [wz]) ?_ ?_ ?_
     ·intro i hi;rw [HN sf.le];unfold wz
      grind
     ·intro i hi;exact ((HN sf.le).1 hi).2
     ·intro a2 w2 E2 vo r2 sr2 z2 d2;rw [hlen] at oI;obtain⟨Hc,e0,_,_,r3,LA⟩:=Zs f1.rel oI vo r2 s1.h.next (fun id hid=>r2.fresh id J)
      have dY:=LA.XJ (by rw [e0]; exact az _) (by rw [e0]) (fun id u4=>by
       rcases vo.M? id u4 with U|U|U
       ·exact .inl U
       ·have Sz:s1.h.next<=id/\id<H.next:=U;omega
       ·simp at U)
      subst e0;refine hq a2 w2 ⟨d2.trans d1,z2,E2,Ej.trans ?_,?_⟩
      ·grind
      ·refine⟨by rw [hlen]; exact r3,sr2,?_⟩;show bY E2.ρ s1.pc;rw [vo.ρ]
       grind
    ·simp [T.leaf] at h
   ·simp [T.leaf] at h
  ·simp [T.leaf] at h
theorem AU [bK] {tt:TT} (cP:eJ P tt) (hm:P.follows .mixedOrders=true) {H:Nat->Nat->Option Bb} {call:eu} (hc:iT P call) (g:Nat):wQ P (KR tt H g) (IB tt H call g):=by
 intro id ops hk E s s' a w Q W fit h hq;unfold KR at hk;unfold IB at h;split at hk
 ·rename_i p hp;rw [hp] at h;simp only at h;split at hk
  ·rename_i hn;rw [hn] at h;simp only at h
   have hP:=p_ (P:=P) cP hm (H:=fun _ _=>some ⟨p.ord,p.h⟩) hc g id ops (by
    unfold agJ
    exact hk) E s s' a w Q W fit (by
    unfold p!
    exact h) hq
   exact hP
  ·rename_i n1 hn;split at h
   ·rename_i h0
    grind
   ·rename_i n1' _;simp only [aw] at hk;have sf:=OG hk.1;have DI:=BV hk.2;obtain⟨s1,U,Z⟩:=T.fL h;refine wp_region_any hm ?_;have hle:=sf.le;have hRs:(ops.toList.take p.n1).toArray.size=p.n1:=by simp; omega
    have rv: ∀o∈(ops.toList.take p.n1).toArray.toList,∀d,o.dst=some d->d<a.tmps.size:=by
     intro o ho
     grind
    have key:=FX (P:=P) (ops:=(ops.toList.take p.n1).toArray) (Q:=fun e a' w'=>match e with | .normal=>wpAny P .any ops Q (ops.size-p.n1) (wz p.n1 ops.size) a' w'|e=>Q e a' w') cP hc rv fit (s':=s1) (by
     unfold draw;rw [List.toList_toArray,DI]
     exact U) (fun a' w' ht=>P4 cP hc sf W ht Z hq)
    rw [hRs] at key
    have:=Lo sf (Q:=Q) (fun e a w gb hh=>by
     cases e with
     |normal=>exact absurd rfl gb
     |_=>exact hh) (fun a w hh=>hh) p.n1 (Array.replicate p.n1 false) (Array.replicate ops.size false) a _ ae ae (fun i hi=>by
     rw [anM,anM,an hi,an J]) (fun i _ hi=>by
     rw [anM,an hi]) (by
     exact UN p.n1 p.n1 (az _)) (fun hh=>by
     rw [anM,an (by have:=sf.pos; omega)] at hh
     simp at hh) key
    grind
 ·rename_i hh;rw [hh] at h;simp [T.leaf] at h
end
end
end Go.As
end
section
namespace Go.As
noncomputable section
def HV {α:Type} (n:Nat) (t:Tr α) (k:Nat):Option α:=match Nat.ble n k with
 |true=>none
 |false=>t.get k
theorem RX {α:Type} {n:Nat} {t:Tr α} {f:Nat->Option α} (h:(List.range n).map t.get=(List.range n).map f) {k:Nat} {x:α} (hk:HV n t k=some x):f k=some x:=by
 unfold HV at hk;split at hk
 ·grind
 ·rename_i hle
  have gv:k<n:=by
   have: ¬(n<=k):=by
    intro h;rw [an0 h] at hle
    grind
   omega
  have:=congrArg (fun l=>l[k]?) h
  grind
section
variable {P:Program}
theorem T_ {n:Nat} {tab:Tr TI} (h:(List.range n).map tab.get=(List.range n).map (V? P)):eJ P (HV n tab):=fun _ _ hk=>V! (RX h hk)
def afe (rL:Nat->List Oper->Bool) (f:Func):Bool:=!(f.name == "runtime.NumGoroutine")&&(match f.body with |some c=>kJ rL f.ntmps c|none=>true)
def hAt {α:Type} (t:Tr (Tr α)) (g id:Nat):Option α:=match t.get g with
 |some u=>u.get id
 |none=>none
theorem aa1 {n:Nat} {J0:Tr Func} (h:(List.range n).map J0.get=(List.range n).map (fun g=>P.funcs[g]?)) {rL:Nat->Nat->List Oper->Bool} (hc:(List.range n).all (fun g=>match J0.get g with |some f=>afe (rL g) f|none=>true)=true):VI P rL (HV n J0):=by
 intro g fn hk;have U:=RX h hk;refine⟨U,?_⟩
 have gv:g<n:=by
  unfold HV at hk;split at hk
  ·grind
  ·rename_i hle;rcases bg g n with h|h
   ·exact h
   ·rw [an0 h] at hle; simp at hle
 have wb:J0.get g=some fn:=by
  unfold HV at hk
  grind
 have:=bh.1 hc g (anc.2 gv);rw [wb] at this;simp only [afe,aw,anj] at this
 grind
end
end
end Go.As
end
section
namespace Go.As
noncomputable section
structure Ren where
 ns:List V
 bl:List Nat
 sh:List Nat
def Ren.se (r:Ren):V->V
 | .lit n=> .lit n
 | .dD i=>match fy r.ns i with |some e=>e|none=> .dD i
 | .add a b=> .add (r.se a) (r.se b)
 | .sub a b=> .sub (r.se a) (r.se b)
 | .mul a b=> .mul (r.se a) (r.se b)
 | .quo a b=> .quo (r.se a) (r.se b)
 | .rem a b=> .rem (r.se a) (r.se b)
 | .wrap k a=> .wrap k (r.se a)
 | .ya b e=> .ya b (r.se e)
 | .eD d=> .eD d
 | .op o a b=>match o with
   | .len=>dS (r.se a)
   |o=> .op o (r.se a) (r.se b)
 | .ap f a=> .ap f (r.se a)
def Ren.sb (r:Ren):SB->SB
 | .lit b=> .lit b
 | .lt a b=>iP (r.se a) (r.se b)
 | .le a b=> .le (r.se a) (r.se b)
 | .eq a b=>rO (r.se a) (r.se b)
 | .not s=> .not (r.sb s)
 | .and a b=> .and (r.sb a) (r.sb b)
def Ren.id (r:Ren) (i:Nat):Nat:=match fy r.bl i with |some j=>j|none=>0
def Ren.vp (r:Ren) (i:Nat):Nat:=match fy r.sh i with |some j=>j|none=>0
mutual
def Ren.av (r:Ren):AV->AV
 | .bool b=> .bool (r.sb b)
 | .int k e=> .int k (r.se e)
 | .str s=> .str s
 | .ptr i o=> .ptr (r.id i) (r.vp i+o)
 | .vt=> .vt
 | .nX cs=> .nX (r.Dj cs)
 | .slice i o l c=> .slice (r.id i) (r.vp i+o) l c
 | .gN=> .gN
 | .ro cs n f=> .ro (r.Dj cs) n f
 | .map i=> .map (r.id i)
 | .tO=> .tO
 | .func f a b=> .func f (r.Dj a) (r.Dj b)
 | .xK=> .xK
 | .iface t v=> .iface t (r.av v)
 | .yH=> .yH
 | .agg cs=> .agg (r.Dj cs)
 | .tuple cs=> .tuple (r.Dj cs)
 | .L0 i=> .L0 i
 | .ya k ks=> .ya k ks
 | .emp=> .emp
 | .eD e t=> .eD (r.se e) t
 | .kE e=> .kE (r.se e)
 | .qc i n t=>match r.vp i with
   |0=> .qc (r.id i) (r.se n) t
   |_=> .L0 0
 | .AR i es x o=>match r.vp i with
   |0=> .AR (r.id i) es (r.se x) o
   |_=> .L0 0
 | .vm i lo n t=>match r.vp i with
   |0=> .vm (r.id i) (r.se lo) (r.se n) t
   |_=> .L0 0
 | .any=> .any
 | .yl z t=> .yl (r.se z) t
def Ren.Dj (r:Ren):List AV->List AV
 |[]=>[]
 |x::xs=>r.av x::r.Dj xs
end
mutual
def mj (n:Nat):AV->Bool
 | .ptr i _=>Nat.blt i n
 | .slice i _ _ _=>Nat.blt i n
 | .map i=>Nat.blt i n
 | .qc i _ _=>Nat.blt i n
 | .AR i _ _ _=>Nat.blt i n
 | .vm i _ _ _=>Nat.blt i n
 | .nX cs=>pw n cs
 | .ro cs _ _=>pw n cs
 | .func _ a b=>pw n a&&pw n b
 | .iface _ v=>mj n v
 | .agg cs=>pw n cs
 | .tuple cs=>pw n cs
 |_=>true
def pw (n:Nat):List AV->Bool
 |[]=>true
 |x::xs=>mj n x&&pw n xs
end
def Ren.env (r:Ren) (ρ:Nat->Int) (i:Nat):Int:=match fy r.ns i with |some e=>e.den ρ|none=>ρ i
theorem HI {α:Type}: ∀{l:List α} {i:Nat},l.length<=i->fy l i=none
 |[],_,_=>rfl
 |_::_,0,h=>by simp at h
 |_::l,i+1,h=>by simp only [fy]; exact HI (by simpa using h)
theorem Ren.mu {r:Ren} (h:r.ns.length<=900) {ρ:Nat->Int} {i:Nat} (hi:900<=i):r.env ρ i=ρ i:=by
 grind [Ren.env,HI]
theorem Ren.ep {r:Ren} (h:r.ns.length<=900) (ρ:Nat->Int): ∀e:V,(r.se e).den ρ=e.den (r.env ρ)
 | .lit n=>rfl
 | .dD i=>by simp only [Ren.se,V.den,Ren.env];split<;>rfl
 | .add a b=>by simp only [Ren.se,V.den,Ren.ep h ρ a,Ren.ep h ρ b]
 | .sub a b=>by simp only [Ren.se,V.den,Ren.ep h ρ a,Ren.ep h ρ b]
 | .mul a b=>by simp only [Ren.se,V.den,Ren.ep h ρ a,Ren.ep h ρ b]
 | .quo a b=>by simp only [Ren.se,V.den,Ren.ep h ρ a,Ren.ep h ρ b]
 | .rem a b=>by simp only [Ren.se,V.den,Ren.ep h ρ a,Ren.ep h ρ b]
 | .wrap k a=>by simp only [Ren.se,V.den,Ren.ep h ρ a]
 | .ya b e=>by simp only [Ren.se,V.den,Ren.ep h ρ e];rw [Ren.mu h J]
 | .eD d=>rfl
 | .op o a b=>by
   cases o with
   |len=> simp only [Ren.se,cD,Ren.ep h ρ a];simp [V.den,fX.den]
   |_=>simp only [Ren.se,V.den,Ren.ep h ρ a,Ren.ep h ρ b]
 | .ap f a=>by simp only [Ren.se,V.den,Ren.ep h ρ a];rw [Ren.mu h (by unfold jN; omega)]
theorem Ren.By {r:Ren} (h:r.ns.length<=900) (ρ:Nat->Int): ∀c:SB,(r.sb c).den ρ=c.den (r.env ρ)
 | .lit b=>rfl
 | .lt a b=>by simp only [Ren.sb,dX,SB.den,Ren.ep h]
 | .le a b=>by simp only [Ren.sb,SB.den,Ren.ep h]
 | .eq a b=>by simp only [Ren.sb,hJ,SB.den,Ren.ep h]
 | .not s=>by simp only [Ren.sb,SB.den,Ren.By h ρ s]
 | .and a b=>by simp only [Ren.sb,SB.den,Ren.By h ρ a,Ren.By h ρ b]
def En.ic (E:En) (r:Ren):En:={ ρ:=r.env E.ρ,θ:=fun i=>((E.θ (r.id i)).1,(E.θ (r.id i)).2+r.vp i),κ:=fun i=>E.κ (r.id i)-r.vp i,dm:=fun i=>i<r.bl.length/\E.dm (r.id i),ro:=E.ro,W:=E.W }
theorem zd {i n:Nat} (h:Nat.blt i n=true):i<n:=by simp_all
mutual
theorem VR.ic {E:En} {r:Ren} {h:Array Obj} (Y:r.ns.length<=900): ∀(x:AV) (u:Value),mj r.bl.length x=true->VR E h (r.av x) u->VR (E.ic r) h x u
 | .bool b,u,_,hv=>by simp only [Ren.av,VR,En.ic,Ren.By Y] at *; exact hv
 | .int k e,u,_,hv=>by simp only [Ren.av,VR,En.ic,Ren.ep Y] at *; exact hv
 | .str s,u,_,hv=>by simp only [Ren.av,VR] at *; exact hv
 | .ptr i o,u,hi,hv=>by simp only [Ren.av,VR,En.ic,mj] at *; exact⟨by rw [hv.1,am0],zd hi,hv.2⟩
 | .vt,u,_,hv=>by simp only [Ren.av,VR] at *; exact hv
 | .nX cs,u,hi,hv=>by simp only [Ren.av,VR,mj] at *;obtain⟨b,o,us,U,Z,h3,h4⟩:=hv;exact⟨b,o,us,U,Z,cC.ic Y cs us hi h3,h4⟩
 | .slice i o l c,u,hi,hv=>by
   simp only [Ren.av,VR,mj] at *;obtain⟨U,a,cap,Z,h3,h4⟩:=hv;refine⟨⟨zd hi,U⟩,a,cap,Z,h3,?_⟩
   cases c with
   |exact k=>
    simp only [eY,En.ic] at *
    grind
   |rest es=>
    simp only [eY,En.ic] at *
    grind
 | .gN,u,_,hv=>by simp only [Ren.av,VR] at *; exact hv
 | .ro cs n f,u,hi,hv=>by simp only [Ren.av,VR,mj] at *;obtain⟨b,o,cap,us,U,Z,h3,h4,h5,h6⟩:=hv;exact⟨b,o,cap,us,U,Z,h3,h4,cC.ic Y cs us hi h5,h6⟩
 | .map i,u,hi,hv=>by simp only [Ren.av,VR,En.ic,mj] at *; exact⟨hv.1,zd hi,hv.2⟩
 | .tO,u,_,hv=>by simp only [Ren.av,VR] at *; exact hv
 | .func f a b,u,hi,hv=>by simp only [Ren.av,VR,mj,aw] at *;obtain⟨us,ws,U,Z,h3⟩:=hv;exact⟨us,ws,U,cC.ic Y a us hi.1 Z,cC.ic Y b ws hi.2 h3⟩
 | .xK,u,_,hv=>by simp only [Ren.av,VR] at *; exact hv
 | .iface t v,u,hi,hv=>by simp only [Ren.av,VR,mj] at *;obtain⟨y,U,Z⟩:=hv;exact⟨y,U,VR.ic Y v y hi Z⟩
 | .yH,u,_,hv=>by simp only [Ren.av,VR] at *; exact hv
 | .agg cs,u,hi,hv=>by simp only [Ren.av,VR,mj] at *;obtain⟨us,U,Z⟩:=hv;exact⟨us,U,cC.ic Y cs us hi Z⟩
 | .tuple cs,u,hi,hv=>by simp only [Ren.av,VR,mj] at *;obtain⟨us,U,Z⟩:=hv;exact⟨us,U,cC.ic Y cs us hi Z⟩
 | .L0 i,u,_,hv=>by simp only [Ren.av,VR] at hv
 | .ya k ks,u,_,hv=>by
   simp only [Ren.av,VR,En.ic] at *;rw [Ren.mu Y J];rcases hv with hv|⟨b,o,n,cap,U,Z,h3,h4,h5⟩
   ·grind
   ·refine .inr ⟨b,o,n,cap,U,Z,h3,h4,fun i j kd hi hj=>?_⟩;rw [Ren.mu Y J]
    grind
 | .emp,u,_,hv=>by simp only [Ren.av,VR] at *; exact hv
 | .eD e t,u,_,hv=>by simp only [Ren.av,VR,En.ic,Ren.ep Y] at *; exact hv
 | .kE e,u,_,hv=>by simp only [Ren.av,VR,En.ic,Ren.ep Y] at *; exact hv
 | .qc i n t,u,hi,hv=>by
   simp only [Ren.av] at hv;split at hv
   ·rename_i hs;simp only [VR,En.ic,mj,Ren.ep Y] at *;obtain⟨U,k,a,cap,Z,h3,h4,h5⟩:=hv;refine⟨⟨zd hi,U⟩,k,a,cap,Z,h3,h4,?_⟩;simp only [eY,hs] at *
    grind
   ·simp [VR] at hv
 | .any,u,_,_=>by simp only [VR]
 | .yl z t,u,_,hv=>by simp only [Ren.av,VR,En.ic,Ren.ep Y] at *; exact hv
 | .vm i lo n t,u,hi,hv=>by
   simp only [Ren.av] at hv;split at hv
   ·rename_i hs;simp only [VR,En.ic,mj,Ren.ep Y] at *;obtain⟨U,l,k,a,cap,Z,h3,h4,h5,h6⟩:=hv;refine⟨⟨zd hi,U⟩,l,k,a,cap,Z,h3,h4,h5,?_⟩;simp only [eY,hs] at *
    grind
   ·simp [VR] at hv
 | .AR i es x o,u,hi,hv=>by
   simp only [Ren.av] at hv;split at hv
   ·rename_i hs;simp only [VR,En.ic,mj,Ren.ep Y] at *;obtain⟨U,k,Z,h3⟩:=hv;exact⟨⟨zd hi,U⟩,k,Z,by rw [h3,hs,bx]⟩
   ·simp [VR] at hv
theorem cC.ic {E:En} {r:Ren} {h:Array Obj} (Y:r.ns.length<=900): ∀(xs:List AV) (us:List Value),pw r.bl.length xs=true->cC E h (r.Dj xs) us->cC (E.ic r) h xs us
 |[],us,_,hv=>by simp only [Ren.Dj,cC] at *; exact hv
 |x::xs,us,hi,hv=>by simp only [Ren.Dj,cC,pw,aw] at *;obtain⟨u,vs,U,Z,h3⟩:=hv;exact⟨u,vs,U,VR.ic Y x u hi.1 Z,cC.ic Y xs vs hi.2 h3⟩
end
theorem abM {E:En} {r:Ren} {h:Array Obj} {xs ys:List AV} {us:List Value} (hs:iY (r.Dj xs) ys=true) (hv:cC E h ys us):cC E h (r.Dj xs) us:=by
 grind [gj]
def sP (r:Ren):List (AV×AV×Nat)->List (AV×AV×Nat)->Bool
 |[],[]=>true
 |(k,v,_)::xs,(k',v',_)::ys=>match eR (r.av k) k' with
  |true=>match eR (r.av v) v' with
   |true=>sP r xs ys
   |false=>false
  |false=>false
 |_,_=>false
def KC (n:Nat):List (AV×AV×Nat)->Bool
 |[]=>true
 |(k,v,_)::xs=>mj n k&&mj n v&&KC n xs
def LZ (n:Nat):List (V×List AV)->Bool
 |[]=>true
 |(_,cs)::l=>pw n cs&&LZ n l
def nt (r:Ren):List (V×List AV)->List (V×List AV)->Bool
 |[],[]=>true
 |(i,a)::x,(j,b)::y=>fv (r.se i) j&&iY (r.Dj a) b&&nt r x y
 |_,_=>false
def MJ (n:Nat):List (V×AV)->Bool
 |[]=>true
 |(_,v)::l=>mj n v&&MJ n l
def nu (r:Ren):List (V×AV)->List (V×AV)->Bool
 |[],[]=>true
 |(i,a)::x,(j,b)::y=>fv (r.se i) j&&eR (r.av a) b&&nu r x y
 |_,_=>false
def OX (n:Nat):dO->Bool
 | .uC _ _ _ ov=>MJ n ov
 | .vec _ _ _ ov=>LZ n ov
 | .cells cs _=>pw n cs
 | .map es _=>KC n es
 | .kS _ _=>true
 | .kO _ _=>true
def eO (r:Ren) (k:Nat):dO->dO->Bool
 | .cells cs e,.cells ds f=>match Nat.beq e f with
   |true=>match eS k ds with
    |some ds=>iY (r.Dj cs) ds
    |none=>false
   |false=>false
 | .map es _,.map fs _=>sP r es fs
 | .kS s p,.kS t q=>im s t&&Nat.beq p q&&Nat.beq k 0
 | .kO e t,.kO e' t'=>fv (r.se e) e'&&Nat.beq t t'&&Nat.beq k 0
 | .uC e t fw ov,.uC e' t' ahL jA=>fv (r.se e) e'&&Nat.beq t t'&&decide (fw=ahL)&&nu r ov jA&&Nat.beq k 0
 | .vec e t ty ov,.vec e' t' WJ jA=>fv (r.se e) e'&&Nat.beq t t'&&Nat.beq ty WJ&&nt r ov jA&&Nat.beq k 0
 |_,_=>false
theorem e9.ic {E:En} {r:Ren} {h:Array Obj} (Y:r.ns.length<=900): ∀{xs ys:List (AV×AV×Nat)} {es:List MapEntry},KC r.bl.length xs=true->sP r xs ys=true->e9 E h ys es->e9 (E.ic r) h xs es
 |[],[],es,_,_,h=>by simp only [e9] at *; exact h
 |[],_::_,_,_,hs,_=>by simp [sP] at hs
 |(_,_,_)::_,[],_,_,hs,_=>by simp [sP] at hs
 |(k,v,b)::xs,(k',v',b')::ys,es,hi,hs,h=>by
  simp only [KC,aw] at hi;simp only [sP] at hs;simp only [e9] at *;obtain⟨e,rr,rfl,U,Z,_,h4⟩:=h;split at hs
  ·rename_i e1;split at hs
   ·rename_i e2;refine⟨e,rr,rfl,VR.ic Y k _ hi.1.1 (by rw [ku _ _ e1]; exact U),VR.ic Y v _ hi.1.2 (by rw [ku _ _ e2]; exact Z),trivial,e9.ic Y hi.2 hs h4⟩
   grind
  grind
theorem qN {r:Ren}: ∀xs:List AV,(r.Dj xs).length=xs.length
 |[]=>rfl
 |_::xs=>by simp [Ren.Dj,qN xs]
theorem HD {r:Ren} (Y:r.ns.length<=900) {ρ:Nat->Int} {i:Nat}: ∀{ov jA:List (V×List AV)},nt r ov jA=true->ed ρ i jA=(ed (r.env ρ) i ov).map r.Dj
 |[],[],_=>rfl
 |[],_::_,h=>by simp [nt] at h
 |_::_,[],h=>by simp [nt] at h
 |(j,a)::x,(k,b)::y,h=>by
  simp only [nt,aw] at h;have U:=cR _ _ h.1.1;have Z:=gj _ _ h.1.2;simp only [ed];rw [<- U,Ren.ep Y,<- Z,HD Y h.2]
  grind
theorem HC {n:Nat}: ∀{ov:List (V×List AV)},LZ n ov=true->∀p∈ov,pw n p.2=true
 |[],_,p,hp=>by simp at hp
 |(j,a)::x,h,p,hp=>by
  simp only [LZ,aw] at h;rcases aH.1 hp with rfl|hp
  ·grind
  ·exact HC h.2 p hp
theorem uO {E:En} {r:Ren} {h:Array Obj} (Y:r.ns.length<=900) {row:Row} {ov jA:List (V×List AV)} (hs:nt r ov jA=true) (hi:LZ r.bl.length ov=true): ∀(ds:List D) (i:Nat) {us:List Value},
 cC E h (bH E.ρ row jA ds i) us->cC (E.ic r) h (bH (E.ic r).ρ row ov ds i) us
 |[],_,us,hv=>by simp only [bH,cC] at *; exact hv
 |d::ds,i,us,hv=>by
  simp only [bH] at *;obtain⟨a,b,rfl,U,Z⟩:=hv.split;refine cC.append ?_ (uO Y hs hi ds (i+1) Z);rw [HD Y hs] at U;show cC (E.ic r) h (match ed (r.env E.ρ) i ov with |some cs=>cs|none=>ib row (.eD d)) a
  cases ho:ed (r.env E.ρ) i ov with
  |none=> rw [ho] at U;simp only [Option.map_none] at U;exact (gG (E:=E.ic r)).2 (show xS E.ro h row (dec (enc d)) a from (gG (E:=E)).1 U)
  |some cs=> rw [ho] at U;simp only [am4] at U;obtain⟨p,p1,p2,_⟩:=lD ho;exact cC.ic Y cs a (by rw [<- p2]; exact HC hi p p1) U
theorem Ep {r:Ren} {row:Row}: ∀{ov jA:List (V×List AV)},nt r ov jA=true->tN row jA->tN row ov
 |[],[],_,h=>h
 |[],_::_,h,_=>by simp [nt] at h
 |_::_,[],h,_=>by simp [nt] at h
 |(j,a)::x,(k,b)::y,h,ho=>by
  simp only [nt,aw] at h;intro p hp;rcases aH.1 hp with rfl|hp
  ·have:=congrArg List.length (gj _ _ h.1.2);rw [qN] at this;simp only;rw [this];exact ho (k,b) ae
  ·exact Ep h.2 (fun q hq=>ho q (by simp [hq])) p hp
theorem RJ {r:Ren} (Y:r.ns.length<=900) {ρ:Nat->Int} {n:Int}: ∀{ov jA:List (V×AV)},nu r ov jA=true->mA ρ n jA=(mA (r.env ρ) n ov).map r.av
 |[],[],_=>rfl
 |[],_::_,h=>by simp [nu] at h
 |_::_,[],h=>by simp [nu] at h
 |(j,a)::x,(k,b)::y,h=>by simp only [nu,aw] at h;have U:=cR _ _ h.1.1;have Z:=ku _ _ h.1.2;simp only [mA];rw [<- U,Ren.ep Y,<- Z,RJ Y h.2];split<;>simp
theorem zC {r:Ren} (Y:r.ns.length<=900) {ρ:Nat->Int}: ∀{ov jA:List (V×AV)},nu r ov jA=true->(ov.map fun p=>p.1.den (r.env ρ))=jA.map fun p=>p.1.den ρ
 |[],[],_=>rfl
 |[],_::_,h=>by simp [nu] at h
 |_::_,[],h=>by simp [nu] at h
 |(j,a)::x,(k,b)::y,h=>by simp only [nu,aw] at h;have U:=cR _ _ h.1.1;simp only [aK];rw [<- U,Ren.ep Y,zC Y h.2]
theorem Bc.congr {ρ ρ':Nat->Int} {ds:List D} {ov jA:List (V×AV)} (h:Bc ρ ds ov) (hk:(jA.map fun p=>p.1.den ρ')=ov.map fun p=>p.1.den ρ):Bc ρ' ds jA:=by refine⟨h.1,fun p hp=>?_,by rw [hk]; exact h.2.2⟩;have:p.1.den ρ'∈jA.map fun p=>p.1.den ρ':=bd.2 ⟨p,hp,rfl⟩;rw [hk] at this;obtain⟨q,hq,he⟩:=bd.1 this;rw [<- he];exact h.2.1 q hq
theorem Ii {n:Nat} {ρ:Nat->Int} {m:Int} {v:AV}: ∀{ov:List (V×AV)},MJ n ov=true->mA ρ m ov=some v->mj n v=true
 |[],_,h=>by simp [mA] at h
 |(_,u)::l,hi,h=>by
  simp only [MJ,aw] at hi;simp only [mA] at h;split at h
  ·simp only [aq] at h; subst h; exact hi.1
  ·exact Ii hi.2 h
theorem pO.ic {E:En} {r:Ren} {h:Array Obj} (Y:r.ns.length<=900) {B:Nat} {key:D} {j ty:Nat} {c:FC} {d:D} {u:Value} (ho:pO E h B key j ty c d u):pO (E.ic r) h B key j ty c d u:=by
 cases c with
 |ck c=>exact ho
 |mp t=>exact ho
 |own t=>
  rcases ho with ho|⟨b,o,n,cap,a,arr,lo,hi,U,Z,h3,h4,h5,h6,h7⟩
  ·exact .inl ho
  ·refine .inr ⟨b,o,n,cap,a,arr,lo,hi,U,Z,h3,h4,h5,h6,?_⟩;rcases h7 with h7|⟨g1,g2,us,g3,g4⟩
   ·exact .inl h7
   ·exact .inr ⟨g1,g2,us,uO Y (ov:=[]) (jA:=[]) rfl rfl _ _ g3,g4⟩
theorem qT.ic {E:En} {r:Ren} {h:Array Obj} (Y:r.ns.length<=900) {B t:Nat} {fw:List Nat} {key d:D} {v:Value} (ho:qT E h B t fw key d v):qT (E.ic r) h B t fw key d v:=by
 unfold qT at *;split at ho
 ·obtain⟨c,U,Z⟩:=ho;exact⟨c,U,Z.ic Y⟩
 ·obtain⟨b,o,arr,lo,hi,U,Z,h3,h4,h5,h6⟩:=ho;refine⟨b,o,arr,lo,hi,U,Z,h3,h4,h5,fun j c hc=>?_⟩;obtain⟨u,g1,g2,g3⟩:=h6 j c hc;exact⟨u,g1,g2,g3.ic Y⟩
theorem eX.ic {E:En} {r:Ren} {h:Array Obj} (Y:r.ns.length<=900) {B t:Nat} {fw:List Nat} {ov jA:List (V×AV)} (hs:nu r ov jA=true) (hi:MJ r.bl.length ov=true): ∀{ds:List D} {es:List MapEntry},eX E h B t fw jA ds es->eX (E.ic r) h B t fw ov ds es
 |[],_,ho=>ho
 |d::ds,_,⟨e,rr,n,U,Z,h3,h4,h5⟩=>by
  refine⟨e,rr,n,U,Z,h3,?_,eX.ic Y hs hi h5⟩;have he:=RJ Y (ρ:=E.ρ) (n:=n) hs
  show match mA (r.env E.ρ) n ov with |some v=>VR (E.ic r) h v e.val|none=>qT (E.ic r) h B t fw (.i n) (GS d) e.val
  cases hv:mA (r.env E.ρ) n ov with
  |none=> rw [hv] at he;rw [he] at h4;exact h4.ic Y
  |some v=> rw [hv] at he;rw [he] at h4;exact VR.ic Y v _ (Ii hi hv) h4
theorem OR.ic {E:En} {r:Ren} {h:Array Obj} (Y:r.ns.length<=900) {id:Nat} {o o':dO} (hi:OX r.bl.length o=true) (hs:eO r (r.vp id) o o'=true) (ho:OR E h (r.id id) o'):OR (E.ic r) h id o:=by
 cases o with
 |cells cs e=>
  cases o' with
  |cells ds f=>
   simp only [eO] at hs;simp only [OX] at hi;split at hs
   ·rename_i he;have he:=aA he;subst he;split at hs
    ·rename_i ds' Ff;simp only [OR] at *;obtain⟨arr,lo,hi',us,U,Z,h3,h4,h5,h6,h7⟩:=ho;obtain⟨g1,g2,g3⟩:=Z.eS Ff;have hlen:=congrArg List.length (gj _ _ hs);rw [qN] at hlen;refine⟨arr,lo,hi',us.drop (r.vp id),U,cC.ic Y cs _ hi (abM hs g1),fun i u hu=>?_,?_,?_,h6,fun u hu=>h7 u (amY hu)⟩
     ·rw [ann] at hu;have:=h3 _ u hu;show arr[(E.θ (r.id id)).2+r.vp id+i]?=some u
      grind
     ·show cs.length<=E.κ (r.id id)-r.vp id;omega
     ·show (E.θ (r.id id)).2+r.vp id+(E.κ (r.id id)-r.vp id)=arr.size;omega
    grind
   grind
  |map _ _=>simp [eO] at hs
  |kS _ _=>simp [eO] at hs
  |vec _ _ _ _=>simp [eO] at hs
  |kO _ _=>simp [eO] at hs
  |uC _ _ _ _=>simp [eO] at hs
 |map es c=>
  cases o' with
  |map fs d=> simp only [eO] at hs;simp only [OX] at hi;simp only [OR] at *;obtain⟨bS,c',U,Z⟩:=ho;exact⟨bS,c',U,e9.ic Y hi hs Z⟩
  |cells _ _=>simp [eO] at hs
  |kS _ _=>simp [eO] at hs
  |vec _ _ _ _=>simp [eO] at hs
  |kO _ _=>simp [eO] at hs
  |uC _ _ _ _=>simp [eO] at hs
 |kS s p=>
  cases o' with
  |kS t q=> simp_all [eO,mK,OR,En.ic]
  |cells _ _=>simp [eO] at hs
  |map _ _=>simp [eO] at hs
  |vec _ _ _ _=>simp [eO] at hs
  |kO _ _=>simp [eO] at hs
  |uC _ _ _ _=>simp [eO] at hs
 |kO e t=>
  cases o' with
  |cells _ _=>simp [eO] at hs
  |map _ _=>simp [eO] at hs
  |kS _ _=>simp [eO] at hs
  |vec _ _ _ _=>simp [eO] at hs
  |uC _ _ _ _=>simp [eO] at hs
  |kO e' t'=> simp only [eO,aw] at hs;have U:=cR _ _ hs.1.1;have Z:=aA hs.1.2;subst U Z;simp only [OR] at *;have qn:e.den (E.ic r).ρ=(r.se e).den E.ρ:=(Ren.ep Y E.ρ e).symm;rw [qn];exact ho
 |vec e t ty ov=>
  cases o' with
  |cells _ _=>simp [eO] at hs
  |map _ _=>simp [eO] at hs
  |kS _ _=>simp [eO] at hs
  |kO _ _=>simp [eO] at hs
  |uC _ _ _ _=>simp [eO] at hs
  |vec e' t' WJ jA=>
   simp only [eO,aw] at hs;simp only [OX] at hi;have U:=cR _ _ hs.1.1.1.1;have Z:=aA hs.1.1.1.2;have h3:=aA hs.1.1.2;have h4:=aA hs.2;have tC:=hs.1.2;subst U Z h3;simp only [OR] at *;obtain⟨h0,arr,lo,hi',us,q1,q2,q3,q4,q5,q6,q7⟩:=ho;have pf:=Ep tC h0.1;have qn:e.den (E.ic r).ρ=(r.se e).den E.ρ:=(Ren.ep Y E.ρ e).symm;rw [qn];refine⟨⟨pf,h0.2⟩,arr,lo,hi',us,q1,uO Y tC hi _ _ q2,?_,?_,?_,q6,q7⟩
   ·intro i u hu;show arr[(E.θ (r.id id)).2+r.vp id+i]?=some u
    grind
   ·show _<=E.κ (r.id id)-r.vp id
    grind [cE]
   ·show (E.θ (r.id id)).2+r.vp id+(E.κ (r.id id)-r.vp id)=arr.size
    grind
 |uC e t fw ov=>
  cases o' with
  |cells _ _=>simp [eO] at hs
  |map _ _=>simp [eO] at hs
  |kS _ _=>simp [eO] at hs
  |kO _ _=>simp [eO] at hs
  |vec _ _ _ _=>simp [eO] at hs
  |uC e' t' ahL jA=> simp only [eO,aw,decide_eq_true_eq] at hs;simp only [OX] at hi;have U:=cR _ _ hs.1.1.1.1;have Z:=aA hs.1.1.1.2;have h3:=hs.1.1.2;have tC:=hs.1.2;subst U Z h3;simp only [OR] at *;obtain⟨n0,bS,c',g1,g2⟩:=ho;have qn:e.den (E.ic r).ρ=(r.se e).den E.ρ:=(Ren.ep Y E.ρ e).symm;rw [qn];exact⟨n0.congr (zC Y tC),bS,c',g1,eX.ic Y tC hi g2⟩
end
end Go.As
end
section
namespace Go.As
noncomputable section
open Go.RowKit
structure CS where
 k:Nat
 bG:List (Nat×AV)
 dB:List dO
 pc:List (SB×Bool)
 m:V
def og:List (Nat×AV)->Tr AV->Tr AV
 |[],t=>t
 |(i,v)::l,t=>og l (t.put i (some v))
def pj:List dO->Nat->Tr dO->Tr dO
 |[],_,t=>t
 |o::os,i,t=>pj os (i+1) (t.put i (some o))
def CS.st (c:CS):St:=⟨og c.bG .nil,⟨pj c.dB 0 .nil,c.dB.length,none⟩,c.pc⟩
structure Gs where
 ns:Tr V
 bl:Tr (Nat×Nat)
def Gs.num (g:Gs) (i:Nat) (e:V):Gs:=match g.ns.get i with
 |some _=>g
 |none=> ⟨g.ns.put i (some e),g.bl⟩
def Gs.nH (g:Gs) (i j k:Nat):Gs:=match g.bl.get i with
 |some _=>g
 |none=> ⟨g.ns,g.bl.put i (some (j,k))⟩
def yS (x y:V) (g:Gs):Gs:=match x with
 | .dD i=>g.num i y
 |_=>g
def ajy:SB->SB->Gs->Gs
 | .not a,.not b,g=>ajy a b g
 | .eq a b,.eq c d,g=>yS b d (yS a c g)
 |_,_,g=>g
mutual
def U4:AV->AV->Gs->Gs
 | .bool a,.bool b,g=>ajy a b g
 | .int _ e,.int _ f,g=>yS e f g
 | .ptr i o,.ptr j p,g=>g.nH i j (p-o)
 | .slice i o _ _,.slice j p _ _,g=>g.nH i j (p-o)
 | .map i,.map j,g=>g.nH i j 0
 | .agg a,.agg b,g=>Ar a b g
 | .tuple a,.tuple b,g=>Ar a b g
 | .iface _ a,.iface _ b,g=>U4 a b g
 | .func _ a b,.func _ c d,g=>Ar b d (Ar a c g)
 | .nX a,.nX b,g=>Ar a b g
 | .ro a _ _,.ro b _ _,g=>Ar a b g
 | .eD a _,.eD b _,g=>yS a b g
 | .kE a,.kE b,g=>yS a b g
 | .qc i a _,.qc j b _,g=>(yS a b g).nH i j 0
 | .AR i _ a _,.AR j _ b _,g=>(yS a b g).nH i j 0
 | .yl a _,.yl b _,g=>yS a b g
 | .vm i l a _,.vm j k b _,g=>(yS l k (yS a b g)).nH i j 0
 |_,_,g=>g
def Ar:List AV->List AV->Gs->Gs
 |x::xs,y::ys,g=>Ar xs ys (U4 x y g)
 |_,_,g=>g
end
def Zi:List (AV×AV×Nat)->List (AV×AV×Nat)->Gs->Gs
 |(k,v,_)::xs,(k',v',_)::ys,g=>Zi xs ys (U4 v v' (U4 k k' g))
 |_,_,g=>g
def ac0:List (V×List AV)->List (V×List AV)->Gs->Gs
 |(i,a)::x,(j,b)::y,g=>ac0 x y (Ar a b (yS i j g))
 |_,_,g=>g
def ac1:List (V×AV)->List (V×AV)->Gs->Gs
 |(i,a)::x,(j,b)::y,g=>ac1 x y (U4 a b (yS i j g))
 |_,_,g=>g
def alN (k:Nat) (o o':dO) (g:Gs):Gs:=match o,o' with
 | .cells a _,.cells b _=>match eS k b with
   |some b=>Ar a b g
   |none=>g
 | .map a _,.map b _=>Zi a b g
 | .vec a _ _ ov,.vec b _ _ jA=>ac0 ov jA (yS a b g)
 | .kO a _,.kO b _=>yS a b g
 | .uC a _ _ ov,.uC b _ _ jA=>ac1 ov jA (yS a b g)
 |_,_=>g
def DL (s:Tr AV):List (Nat×AV)->Gs->Gs
 |[],g=>g
 |(t,v)::l,g=>match s.get t with
  |some v'=>DL s l (U4 v v' g)
  |none=>DL s l g
def BY (h:Hp):List dO->Nat->Gs->Gs
 |[],_,g=>g
 |o::os,i,g=>match g.bl.get i with
  |some (j,k)=>match h.get j with
   |some o'=>BY h os (i+1) (alN k o o' g)
   |none=>BY h os (i+1) g
  |none=>BY h os (i+1) g
def yL (g:Tr V):Nat->Nat->List V
 |0,_=>[]
 |n+1,i=>match g.get i with
  |some e=>e::yL g n (i+1)
  |none=> .lit 0::yL g n (i+1)
def JF (g:Tr (Nat×Nat)):Nat->Nat->List Nat
 |0,_=>[]
 |n+1,i=>match g.get i with
  |some (e,_)=>e::JF g n (i+1)
  |none=>0::JF g n (i+1)
def JE (g:Tr (Nat×Nat)):Nat->Nat->List Nat
 |0,_=>[]
 |n+1,i=>match g.get i with
  |some (_,e)=>e::JE g n (i+1)
  |none=>0::JE g n (i+1)
def CS.lR (c:CS) (s:St):Ren:=match BY s.h c.dB 0 (DL s.bG c.bG ⟨.nil,.nil⟩) with
 |⟨ns,bl⟩=> ⟨yL ns c.k 0,JF bl c.dB.length 0,JE bl c.dB.length 0⟩
def RO (i:Nat):List Nat->Bool
 |[]=>true
 |j::l=>match Nat.beq i j with
  |true=>false
  |false=>RO i l
def xy:List Nat->Bool
 |[]=>true
 |i::l=>RO i l&&xy l
def Dv (r:Ren) (n:Nat) (s:Tr AV):List (Nat×AV)->Bool
 |[]=>true
 |(t,v)::l=>match s.get t with
  |some v'=>mj n v&&eR (r.av v) v'&&Dv r n s l
  |none=>false
def BJ (r:Ren) (n:Nat) (h:Hp):List dO->Nat->Bool
 |[],_=>true
 |o::os,i=>match h.get (r.id i) with
  |some o'=>OX n o&&eO r (r.vp i) o o'&&BJ r n h os (i+1)
  |none=>false
def Nw (pc:List (SB×Bool)) (e:V):Option Int×Option Int:=match e with
 | .lit z=>(some z,some z)
 |e=>bounds e pc
def Sg (a b:Int):Bool:=decide (-9223372036854775808<=a)&&decide (b<=9223372036854775807)
def Ge (pc:List (SB×Bool)) (e:V):Option Int×Option Int:=match e with
 | .wrap .i64 (.add a b)=>match Nw pc a,Nw pc b with
   |(some la,some ha),(some lb,some hb)=>if Sg (la+lb) (ha+hb) then (some (la+lb),some (ha+hb)) else bounds e pc
   |_,_=>bounds e pc
 | .wrap .i64 (.sub a b)=>match Nw pc a,Nw pc b with
   |(some la,some ha),(some lb,some hb)=>if Sg (la-hb) (ha-lb) then (some (la-hb),some (ha-lb)) else bounds e pc
   |_,_=>bounds e pc
 |e=>Nw pc e
def Gg (a b:Option Int):Bool:=match a,b with
 |some x,some y=>decide (x<y)
 |_,_=>false
def KV (a b:Option Int):Bool:=match a,b with
 |some x,some y=>decide (x<=y)
 |_,_=>false
def I! (pc:List (SB×Bool)) (c:SB) (v:Bool):Bool:=
 match kM pc c with
 |some b=>b == v
 |none=>match c with
  | .lt a b=>match v with
    |true=>Gg (Ge pc a).2 (Ge pc b).1
    |false=>KV (Ge pc b).2 (Ge pc a).1
  | .eq a b=>match v with
    |true=>false
    |false=>Gg (Ge pc a).2 (Ge pc b).1||Gg (Ge pc b).2 (Ge pc a).1
  |_=>false
def DO (pv:List (SB×Bool)->SB->Bool->Bool) (r:Ren) (pc:List (SB×Bool)):List (SB×Bool)->Bool
 |[]=>true
 |(c,v)::l=>pv pc (r.sb c) v&&DO pv r pc l
def CS.fits (pv:List (SB×Bool)->SB->Bool->Bool) (c:CS) (s:St) (r:Ren):Bool:=
 Nat.ble r.ns.length 900&&Nat.beq r.bl.length c.dB.length&&xy r.bl&&Dv r c.dB.length s.bG c.bG&&BJ r c.dB.length s.h c.dB 0&&DO pv r s.pc c.pc
theorem vI: ∀{l:List (Nat×AV)} {t:Tr AV} {i:Nat} {v:AV},(og l t).get i=some v->(i,v)∈l\/t.get i=some v
 |[],t,i,v,h=> .inr h
 |(j,x)::l,t,i,v,h=>by
  simp only [og] at h;rcases vI h with h|h
  all_goals grind [Tr.bU]
theorem jZ: ∀{l:List dO} {i:Nat} {t:Tr dO} {j:Nat},(pj l i t).get j=if i<=j/\j<i+l.length then l[j-i]? else t.get j
 |[],i,t,j=>by rw [ak ae];rfl
 |o::os,i,t,j=>by
  simp only [pj];rw [jZ,Tr.bU]
  grind
theorem L4 {i:Nat}: ∀{l:List Nat},RO i l=true->i∉l
 |[],_=>by simp
 |j::l,h=>by
  simp only [RO] at h;split at h
  ·grind
  ·rename_i hb;have:=anR hb;simp [this,L4 h]
theorem pM: ∀{l:List Nat},xy l=true->∀{i j x:Nat},fy l i=some x->fy l j=some x->i=j
 |[],_,i,_,_,h,_=>by simp [fy] at h
 |y::l,W,i,j,x,U,Z=>by
  simp only [xy,aw] at W;have hn:=L4 W.1
  have hm: ∀{i:Nat} {l:List Nat} {x:Nat},fy l i=some x->x∈l:=by
   intro i l x h
   grind [du]
  cases i with
  |zero=>
   cases j with
   |zero=>rfl
   |succ j=>
    grind [fy]
  |succ i=>
   cases j with
   |zero=>
    grind [fy]
   |succ j=> simp only [fy] at U Z;rw [pM W.2 U Z]
theorem Cv {r:Ren} {n:Nat} {s:Tr AV}: ∀{l:List (Nat×AV)},Dv r n s l=true->∀{t:Nat} {v:AV},(t,v)∈l->∃v',s.get t=some v'/\mj n v=true/\r.av v=v'
 |[],_,_,_,h=>by simp at h
 |(t0,v0)::l,hs,t,v,h=>by
  simp only [Dv] at hs;split at hs
  ·rename_i v' hv;simp only [aw] at hs;rcases aH.1 h with h|h
   ·grind [ku]
   ·exact Cv hs.2 h
  grind
theorem jr {r:Ren} {n:Nat} {h:Hp}: ∀{l:List dO} {i:Nat},BJ r n h l i=true->∀{j:Nat} {o:dO},l[j]?=some o->∃o',h.get (r.id (i+j))=some o'/\OX n o=true/\eO r (r.vp (i+j)) o o'=true
 |[],_,_,_,_,h=>by simp at h
 |o0::os,i,hs,j,o,hj=>by
  simp only [BJ] at hs;split at hs
  ·rename_i o' ho;simp only [aw] at hs
   cases j with
   |zero=>
    grind
   |succ j=>
    have:=jr hs.2 (j:=j) (by simpa using hj)
    grind
  grind
def F! (pv:List (SB×Bool)->SB->Bool->Bool):Prop:= ∀(ρ:Nat->Int) (pc:List (SB×Bool)) (c:SB) (v:Bool),bY ρ pc->pv pc c v=true->c.den ρ=v
theorem A5 {ρ:Nat->Int} {pc:List (SB×Bool)} (hp:bY ρ pc) (e:V):sk (Nw pc e).1 (Nw pc e).2 (e.den ρ):=by
 unfold Nw
 grind [sk,V.den,mN]
theorem E5 {a b x:Int} (h:Sg a b=true) (U:a<=x) (Z:x<=b):IntKind.i64.wrap x=x:=by
 simp only [Sg,aw,decide_eq_true_eq] at h;rw [<- mr]
 grind [vh]
theorem Tw {ρ:Nat->Int} {pc:List (SB×Bool)} (hp:bY ρ pc) (e:V):sk (Ge pc e).1 (Ge pc e).2 (e.den ρ):=by
 unfold Ge;split
 ·rename_i a b;have ha:=A5 hp a;have hb:=A5 hp b;split
  ·rename_i la ha' lb JV e1 e2;rw [e1] at ha;rw [e2] at hb;have a1:=ha.1 la rfl;have a2:=ha.2 ha' rfl;have b1:=hb.1 lb rfl;have b2:=hb.2 JV rfl;split
   ·rename_i hi;simp only [V.den];rw [E5 hi J J];constructor<;>intro l Y<;>simp at Y<;>omega
   ·exact mN hp
  ·exact mN hp
 ·rename_i a b;have ha:=A5 hp a;have hb:=A5 hp b;split
  ·rename_i la ha' lb JV e1 e2;rw [e1] at ha;rw [e2] at hb;have a1:=ha.1 la rfl;have a2:=ha.2 ha' rfl;have b1:=hb.1 lb rfl;have b2:=hb.2 JV rfl;split
   ·rename_i hi;simp only [V.den];rw [E5 hi J J];constructor<;>intro l Y<;>simp at Y<;>omega
   ·exact mN hp
  ·exact mN hp
 grind [A5]
theorem Ck {a b:Option Int} {x y:Int} (h:Gg a b=true) (U: ∀z,a=some z->x<=z) (Z: ∀z,b=some z->z<=y):x<y:=by
 unfold Gg at h
 grind
theorem QC {a b:Option Int} {x y:Int} (h:KV a b=true) (U: ∀z,a=some z->x<=z) (Z: ∀z,b=some z->z<=y):x<=y:=by
 unfold KV at h
 grind
theorem OS:F! I!:=by
 intro ρ pc c v hp h;unfold I! at h;split at h
 ·rename_i b hb
  grind [gY]
 ·split at h
  ·have ha:=fun a=>Tw hp a;split at h
   ·have:=Ck h (ha _).2 (ha _).1
    grind [SB.den]
   ·have:=QC h (ha _).2 (ha _).1
    grind [SB.den]
  ·have ha:=fun a=>Tw hp a;split at h
   ·grind
   ·simp only [anA] at h;simp only [SB.den,beq_eq_false_iff_ne,ne_eq];rcases h with h|h
    ·have:=Ck h (ha _).2 (ha _).1;omega
    ·have:=Ck h (ha _).2 (ha _).1;omega
  grind
theorem Fz {pv:List (SB×Bool)->SB->Bool->Bool} (hpv:F! pv) {r:Ren} (Y:r.ns.length<=900) {ρ:Nat->Int} {pc:List (SB×Bool)} (hp:bY ρ pc): ∀{l:List (SB×Bool)},DO pv r pc l=true->bY (r.env ρ) l
 |[],_=>by intro c b h; simp at h
 |(c0,v0)::l,h=>by
  simp only [DO,aw] at h;intro c b hm;rcases aH.1 hm with hm|hm
  ·simp only [au] at hm;obtain⟨rfl,rfl⟩:=hm;rw [<- Ren.By Y];exact hpv ρ pc _ _ hp h.1
  ·exact Fz hpv Y hp h.2 c b hm
theorem Ay [bK] {pv:List (SB×Bool)->SB->Bool->Bool} (hpv:F! pv) {E:En} {c:CS} {s:St} {r:Ren} {a:Act} {w:World} (f:Fit E s a w) (h:c.fits pv s r=true):r.ns.length<=900/\Fit (E.ic r) c.st a w/\
 ∀id o,c.st.h.get id=some o->∃o',s.h.get (r.id id)=some o':=by
 unfold CS.fits at h;simp only [aw] at h;obtain⟨⟨⟨⟨⟨U,Z⟩,h3⟩,h4⟩,h5⟩,h6⟩:=h;have Y:=ane U;have hn:=aA Z
 have wb: ∀id o,c.st.h.get id=some o->c.dB[id]?=some o:=by
  intro id o ho;have:(pj c.dB 0 .nil).get id=some o:=ho
  grind [jZ,Tr.get]
 refine⟨Y,⟨⟨?_,?_,?_,?_,f.rel.su,bK.ic f.rel.kj fun i hi=>Ren.mu Y hi,?_⟩,?_,Fz hpv Y f.pc h6⟩,?_⟩
 ·intro id hid W;have:id<r.bl.length:=W.1;have hid:c.dB.length<=id:=hid;omega
 ·intro x hx
  grind [CS.st]
 ·intro id o ho;obtain⟨o',g1,g2,g3⟩:=jr h5 (wb id o ho);rw [aL] at g1 g3;obtain⟨q1,q2,q3⟩:=f.rel.live _ _ g1;have gv:=(bj.1 (wb id o ho)).1;exact⟨⟨J,q1⟩,OR.ic Y (by rw [hn]; exact g2) g3 q2,q3⟩
 ·intro id Pb o o' ho Ai he;obtain⟨p,g1,_⟩:=jr h5 (wb id o ho);obtain⟨p',SG,_⟩:=jr h5 (wb Pb o' Ai);rw [aL] at g1 SG;have heq:=f.rel.inj _ _ _ _ g1 SG he;have gv:=(bj.1 (wb id o ho)).1;have afI:=(bj.1 (wb Pb o' Ai)).1;unfold Ren.id at heq
  cases e1:fy r.bl id with
  |none=>rw [du,anV] at e1; omega
  |some x=>
   cases e2:fy r.bl Pb with
   |none=>rw [du,anV] at e2; omega
   |some y=> rw [e1,e2] at heq;simp only at heq;subst heq;exact pM h3 e1 e2
 ·intro b x hb;obtain⟨q1,q2,q3⟩:=f.rel.hid b x hb;refine⟨q1,q2,fun id o ho=>?_⟩;obtain⟨o',g1,_⟩:=jr h5 (wb id o ho);rw [aL] at g1;exact q3 _ o' g1
 ·intro t v ht;have:(og c.bG .nil).get t=some v:=ht;rcases vI this with h|h
  ·obtain⟨v',g1,g2,g3⟩:=Cv h4 h;obtain⟨u,q1,q2⟩:=f.sr t v' g1
   grind [VR.ic]
  grind [Tr.get]
 grind [jr]
end
end Go.As
end
section
namespace Go.As
noncomputable section
open Go.RowKit
structure H? where
 w0:World
 ro:Nat->Prop
 ρ0:Nat->Int
structure Top [bK] (B:H?) (E:En) (s:St) (a:Act) (w:World):Prop where
 fit:Fit E s a w
 hi: ∀i,900<=i->E.ρ i=B.ρ0 i
 ro: ∀b,B.ro b->E.ro b
 below:Below B.w0.heap.size B.w0 w
 own: ∀id o,s.h.get id=some o->B.w0.heap.size<=(E.θ id).1
theorem Top.then [bK] {B:H?} {E:En} {s s':St} {a a':Act} {w w':World} (t:Top B E s a w) (h:nK E s a w s' a' w'): ∃E',Top B E' s' a' w'/\E'.ρ=E.ρ:=by
 obtain⟨_,_,E',st,f'⟩:=h;refine⟨E',⟨f',fun i hi=>by rw [st.ρ]; exact t.hi i hi,fun b hb=>st.ro b (t.ro b hb),?_,?_⟩,st.ρ⟩
 ·refine t.below.trans ⟨st.os,st.tape,st.output,st.size,fun k hk=>?_⟩
  exact st.cx k (anh hk t.below.size) fun id o ho he=>by have:=t.own id o ho;omega
 ·intro id o ho;rcases bg (E'.θ id).1 w.heap.size with h|h
  ·obtain⟨s5,o0,h0,he⟩:=st.own id o ho h;rw [<- he];exact t.own s5 o0 h0
  ·exact bq t.below.size h
theorem Top.fits [bK] {pv:List (SB×Bool)->SB->Bool->Bool} (hpv:F! pv) {B:H?} {E:En} {c:CS} {s:St} {r:Ren} {a:Act} {w:World} (t:Top B E s a w) (h:c.fits pv s r=true):r.ns.length<=900/\Top B (E.ic r) c.st a w:=by
 obtain⟨Y,f,ho⟩:=Ay hpv t.fit h;refine⟨Y,f,fun i hi=>?_,t.ro,t.below,fun id o hid=>?_⟩
 ·show r.env E.ρ i=_;rw [Ren.mu Y hi];exact t.hi i hi
 ·obtain⟨o',h'⟩:=ho id o hid;exact t.own _ _ h'
inductive Fr where
 |seq (p:List Nat) (c:Code)
 |block (id:Nat)
def JI {α:Type}:T α->(α->Bool)->Bool
 | .fail,_=>false
 | .ret a,f=>f a
 | .split _ x y,f=>JI x f&&JI y f
structure Cfg where
 tt:TT
 call:eu
 draw:Nat->List Oper->St->T St
 lf:Nat
 pv:List (SB×Bool)->SB->Bool->Bool
 res:List ResultVar
def Cfg.ev (g:Cfg) (c:Code) (s:St):T (Ex×St):=jK g.tt g.call g.draw g.lf c s
def isTrue:Option (List AV)->Bool
 |some [.bool (.lit b)]=>b
 |_=>false
def ZI (g:Cfg) (e:Ex) (s:St):Bool:=match e with
 | .exit _=>false
 |_=>isTrue (lI g.tt s g.res)
def afb:AV->AV->Bool
 | .int _ (.lit a),.int _ (.lit b)=>a == b
 | .int _ (.lit _),.int _ _=>false
 | .slice _ _ n _,.slice _ _ m _=>Nat.beq n m
 | .slice _ _ _ _,_=>false
 | .gN,.gN=>true
 | .gN,_=>false
 |_,_=>true
def quick (s:Tr AV):List (Nat×AV)->Bool
 |[]=>true
 |(t,v)::l=>match s.get t with
  |some v'=>match afb v v' with
   |true=>quick s l
   |false=>false
  |none=>false
def KZ (pv:List (SB×Bool)->SB->Bool->Bool) (s:St):List CS->Bool
 |[]=>false
 |c::cs=>match quick s.bG c.bG with
  |false=>KZ pv s cs
  |true=>match c.fits pv s (c.lR s) with
   |true=>true
   |false=>KZ pv s cs
abbrev ake:=List Nat->Option (List CS)
mutual
def go (g:Cfg) (fJ:ake):Nat->List Nat->Code->List Fr->St->Bool
 |0,_,_,_,_=>false
 |n+1,p,c,fr,s=>match fJ p with
  |some cs=>KZ g.pv s cs
  |none=>match c with
   | .seq a b=>go g fJ n (0::p) a (.seq (1::p) b::fr) s
   | .block id b=>go g fJ n (0::p) b (.block id::fr) s
   |c=>JI (g.ev c s) fun (e,s')=>cont g fJ n fr e s'
def cont (g:Cfg) (fJ:ake):Nat->List Fr->Ex->St->Bool
 |0,_,_,_=>false
 |n+1,fr,e,s=>match fr with
  |[]=>ZI g e s
  | .seq p c::fr=>match e with
    | .normal=>go g fJ n p c fr s
    |e=>cont g fJ n fr e s
  | .block id::fr=>match e with
    | .exit j=>match Nat.beq j id with
      |true=>cont g fJ n fr .normal s
      |false=>cont g fJ n fr (.exit j) s
    |e=>cont g fJ n fr e s
end
def apart (pc:List (SB×Bool)) (x:V):List V->Bool
 |[]=>true
 |y::l=>match decEq pc x y with
  |some false=>apart pc x l
  |_=>false
structure Hint where
 ts:List (SB×Bool):=[]
 xs:List V:=[]
 n:Nat:=0
section
variable {P:Program} {g:Cfg} {rL:Nat->List Oper->Bool} {N:Nat} {body:Code} {B:H?} {Q:Exit->Act->World->Prop}
structure amC [bK] (P:Program) (g:Cfg) (rL:Nat->List Oper->Bool):Prop where
 tt:eJ P g.tt
 call:iT P g.call
 draw:wQ P rL g.draw
 pv:F! g.pv
theorem Top.pc [bK] {B:H?} {E:En} {s:St} {a:Act} {w:World} {pc:List (SB×Bool)} (t:Top B E s a w) (hp:bY E.ρ pc):Top B E { s with pc:=pc } a w:=
 ⟨⟨t.fit.rel,t.fit.sr,hp⟩,t.hi,t.ro,t.below,t.own⟩
end
end
end Go.As
end
section
namespace Go.As
noncomputable section
def NI (h:Hp) (o:dO):Hp:=⟨h.m.put h.next (some o),h.next+1,h.res⟩
def aa5 {α:Type} (c:FC) (x:V) (ty:Nat) (s:St) (k:AV->St->T α):T α:=match c with
 | .ck c=>k (sc c x) s
 | .mp t=>k (.map s.h.next) { s with h:=NI s.h (.kO x t) }
 | .own t=>kB s (rj (dS x) (.lit 0)) fun s b=>match b with
   |false=>k (.qc s.h.next (dS x) t) { s with h:=NI s.h (.vec x t ty []) }
   |true=>kB s (rj (nr x) (.eD (.i 3))) fun s b=>match b with
    |true=>k (.slice s.h.next 0 0 (.rest (rowOf t).es)) { s with h:=NI s.h (.cells [] ty) }
    |false=>k (.yl x t) s
def SL {α:Type} (fw:List Nat) (x:V):List FC->Nat->St->(List AV->St->T α)->T α
 |[],_,s,k=>k [] s
 |c::cs,j,s,k=>aa5 c (jq j x) (fw.getD (j+2) 0) s fun v s=>SL fw x cs (j+1) s fun vs s=>k (v::vs) s
def aba {α:Type} (t:Nat) (fw:List Nat) (x:V) (s:St) (k:AV->St->T α):T α:=match (rF t).ptr with
 |false=>match (rF t).cs with
  |[c]=>aa5 c x (fw.getD 1 0) s k
  |_=> .fail
 |true=>SL fw x (rF t).cs 0 s fun vs s=>k (.ptr s.h.next 0) { s with h:=NI s.h (.cells vs (fw.getD 0 0)) }
def aa4 {α:Type} (id:Nat) (x:V) (s:St) (k:St->T α):T α:=match s.h.get id with
 |some o=>match o with
  | .uC e t fw ov=>uB x ov s fun r s=>match r with
    |some _=>k s
    |none=>kB s (Ib e (nV x)) fun s b=>match b with
     |true=>k s
     |false=>aba t fw (.op .GM e (nV x)) { s with h:=s.h.drop id } fun v s=>k { s with h:=s.h.put id (.uC e t fw ((x,v)::ov)) }
  |_=>k s
 |none=>k s
def abN (E:En) (H:Hp) (b:Nat):Prop:=(∃id o,H.get id=some o/\(E.θ id).1=b)\/∃x,E.W b=some x
structure View [bK] (E:En) (H:Hp) (w:World) (E':En) (H':Hp):Prop where
 rel:bR E' H' w
 kp:fY E w.heap E' w.heap
 sR: ∀b,E'.ro b->E.ro b\/abN E H b
 hold: ∀b,abN E' H' b->abN E H b
theorem View.refl [bK] {E:En} {H:Hp} {w:World} (r:bR E H w):View E H w E H:=
 ⟨r,⟨rfl,fun _ h=>h,fun _ _=>rfl,fun _ _=>rfl,fun _ h=>h,fun _ _=>rfl⟩,fun _ h=> .inl h,fun _ h=>h⟩
theorem View.trans [bK] {E E1 E2:En} {H H1 H2:Hp} {w:World} (a:View E H w E1 H1) (b:View E1 H1 w E2 H2):View E H w E2 H2:=
 ⟨b.rel,⟨b.kp.ρ.trans a.kp.ρ,fun id h=>b.kp.dm id (a.kp.dm id h),fun id h=>(b.kp.θ id (a.kp.dm id h)).trans (a.kp.θ id h),fun id h=>(b.kp.κ id (a.kp.dm id h)).trans (a.kp.κ id h),fun x h=>b.kp.ro x (a.kp.ro x h),fun _ _=>rfl⟩,
  fun x h=>(b.sR x h).elim (a.sR x) fun h=> .inr (a.hold x h),fun x h=>a.hold x (b.hold x h)⟩
theorem fY.trans {E E1 E2:En} {h:Array Obj} (a:fY E h E1 h) (b:fY E1 h E2 h):fY E h E2 h:=
 ⟨b.ρ.trans a.ρ,fun id h=>b.dm id (a.dm id h),fun id h=>(b.θ id (a.dm id h)).trans (a.θ id h),fun id h=>(b.κ id (a.dm id h)).trans (a.κ id h),fun x h=>b.ro x (a.ro x h),fun _ _=>rfl⟩
theorem View.aff [bK] {E E':En} {H H':Hp} {w:World} (r:bR E H w) (s:fq E H w E' H' w) (r':bR E' H' w):View E H w E' H':=by
 refine⟨r',s.keeps r,fun b hb=>?_,fun b hb=>?_⟩
 ·rcases s.sR b hb with h|h|h
  ·exact .inl h
  ·exact .inr (.inl h)
  ·have:=r'.su b hb;omega
 ·rcases hb with ⟨id,o,U,Z⟩|⟨x,U⟩
  ·obtain⟨s5,o0,g1,g2⟩:=s.own id o U (gC r' U);exact .inl ⟨s5,o0,g1,g2.trans Z⟩
  ·exact .inr ⟨x,by rw [<- s.W]; exact U⟩
theorem wx (H:Hp) (o:dO) (j:Nat):(NI H o).get j=if j=H.next then some o else H.get j:=by simp [NI,Hp.get,Tr.bU]
def En.N3 (E:En) (b o c n:Nat):En:={ E.ext n (b,o) c with W:=fun q=>if q=b then none else E.W q }
theorem Bu [bK] {E:En} {H:Hp} {w:World} (r:bR E H w) (b o c:Nat):fY E w.heap (E.N3 b o c H.next) w.heap:=by have hu: ∀{i:Nat},E.dm i->i≠H.next:=fun h e=>r.fresh _ (az _) (e▸h);exact⟨rfl,fun _ h=> .inr h,fun _ h=>En.ext_θ E H.next (b,o) c (hu h),fun _ h=>En.ext_κ E H.next (b,o) c (hu h),fun _ h=>h,fun _ _=>rfl⟩
theorem Uh [bK] {E:En} {H:Hp} {w:World} (r:bR E H w) {b o c:Nat} {x:Nat×D×Nat} (hb:E.W b=some x) (hx: ∀id o,H.get id=some o->nf o=true\/(E.θ id).1≠x.1) (ao:dO)
 (ho:OR (E.N3 b o c H.next) w.heap H.next ao):View E H w (E.N3 b o c H.next) (NI H ao):=by
 have hu: ∀{i:Nat},E.dm i->i≠H.next:=fun h e=>r.fresh _ (az _) (e▸h);obtain⟨q1,q2,q3⟩:=r.hid b x hb;have kp:=Bu r b o c;have hθ: ∀{i:Nat},E.dm i->(E.N3 b o c H.next).θ i=E.θ i:=fun h=>kp.θ _ h;have hθn:(E.N3 b o c H.next).θ H.next=(b,o):=En.ext_θ_new E H.next (b,o) c;refine⟨⟨fun id hid W=>?_,fun q hq=>?_,fun id o2 Z=>?_,fun i j o1 o2 U Z he=>?_,r.su,r.kj,fun q y hq=>?_⟩,kp,fun _ h=> .inl h,fun q hq=>?_⟩
 ·have hid:H.next+1<=id:=hid;rcases W with W|W
  ·have W:id=H.next:=W;omega
  ·exact r.fresh id J W
 ·obtain⟨g1,g2⟩:=r.res q hq;refine⟨Nat.lt_succ_of_lt g1,?_⟩;rintro (W|W)
  ·have W:q=H.next:=W;omega
  ·exact g2 W
 ·rw [wx] at Z;split at Z
  ·rename_i he;simp only [aq] at Z;subst Z he;exact⟨.inl rfl,ho,by rw [hθn]; exact q2⟩
  ·obtain⟨g1,g2,g3⟩:=r.live id o2 Z;refine⟨.inr g1,g2.YK kp g1 rfl ?_,by rw [hθ g1]; exact g3⟩;rcases hx id o2 Z with h|h
   ·exact .inl h
   ·refine .inr fun key q j hq=> ⟨?_,rfl⟩;show (if q=b then none else E.W q)=_;rw [ak]
    ·exact hq
    ·rintro rfl;rw [hb] at hq;simp only [aq] at hq;rw [hq] at h;exact h rfl
 ·rw [wx] at U Z;split at U<;>split at Z
  ·omega
  ·rename_i e1 _;have g:=(r.live j o2 Z).1;rw [e1,hθn,hθ g] at he;exact absurd he.symm (q3 j o2 Z)
  ·rename_i _ e1;have g:=(r.live i o1 U).1;rw [e1,hθn,hθ g] at he;exact absurd he (q3 i o1 U)
  ·rw [hθ (r.live i o1 U).1,hθ (r.live j o2 Z).1] at he;exact r.inj i j o1 o2 U Z he
 ·have hq:(if q=b then none else E.W q)=some y:=hq;split at hq
  ·simp at hq
  ·rename_i gb;obtain⟨p1,p2,p3⟩:=r.hid q y hq;refine⟨p1,p2,fun id o2 Z=>?_⟩;rw [wx] at Z;split at Z
   ·rename_i he;rw [he,hθn];exact fun e=>gb e.symm
   ·rw [hθ (r.live id o2 Z).1];exact p3 id o2 Z
 ·rcases hq with ⟨id,o2,Z,he⟩|⟨y,hq⟩
  ·rw [wx] at Z;split at Z
   ·rename_i e;rw [e,hθn] at he;have he:b=q:=he;exact .inr ⟨x,by rw [<- he]; exact hb⟩
   ·rw [hθ (r.live id o2 Z).1] at he;exact .inl ⟨id,o2,Z,he⟩
  ·have hq:(if q=b then none else E.W q)=some y:=hq;split at hq
   ·simp at hq
   ·exact .inr ⟨y,hq⟩
theorem LO [bK] {E:En} {H:Hp} {w:World} (r:bR E H w) {id:Nat} {ao:dO} (W:E.dm id) (l7: ¬E.ro (E.θ id).1) (gb: ∀j o,H.get j=some o->j≠id/\(E.θ j).1≠(E.θ id).1) (hh: ∀x,E.W (E.θ id).1≠some x) (ho:OR E w.heap id ao):bR E (H.put id ao) w:=by
 have hg: ∀j o,(H.put id ao).get j=some o->(j=id/\o=ao)\/(j≠id/\H.get j=some o):=by
  intro j o h;rw [Hp.bU] at h;split at h
  ·rename_i e; simp only [aq] at h; exact .inl ⟨e,h.symm⟩
  ·rename_i e; exact .inr ⟨e,h⟩
 refine⟨r.fresh,r.res,fun j o h=>?_,fun i j o1 o2 U Z he=>?_,r.su,r.kj,fun q y hq=>?_⟩
 ·rcases hg j o h with ⟨rfl,rfl⟩|⟨_,h⟩
  ·exact⟨W,ho,l7⟩
  ·exact r.live j o h
 ·rcases hg i o1 U with ⟨e1,_⟩|⟨e1,g1⟩ <;>rcases hg j o2 Z with ⟨e2,_⟩|⟨e2,g2⟩
  ·omega
  ·rw [e1] at he;exact absurd he.symm (gb j o2 g2).2
  ·rw [e2] at he;exact absurd he (gb i o1 g1).2
  ·exact r.inj i j o1 o2 g1 g2 he
 ·obtain⟨p1,p2,p3⟩:=r.hid q y hq;refine⟨p1,p2,fun j o h=>?_⟩;rcases hg j o h with ⟨rfl,rfl⟩|⟨_,h⟩
  ·exact fun e=>hh y (by rw [e]; exact hq)
  ·exact p3 j o h
structure pd [bK] (B:Nat) (key:D) (Z?:Nat->Prop) (w:World) (E:En) (H:Hp) (E':En) (H':Hp):Prop where
 view:View E H w E' H'
 W: ∀b x,E.W b=some x->E'.W b=some x\/∃j,Z? j/\x=(B,key,j)
 Fh: ∀b x,E'.W b=some x->E.W b=some x
 new: ∀id o,H'.get id=some o->H.get id=some o\/(nf o=true/\H.next<=id)
 RN:H.next<=H'.next
 ro: ∀b,E'.ro b->E.ro b
theorem pd.refl [bK] {B:Nat} {key:D} {Z?:Nat->Prop} {w:World} {E:En} {H:Hp} (r:bR E H w):pd B key Z? w E H E H:=
 ⟨View.refl r,fun _ _ h=> .inl h,fun _ _ h=>h,fun _ _ h=> .inl h,az _,fun _ h=>h⟩
theorem pd.trans [bK] {B:Nat} {key:D} {Z? J1 J2:Nat->Prop} {w:World} {E E1 E2:En} {H H1 H2:Hp} (a:pd B key J1 w E H E1 H1) (b:pd B key J2 w E1 H1 E2 H2) (U: ∀j,J1 j->Z? j) (Z: ∀j,J2 j->Z? j):pd B key Z? w E H E2 H2:=by
 refine⟨a.view.trans b.view,fun q x h=>?_,fun q x h=>a.Fh q x (b.Fh q x h),fun id o h=>?_,bq a.RN b.RN,fun q h=>a.ro q (b.ro q h)⟩
 ·rcases a.W q x h with h|⟨j,h,e⟩
  ·rcases b.W q x h with h|⟨j,h,e⟩
   ·exact .inl h
   ·exact .inr ⟨j,Z j h,e⟩
  ·exact .inr ⟨j,U j h,e⟩
 ·rcases b.new id o h with h|⟨h,g⟩
  ·exact a.new id o h
  ·exact .inr ⟨h,bq a.RN g⟩
theorem pd.nf [bK] {B:Nat} {key:D} {Z?:Nat->Prop} {w:World} {E E':En} {H H':Hp} (a:pd B key Z? w E H E' H') (r:bR E H w) (hx: ∀id o,H.get id=some o->nf o=true\/(E.θ id).1≠B): ∀id o,H'.get id=some o->nf o=true\/(E'.θ id).1≠B:=by
 intro id o h;rcases a.new id o h with h|⟨h,_⟩
 ·rcases hx id o h with g|g
  ·exact .inl g
  ·exact .inr (by rw [a.view.kp.θ id (r.live id o h).1]; exact g)
 ·exact .inl h
theorem pd.own [bK] {B:Nat} {key:D} {Z?:Nat->Prop} {w:World} {E E':En} {H H':Hp} (a:pd B key Z? w E H E' H') {j ty:Nat} (hj: ¬Z? j) {c:FC} {d:D} {u:Value} (ho:pO E w.heap B key j ty c d u):pO E' w.heap B key j ty c d u:=
 ho.cx a.view.kp fun b hb=>by
  rcases a.W b _ hb with h|⟨i,h,e⟩
  ·exact⟨h,rfl⟩
  ·simp only [au,true_and] at e;exact absurd (e▸h) hj
theorem tL [bK] {E:En} {H:Hp} {w:World} (r:bR E H w) {b o c B j:Nat} {key:D} (hb:E.W b=some (B,key,j)) (hx: ∀id o,H.get id=some o->nf o=true\/(E.θ id).1≠B) (ao:dO) (hn:nf ao=true)
 (ho:OR (E.N3 b o c H.next) w.heap H.next ao):pd B key (·= j) w E H (E.N3 b o c H.next) (NI H ao):=by
 refine⟨Uh r hb hx ao ho,fun q x h=>?_,fun q x h=>?_,fun id o h=>?_,am9 _,fun _ h=>h⟩
 ·show (if q=b then none else E.W q)=some x\/_;split
  ·rename_i e;subst e;rw [hb] at h;simp only [aq] at h;exact .inr ⟨j,rfl,h.symm⟩
  ·exact .inl h
 ·have h:(if q=b then none else E.W q)=some x:=h;split at h
  ·simp at h
  ·exact h
 ·rw [wx] at h;split at h
  ·rename_i e;simp only [aq] at h;exact .inr ⟨by rw [<- h]; exact hn,J⟩
  ·exact .inl h
theorem Rd.i3 {ro:Nat->Prop} {h:Array Obj} {t:Nat} {u:Value} (r:Rd ro h (.sl t) (.i 3) u):False:=by
 generalize W:D.i 3=d at r
 cases r with
 |nil t=>simp at W
 |xc t a cap=>simp at W
 |one t c b o cap ds f hr hc hb U Z=>cases ds<;>simp [dL] at W
 |many t cs b o cap rows f hr hc hb Y U Z=>cases rows<;>simp [dL] at W
theorem Rd.akS {ro:Nat->Prop} {h:Array Obj} {t:Nat} {d:D} {x:Option Addr} {c:Nat} (r:Rd ro h (.sl t) d (.slice x 0 c)):d.l= []:=by
 generalize hu:Value.slice x 0 c=u at r
 cases r with
 |nil t=>rfl
 |xc t a cap=>rfl
 |one t c b o cap ds f hr hc hb U Z=> simp only [Value.slice.injEq] at hu;rw [bE];exact am5 hu.2.1.symm
 |many t cs b o cap rows f hr hc hb Y U Z=> simp only [Value.slice.injEq] at hu;rw [bE,am5 hu.2.1.symm];rfl
theorem SM [bK] {α:Type} {ρ:Nat->Int} {c:FC} {x:V} {ty:Nat} {s:St} {k:AV->St->T α} {y:α} {E:En} {w:World} {B j:Nat} {key:D} {u:Value} (hρ:E.ρ=ρ) (r:bR E s.h w) (hp:bY ρ s.pc) (hx: ∀id o,s.h.get id=some o->nf o=true\/(E.θ id).1≠B)
 (ho:pO E w.heap B key j ty c (dec (x.den ρ)) u) (h:(aa5 c x ty s k).leaf ρ=some y) :
 ∃v h' ef E',bY ρ ef/\pd B key (·= j) w E s.h E' h'/\VR E' w.heap v u/\(k v { s with h:=h',pc:=ef }).leaf ρ=some y:=by
 cases c with
 |ck c=> refine⟨_,s.h,s.pc,E,hp,pd.refl r,?_,h⟩;rw [od,hρ];exact Rd.cell ho
 |mp t=>
  obtain⟨b,bS,c,rfl,Z,h3,h4⟩:=ho;refine⟨_,_,s.pc,E.N3 b 0 0 s.h.next,hp,tL r Z hx (.kO x t) rfl ?_,?_,h⟩
  ·simp only [OR];have hθ:(E.N3 b 0 0 s.h.next).θ s.h.next=(b,0):=En.ext_θ_new E s.h.next (b,0) 0;rw [hθ];exact⟨bS,c,h3,by show ly E.ro w.heap t (dec (x.den E.ρ)).l bS.toList; rw [hρ]; exact h4⟩
  ·simp only [VR];have hθ:(E.N3 b 0 0 s.h.next).θ s.h.next=(b,0):=En.ext_θ_new E s.h.next (b,0) 0;rw [hθ];exact⟨rfl,.inl rfl⟩
 |own t=>
  simp only [aa5] at h;obtain⟨ga,fS,U⟩:=cI hp h;rw [iU,cD] at U;simp only [V.den] at U;rcases ho with ⟨⟨a,rfl⟩,Z⟩|⟨b,o,n,cap,a,arr,lo,hi,rfl,g2,g3,g4,g5,g6,g7⟩
  ·have Y:=Z.akS;rw [Y] at U;obtain⟨ky,kf,h3⟩:=cI (s:={ s with pc:=ga }) fS U;rw [iU,mE] at h3;simp only [V.den] at h3
   have gb:(enc (dec (x.den ρ)) == enc (.i 3))=false:=by rw [beq_eq_false_iff_ne];intro e;rw [ew e] at Z;exact Z.i3
   rw [gb] at h3;refine⟨_,s.h,ky,E,kf,pd.refl r,?_,h3⟩;simp only [VR];rw [hρ];exact⟨⟨a,rfl⟩,Z⟩
  ·have hθ: ∀c,(E.N3 b o c s.h.next).θ s.h.next=(b,o):=fun c=>En.ext_θ_new E s.h.next (b,o) c;have hκ: ∀c,(E.N3 b o c s.h.next).κ s.h.next=c:=fun c=>En.ext_κ_new E s.h.next (b,o) c;rcases g7 with ⟨rfl,W⟩|⟨q1,rfl,us,q3,q4,q5⟩
   ·rw [W] at U;obtain⟨ky,kf,h3⟩:=cI (s:={ s with pc:=ga }) fS U;rw [iU,mE] at h3;simp only [V.den,W,beq_self_eq_true] at h3;refine⟨_,_,ky,E.N3 b o (cap*(rowOf t).es) s.h.next,kf,tL r g3 hx (.cells [] ty) rfl ?_,?_,h3⟩
    ·simp only [OR];rw [hθ,hκ];refine⟨arr,lo,hi,[],g4,by simp only [cC],fun i u hu=>by simp at hu,ans _,?_,g6,ae⟩;rcases g5 with ⟨_,g5⟩|⟨g5,_,g8⟩
     ·exact g5
     ·rw [g5,am3]; exact g8
    ·simp only [VR];refine⟨.inl rfl,a,cap,rfl,ans _,?_⟩;simp only [eY];rw [hθ,hκ];rcases g5 with ⟨g5,_⟩|⟨g5,_,_⟩
     ·exact .inl ⟨g5,aL _⟩
     ·exact .inr ⟨g5,trivial,by rw [g5,am3]⟩
   ·have ml:0<(dec (x.den ρ)).l.length:=by
     have:=q1.2.2;exact ani.2 this
    have gb:(((dec (x.den ρ)).l.length:Int) == 0)=false:=by rw [beq_eq_false_iff_ne]; omega
    rw [gb] at U
    have g5:a=⟨b,o,none⟩/\o+cap*(rowOf t).es=arr.size:=by
     rcases g5 with g5|⟨_,g5,_⟩
     ·exact g5
     ·omega
    have tC:tN (rowOf t) []:=fun p hp=>by simp at hp
    have hlen:(bH E.ρ (rowOf t) [] (dec (x.den ρ)).l 0).length<=cap*(rowOf t).es:=by rw [cE tC];exact anp _ g2
    have kp:=Bu r b o (cap*(rowOf t).es);refine⟨_,_,ga,E.N3 b o (cap*(rowOf t).es) s.h.next,fS,tL r g3 hx (.vec x t ty []) rfl ?_,?_,U⟩
    ·simp only [OR];rw [hθ,hκ];show (tN (rowOf t) []/\tx (rowOf t) (dec (x.den E.ρ)))/\∃arr lo hi us,w.heap[b]?=some (.cells arr ty (lo,hi))/\cC _ w.heap (bH E.ρ (rowOf t) [] (dec (x.den E.ρ)).l 0) us/\_;rw [hρ];rw [hρ] at q3 hlen;exact⟨⟨tC,q1⟩,arr,lo,hi,us,g4,cC.cx kp _ _ q3,q4,(by show (bH E.ρ (rowOf t) [] (dec (x.den E.ρ)).l 0).length<=_; rw [hρ]; exact hlen),g5.2,g6,q5⟩
    ·simp only [VR];refine⟨.inl rfl,(dec (x.den ρ)).l.length,a,cap,?_,rfl,g2,?_⟩
     ·show (dS x).den E.ρ=_;rw [cD,hρ]
     ·simp only [eY];rw [hθ,hκ];exact .inl ⟨g5.1,aL _⟩
theorem ML [bK] {α:Type} {ρ:Nat->Int} {fw:List Nat} {x:V} {y:α} {w:World} {B:Nat} {key:D}: ∀{cs:List FC} {j:Nat} {s:St} {k:List AV->St->T α} {E:En} {us:List Value},E.ρ=ρ->bR E s.h w->bY ρ s.pc->(∀id o,s.h.get id=some o->nf o=true\/(E.θ id).1≠B)->
 us.length=cs.length->(∀i c u,cs[i]?=some c->us[i]?=some u->pO E w.heap B key (j+i+1) (fw.getD (j+i+2) 0) c ((dec (x.den ρ)).W (j+i)) u)->(SL fw x cs j s k).leaf ρ=some y->
 ∃vs h' ef E',bY ρ ef/\pd B key (fun i=>j<i) w E s.h E' h'/\cC E' w.heap vs us/\(k vs { s with h:=h',pc:=ef }).leaf ρ=some y
 |[],j,s,k,E,us,hρ,r,hp,hx,Y,ho,h=>by have:us= []:=am5 Y;subst this;exact⟨[],s.h,s.pc,E,hp,pd.refl r,by simp only [cC],h⟩
 |c::cs,j,s,k,E,[],hρ,r,hp,hx,Y,ho,h=>by simp at Y
 |c::cs,j,s,k,E,u::us,hρ,r,hp,hx,Y,ho,h=>by
  simp only [SL] at h;have h0:=ho 0 c u rfl rfl;rw [bx,<- qg] at h0;obtain⟨v,U,ga,E1,fS,f1,v1,g1⟩:=SM hρ r hp hx h0 h;have hρ1:E1.ρ=ρ:=f1.view.kp.ρ.trans hρ
  obtain⟨vs,Z,ky,E2,kf,f2,v2,g2⟩:=ML (s:={ s with h:=U,pc:=ga }) (us:=us) hρ1 f1.view.rel fS (f1.nf r hx) (by simpa using Y) (fun i c' u' hc hu=>by
   have:=ho (i+1) c' u' (by simpa using hc) (by simpa using hu);have e1:j+(i+1)=j+1+i:=J
   rw [e1] at this
   exact f1.own J this) g1
  refine⟨v::vs,Z,ky,E2,kf,f1.trans f2 (fun i hi=>by omega) (fun i hi=>by omega),?_,g2⟩;rw [bW];exact⟨u,us,rfl,VR.cx f2.view.kp _ _ v1,v2⟩
theorem aa9 [bK] {α:Type} {ρ:Nat->Int} {t:Nat} {fw:List Nat} {x:V} {y:α} {w:World} {B:Nat} {key:D} {s:St} {k:AV->St->T α} {E:En} {u:Value} (hρ:E.ρ=ρ) (r:bR E s.h w) (hp:bY ρ s.pc) (hx: ∀id o,s.h.get id=some o->nf o=true\/(E.θ id).1≠B)
 (ho:qT E w.heap B t fw key (dec (x.den ρ)) u) (h:(aba t fw x s k).leaf ρ=some y) :
 ∃v h' ef E',bY ρ ef/\pd B key (fun _=>True) w E s.h E' h'/\VR E' w.heap v u/\(k v { s with h:=h',pc:=ef }).leaf ρ=some y:=by
 unfold qT at ho;unfold aba at h;split at ho
 ·rename_i Ph;rw [Ph] at h;obtain⟨c,hc,ho⟩:=ho;rw [hc] at h;obtain⟨v,U,ga,E1,fS,f1,v1,g1⟩:=SM hρ r hp hx ho h;exact⟨v,U,ga,E1,fS,⟨f1.view,fun b x hb=>(f1.W b x hb).imp id fun⟨j,_,e⟩=> ⟨j,trivial,e⟩,f1.Fh,f1.new,f1.RN,f1.ro⟩,v1,g1⟩
 ·rename_i Ph;rw [Ph] at h;obtain⟨b,o,arr,lo,hi,rfl,Z,h3,h4,h5,h6⟩:=ho
  have BX: ∃us:List Value,us.length=(rF t).cs.length/\∀j u,us[j]?=some u->arr[o+j]?=some u:=by
   refine⟨(arr.toList.drop o).take (rF t).cs.length,?_,fun j u hu=>?_⟩
   ·rw [bk,bu,bo]; omega
   ·rw [anw] at hu;split at hu
    ·rw [ann,amZ] at hu;exact hu
    ·simp at hu
  obtain⟨us,Y,H5⟩:=BX
  have kH: ∀i c u,(rF t).cs[i]?=some c->us[i]?=some u->u.oneCell'=true/\pO E w.heap B key (i+1) (fw.getD (i+2) 0) c ((dec (x.den ρ)).W i) u:=by intro i c u hc hu;obtain⟨u',p1,p2,p3⟩:=h6 i c hc;rw [H5 i u hu] at p1;simp only [aq] at p1;subst p1;exact⟨p2,p3⟩
  obtain⟨vs,U,ga,E1,fS,f1,v1,g1⟩:=ML (j:=0) (us:=us) hρ r hp hx Y (fun i c u hc hu=>by
   rw [aL]
   exact (kH i c u hc hu).2) h
  have Sv:E1.W b=some (B,key,0):=by
   rcases f1.W b _ Z with q|⟨j,q1,q2⟩
   ·exact q
   ·simp only [au,true_and] at q2;omega
  have hθ:(E1.N3 b o (arr.size-o) U.next).θ U.next=(b,o):=En.ext_θ_new E1 U.next (b,o) (arr.size-o);have hκ:(E1.N3 b o (arr.size-o) U.next).κ U.next=arr.size-o:=En.ext_κ_new E1 U.next (b,o) (arr.size-o);have kp:=Bu f1.view.rel b o (arr.size-o);have hvl:=v1.length
  have f2:=tL (o:=o) (c:=arr.size-o) f1.view.rel Sv (f1.nf r hx) (.cells vs (fw.getD 0 0)) rfl (by
   simp only [OR];rw [hθ,hκ];refine⟨arr,lo,hi,us,h3,cC.cx kp _ _ v1,H5,J,J,h5,fun u hu=>?_⟩;obtain⟨i,hi'⟩:=aof hu;have dK:=(bj.1 hi').1;have alw:i<(rF t).cs.length:=J
   exact (kH i _ u (aW alw) hi').1)
  refine⟨_,_,ga,_,fS,f1.trans f2 (fun _ _=>trivial) (fun _ _=>trivial),?_,g1⟩;simp only [VR];rw [hθ];exact⟨by rw [bx],.inl rfl⟩
theorem eX.one {E:En} {h:Array Obj} {B t:Nat} {fw:List Nat} {ov:List (V×AV)} {n:Int} {d:D} (tC:mA E.ρ n ov=none): ∀{ds:List D} {es:List MapEntry},(ds.map ji).Nodup->df ds (.i n)=some d->eX E h B t fw ov ds es->
 ∃en:MapEntry,qT E h B t fw (.i n) d en.val/\∀e1∈es,e1.key= .int .i64 n->e1=en
 |[],_,_,hf,_=>by simp [df] at hf
 |a::ds,_,Aj,hf,⟨e0,rr,m,h0,q1,q2,q3,q4⟩=>by
  subst h0;have hk:ji a= .i m:=by rw [q1]; rfl
  simp only [aK,anl] at Aj;simp only [df] at hf;by_cases hm:m=n
  ·subst hm;rw [an hk] at hf;simp only [aq] at hf;rw [tC,hf] at q3;refine⟨e0,q3,fun e1 U Z=>?_⟩;rcases aH.1 U with rfl|U
   ·rfl
   ·obtain⟨i,hi⟩:=aof U;exact absurd (eX.set.eX.DF q4 hi Z) (by rw [<- hk]; exact Aj.1)
  ·rw [ak (by rw [hk]; simpa using hm)] at hf;obtain⟨en,p1,p2⟩:=eX.one tC Aj.2 hf q4;refine⟨en,p1,fun e1 U Z=>?_⟩;rcases aH.1 U with rfl|U
   ·rw [q2] at Z;simp only [Value.int.injEq,true_and] at Z;exact absurd Z hm
   ·exact p2 e1 U Z
theorem eX.Zv {E E3:En} {h:Array Obj} (kp:fY E h E3 h) {B t:Nat} {fw:List Nat} {ov:List (V×AV)} {n:Int} {x:V} {v:AV} (hx:x.den E.ρ=n) (tC:mA E.ρ n ov=none) (W: ∀b m j,m≠n->E.W b=some (B,.i m,j)->E3.W b=some (B,.i m,j)) :
 ∀{ds:List D} {es:List MapEntry},(∀e1∈es,e1.key= .int .i64 n->VR E3 h v e1.val)->eX E h B t fw ov ds es->eX E3 h B t fw ((x,v)::ov) ds es
 |[],_,_,ho=>ho
 |a::ds,_,hv,⟨e0,rr,m,h0,q1,q2,q3,q4⟩=>by
  subst h0;refine⟨e0,rr,m,rfl,q1,q2,?_,eX.Zv kp hx tC W (fun e1 U Z=>hv e1 (by simp [U]) Z) q4⟩;simp only [mA,kp.ρ,hx];by_cases hm:n=m
  ·rw [an hm];exact hv e0 ae (by rw [q2,hm])
  ·rw [ak hm];split at q3
   ·exact VR.cx kp _ _ q3
   ·exact q3.cx kp fun b j hb=> ⟨W b m j (fun e=>hm e.symm) hb,rfl⟩
theorem aa3 [bK] {α:Type} {ρ:Nat->Int} {id:Nat} {x:V} {y:α} {w:World} {s:St} {k:St->T α} {E:En} (hρ:E.ρ=ρ) (r:bR E s.h w) (hp:bY ρ s.pc) (h:(aa4 id x s k).leaf ρ=some y) :
 ∃h' ef E',bY ρ ef/\View E s.h w E' h'/\(k { s with h:=h',pc:=ef }).leaf ρ=some y:=by
 unfold aa4 at h;split at h
 ·rename_i o Y;split at h
  ·rename_i e t fw ov;obtain⟨ga,fS,U⟩:=yT hp h
   cases tC:mA ρ (x.den ρ) ov with
   |some v=>rw [tC] at U; exact⟨s.h,ga,E,fS,View.refl r,U⟩
   |none=>
    rw [tC] at U;obtain⟨ky,kf,Z⟩:=cI (s:={ s with pc:=ga }) fS U;rw [xo] at Z;simp only [V.den,fX.den,sM] at Z;obtain⟨g0,bS,c',g1,g2⟩:=AB r Y;rw [hρ] at g0 g2;have hm: ∀n,mA E.ρ n ov=mA ρ n ov:=fun n=>by rw [hρ]
    cases hf:df (dec (e.den ρ)).l (.i (x.den ρ)) with
    |none=> rw [hf] at Z;exact⟨s.h,ky,E,kf,View.refl r,Z⟩
    |some d=>
     rw [hf] at Z;simp only [aO,if_true] at Z;have Z:(aba t fw (.op .GM e (nV x)) { s with pc:=ky,h:=s.h.drop id } fun v s=>k { s with h:=s.h.put id (.uC e t fw ((x,v)::ov)) }).leaf ρ=some y:=Z
     have hdx:dec ((V.op .GM e (nV x)).den ρ)=d:=by simp only [V.den,fX.den,bD,sM,hf,ay]
     obtain⟨en,ale,huq⟩:=eX.one (by rw [hρ]; exact tC) g0.1 hf g2;obtain⟨dst,drl⟩:=xx r id;have U1:=(r.live id _ Y).1
     have H8:id<s.h.next:=by
      rcases bg id s.h.next with q|q
      ·exact q
      ·exact absurd U1 (r.fresh id q)
     have Zf: ∀j o,(s.h.drop id).get j=some o->s.h.get j=some o/\j≠id:=by
      intro j o hj;rw [Hp.lh] at hj;split at hj
      ·simp at hj
      ·rename_i e; exact⟨hj,e⟩
     have hx0: ∀j o,(s.h.drop id).get j=some o->nf o=true\/(E.θ j).1≠(E.θ id).1:=by intro j o hj;obtain⟨q1,q2⟩:=Zf j o hj;exact .inr fun e=>q2 (r.inj j id _ _ q1 Y e)
     obtain⟨v,h3,VT,E3,JQ,f3,v3,g3⟩:=aa9 (s:={ s with pc:=ky,h:=s.h.drop id }) (B:=(E.θ id).1) (key:=.i (x.den ρ)) hρ drl kf hx0 (by rw [hdx]; exact ale) Z;have hθ:=f3.view.kp.θ id U1;have hρ3:E3.ρ=ρ:=f3.view.kp.ρ.trans hρ
     have hnn: ∀j o,h3.get j=some o->j≠id/\(E3.θ j).1≠(E3.θ id).1:=by
      intro j o hj;rcases f3.new j o hj with q|⟨_,q⟩
      ·obtain⟨q1,q2⟩:=Zf j o q;refine⟨q2,?_⟩;rw [hθ,f3.view.kp.θ j (r.live j o q1).1];exact fun e=>q2 (r.inj j id _ _ q1 Y e)
      ·have q:s.h.next<=j:=q;refine⟨J,fun e=>?_⟩;rw [hθ] at e;rcases f3.view.hold _ (.inl ⟨j,o,hj,rfl⟩) with ⟨i0,o0,q1,q2⟩|⟨y0,q1⟩
       ·obtain⟨q3,q4⟩:=Zf i0 o0 q1;exact q4 (r.inj i0 id _ _ q3 Y (q2.trans e))
       ·rw [e] at q1;exact (r.hid _ _ q1).2.2 id _ Y rfl
     have K!:bR E3 (h3.put id (.uC e t fw ((x,v)::ov))) w:=by
      refine LO f3.view.rel (f3.view.kp.dm id U1) ?_ hnn ?_ ?_
      ·rw [hθ];exact fun hr=>(r.live id _ Y).2.2 (f3.ro _ hr)
      ·rw [hθ];intro q hq;exact (r.hid _ _ (f3.Fh _ _ hq)).2.2 id _ Y rfl
      ·simp only [OR];rw [hρ3,hθ];refine⟨⟨g0.1,fun p hp=>?_,?_⟩,bS,c',g1,?_⟩
       ·rcases aH.1 hp with rfl|hp
        ·rcases Az (E:=E) (i:=0) (dt:=.int .i64) ⟨_,rfl⟩ (x.den ρ) g2 with ⟨q1,_⟩|⟨_,_,_,_,q2,_⟩
         ·rw [hf] at q1; simp at q1
         ·exact q2
        ·exact g0.2.1 p hp
       ·simp only [aK,anl];exact⟨Jt tC,g0.2.2⟩
       ·exact eX.Zv f3.view.kp (x:=x) (by rw [hρ]) (by rw [hρ]; exact tC) (fun b m j hm hb=>by
         rcases f3.W b _ hb with q|⟨j',_,q⟩
         ·exact q
         ·simp only [au,D.i.injEq,true_and] at q
          exact absurd q.1 hm) (fun e1 U Z=>by rw [huq e1 U Z]; exact v3) g2
     refine⟨_,VT,E3,JQ,⟨K!,f3.view.kp,fun b hb=> .inl (f3.ro b hb),fun b hb=>by
      rcases hb with ⟨j,o,q1,q2⟩|q
      ·rw [Hp.bU] at q1;split at q1
       ·rename_i e;rw [e,hθ] at q2;exact .inl ⟨id,_,Y,q2⟩
       ·rcases f3.view.hold b (.inl ⟨j,o,q1,q2⟩) with ⟨i0,o0,p1,p2⟩|p
        ·exact .inl ⟨i0,o0,(Zf i0 o0 p1).1,p2⟩
        ·exact .inr p
      ·rcases f3.view.hold b (.inr q) with ⟨i0,o0,p1,p2⟩|p
       ·exact .inl ⟨i0,o0,(Zf i0 o0 p1).1,p2⟩
       ·exact .inr p⟩,g3⟩
  ·exact⟨s.h,s.pc,E,hp,View.refl r,h⟩
 ·exact⟨s.h,s.pc,E,hp,View.refl r,h⟩
end
end Go.As
end
section
namespace Go.As
noncomputable section
def UD {α:Type} (c:FC) (v:AV) (ty:Nat) (s:St) (k:V->St->T α):T α:=match c with
 | .ck c=>Px v s fun v s=>match nD c v with
   |some x=>k x s
   |none=> .fail
 | .mp t=>match v with
   | .map i=>match s.h.get i with
     |some o=>match o with
      | .kO e t'=>match Nat.beq t t' with
        |true=>k e { s with h:=s.h.drop i }
        |false=> .fail
      |_=> .fail
     |none=> .fail
   |_=> .fail
 | .own t=>match v with
   | .gN=>k (.eD (.i 1)) s
   | .yl z t'=>match Nat.beq t t' with
     |true=>k z s
     |false=> .fail
   | .slice i o n c=>match c with
     | .exact m=>match n with
       |0=>match m with
        |0=>k (.eD (.i 2)) s
        |_=> .fail
       |_=> .fail
     | .rest es=>match s.h.get i with
       |some ob=>match ob with
        | .cells cs WJ=>if es=(rowOf t).es/\WJ=ty/\o+n*es=cs.length then match n with
         |0=>k (.eD (.i 3)) { s with h:=s.h.drop i }
         |m+1=>match lr (rowOf t) (.eD (.i 0)) (m+1) (cs.drop o) with
          |some e=>k e { s with h:=s.h.drop i }
          |none=> .fail
         else .fail
        |_=> .fail
       |none=> .fail
   | .qc i n t'=>match Nat.beq t t' with
     |true=>match Cp s.h i t with
      |some (e,WJ)=>match Nat.beq WJ ty&&fv n (dS e) with
       |true=>k e { s with h:=s.h.drop i }
       |false=> .fail
      |none=> .fail
     |false=> .fail
   | .vm i lo n t'=>match Nat.beq t t' with
     |true=>match Cp s.h i t with
      |some (e,WJ)=>match Nat.beq WJ ty with
       |true=>yE e lo n s fun s=>kB s (rj n (.lit 0)) fun s b=>match b with
        |true=>k (.eD (.i 3)) { s with h:=s.h.drop i }
        |false=>k (EG e lo n) { s with h:=s.h.drop i }
       |false=> .fail
      |none=> .fail
     |false=> .fail
   |_=> .fail
def Hy {α:Type} (fw:List Nat):List FC->Nat->List AV->St->(V->St->T α)->T α
 |[],_,[],s,k=>k (.eD (.i 0)) s
 |c::cs,j,v::vs,s,k=>UD c v (fw.getD (j+2) 0) s fun a s=>Hy fw cs (j+1) vs s fun b s=>k (eL a b) s
 |_,_,_,_,_=> .fail
def afc {α:Type} (t:Nat) (fw:List Nat) (v:AV) (s:St) (k:V->St->T α):T α:=match (rF t).ptr with
 |false=>match (rF t).cs with
  |[c]=>UD c v (fw.getD 1 0) s k
  |_=> .fail
 |true=>match v with
  | .ptr i o=>match o with
    |0=>match s.h.get i with
     |some ob=>match ob with
      | .cells cs ty=>match Nat.beq ty (fw.getD 0 0) with
        |true=>Hy fw (rF t).cs 0 cs { s with h:=s.h.drop i } k
        |false=> .fail
      |_=> .fail
     |none=> .fail
    |_=> .fail
  |_=> .fail
def RD {α:Type} (t:Nat) (fw:List Nat):List (V×AV)->V->St->(V->St->T α)->T α
 |[],e,s,k=>k e s
 |(x,v)::l,e,s,k=>afc t fw v s fun d s=>RD t fw l (.op .zX e (eL (nV x) d)) s k
def aay {α:Type} (id:Nat) (s:St) (k:St->T α):T α:=match s.h.get id with
 |some o=>match o with
  | .uC e t fw ov=>RD t fw ov e { s with h:=s.h.drop id } fun e' s=>k { s with h:=s.h.put id (.uC e' t fw []) }
  |_=>k s
 |none=>k s
structure my [bK] (w:World) (E:En) (H:Hp) (E':En) (H':Hp):Prop where
 view:View E H w E' H'
 mono: ∀b x,E.W b=some x->E'.W b=some x
 sub: ∀id o,H'.get id=some o->H.get id=some o
 hold: ∀b,E'.ro b\/(∃x,E'.W b=some x)->E.ro b\/(∃x,E.W b=some x)\/∃id o,H.get id=some o/\(E.θ id).1=b
theorem my.refl [bK] {w:World} {E:En} {H:Hp} (r:bR E H w):my w E H E H:=⟨View.refl r,fun _ _ h=>h,fun _ _ h=>h,fun _ h=>h.imp id .inl⟩
theorem my.trans [bK] {w:World} {E E1 E2:En} {H H1 H2:Hp} (r:bR E H w) (a:my w E H E1 H1) (b:my w E1 H1 E2 H2):my w E H E2 H2:=by
 refine⟨a.view.trans b.view,fun q x h=>b.mono q x (a.mono q x h),fun id o h=>a.sub id o (b.sub id o h),fun q h=>?_⟩;rcases b.hold q h with h|h|⟨id,o,U,Z⟩
 ·exact a.hold q (.inl h)
 ·exact a.hold q (.inr h)
 ·have h3:=a.sub id o U;rw [a.view.kp.θ id (r.live id o h3).1] at Z;exact .inr (.inr ⟨id,o,h3,Z⟩)
theorem my.afg [bK] {w:World} {E E':En} {H H':Hp} (r:bR E H w) (f:Lj E w H E' H'):my w E H E' H':=by
 refine⟨View.aff r f.dY f.rel,fun b x h=>by rw [f.dY.W]; exact h,f.sub.get,fun b h=>?_⟩;rcases h with h|⟨x,h⟩
 ·rcases f.dY.sR b h with g|g|g
  ·exact .inl g
  ·exact .inr (.inr g)
  ·have:=f.rel.su b h;omega
 ·exact .inr (.inl ⟨x,by rw [<- f.dY.W]; exact h⟩)
theorem my.own [bK] {w:World} {E E':En} {H H':Hp} (a:my w E H E' H') {B:Nat} {key:D} {j ty:Nat} {c:FC} {d:D} {u:Value} (ho:pO E w.heap B key j ty c d u):pO E' w.heap B key j ty c d u:=
 ho.cx a.view.kp fun b hb=> ⟨a.mono b _ hb,rfl⟩
def En.U2 (E:En) (b:Nat) (x:Nat×D×Nat):En:={ E with W:=fun q=>if q=b then some x else E.W q }
theorem s7 [bK] {E:En} {H:Hp} {w:World} (r:bR E H w) {i:Nat} {o:dO} (Y:H.get i=some o) (x:Nat×D×Nat):my w E H (E.U2 (E.θ i).1 x) (H.drop i):=by
 have hg: ∀j o,(H.drop i).get j=some o->H.get j=some o/\j≠i:=by
  intro j o hj;rw [Hp.lh] at hj;split at hj
  ·simp at hj
  ·rename_i e; exact⟨hj,e⟩
 have kp:fY E w.heap (E.U2 (E.θ i).1 x) w.heap:=⟨rfl,fun _ h=>h,fun _ _=>rfl,fun _ _=>rfl,fun _ h=>h,fun _ _=>rfl⟩
 have mono: ∀b y,E.W b=some y->(E.U2 (E.θ i).1 x).W b=some y:=by
  intro b y hb;show (if b=(E.θ i).1 then some x else E.W b)=_;rw [ak]
  ·exact hb
  ·exact fun e=>(r.hid b y hb).2.2 i o Y e.symm
 have qo: ∀b y,(E.U2 (E.θ i).1 x).W b=some y->b=(E.θ i).1\/E.W b=some y:=by
  intro b y hb;have hb:(if b=(E.θ i).1 then some x else E.W b)=some y:=hb;split at hb
  ·rename_i e; exact .inl e
  ·exact .inr hb
 refine⟨⟨⟨r.fresh,r.res,fun j o2 Z=>?_,fun a b o1 o2 U Z he=>r.inj a b o1 o2 (hg _ _ U).1 (hg _ _ Z).1 he,r.su,r.kj,fun b y hb=>?_⟩,kp,fun _ h=> .inl h,fun b hb=>?_⟩,mono,fun j o2 Z=>(hg j o2 Z).1,fun b hb=>?_⟩
 ·obtain⟨g1,g2,g3⟩:=r.live j o2 (hg j o2 Z).1;exact⟨g1,g2.cx kp g1 rfl fun key b q hb=> ⟨mono b _ hb,rfl⟩,g3⟩
 ·rcases qo b y hb with rfl|hb
  ·refine⟨gC r Y,(r.live i o Y).2.2,fun j o2 Z e=>?_⟩;obtain⟨q1,q2⟩:=hg j o2 Z;exact q2 (r.inj j i o2 o q1 Y e)
  ·obtain⟨q1,q2,q3⟩:=r.hid b y hb;exact⟨q1,q2,fun j o2 Z=>q3 j o2 (hg j o2 Z).1⟩
 ·rcases hb with ⟨j,o2,Z,he⟩|⟨y,hb⟩
  ·exact .inl ⟨j,o2,(hg j o2 Z).1,he⟩
  ·rcases qo b y hb with rfl|hb
   ·exact .inl ⟨i,o,Y,rfl⟩
   ·exact .inr ⟨y,hb⟩
 ·rcases hb with hb|⟨y,hb⟩
  ·exact .inl hb
  ·rcases qo b y hb with rfl|hb
   ·exact .inr (.inr ⟨i,o,Y,rfl⟩)
   ·exact .inr (.inl ⟨y,hb⟩)
theorem ue (E:En) (b:Nat) (x:Nat×D×Nat):(E.U2 b x).W b=some x:=by show (if b=b then some x else E.W b)=_;rw [an rfl]
theorem Rh {E:En} {h:Array Obj} {i:Nat} {e:V} {t ty:Nat} (ho:OR E h i (.vec e t ty [])) {l k:Nat} (hk:l+k<=(dec (e.den E.ρ)).l.length) :
 ∃arr lo hi us,h[(E.θ i).1]?=some (.cells arr ty (lo,hi))/\(E.θ i).2+E.κ i=arr.size/\(∀q,lo<=q->q<hi->arr.size<=q)/\cC E h (bH E.ρ (rowOf t) [] (((dec (e.den E.ρ)).l.take (l+k)).drop l) 0) us/\
  (∀q u,us[q]?=some u->arr[(E.θ i).2+l*(rowOf t).es+q]?=some u)/\∀u∈us,u.oneCell'=true:=by
 simp only [OR] at ho;obtain⟨⟨tC,_⟩,arr,lo,hi,us,U,Z,h3,h4,h5,h6,h7⟩:=ho;generalize (dec (e.den E.ρ)).l=L at *
 have hL:L=L.take l++((L.take (l+k)).drop l++L.drop (l+k)):=by
  rw [List.drop_take,show l+k-l=k by omega]
  have e1:(L.drop l).take k++L.drop (l+k)=L.drop l:=by rw [<- aoK,anb]
  rw [e1,anb]
 have h2':=Z;rw [hL,iq,iq] at h2';obtain⟨a,bc,rfl,a1,a2⟩:=h2'.split;obtain⟨b,c,rfl,b1,b2⟩:=a2.split
 have V1:a.length=l*(rowOf t).es:=by rw [a1.length,cE tC,bk,aoF J]
 refine⟨arr,lo,hi,b,U,h5,h6,b1,fun q u hu=>?_,fun u hu=>h7 u (by simp [hu])⟩;have gv:=(bj.1 hu).1
 have:=h3 (l*(rowOf t).es+q) u (by
  rw [aoc J,aov J,V1,aoL]
  exact hu)
 rw [<- am0] at this;exact this
theorem FW {α:Type}: ∀{n:Nat} {l:List α},n<=l.length->As.eS n l=some (l.drop n)
 |0,_,_=>rfl
 |n+1,[],h=>by simp at h
 |n+1,_::l,h=>by simp only [As.eS,aou];exact FW (by simpa using h)
theorem RE [bK] {α:Type} {ρ:Nat->Int} {c:FC} {v:AV} {ty:Nat} {s:St} {k:V->St->T α} {y:α} {E:En} {w:World} {u:Value} (B:Nat) (key:D) (j:Nat) (hρ:E.ρ=ρ) (r:bR E s.h w) (hp:bY ρ s.pc) (hv:VR E w.heap v u) (h:(UD c v ty s k).leaf ρ=some y) :
 ∃x h' ef E',bY ρ ef/\my w E s.h E' h'/\pO E' w.heap B key j ty c (dec (x.den ρ)) u/\(k x { s with h:=h',pc:=ef }).leaf ρ=some y:=by
 cases c with
 |ck c=>
  simp only [UD] at h;obtain⟨v',U,ga,E1,fS,f,q,g⟩:=J5 hρ r hp h;split at g
  ·rename_i x hx;refine⟨x,U,ga,E1,fS,my.afg r f,?_,g⟩;have:=(lL (q u hv) hx).rd (n8 hx);rw [f.ρ,hρ] at this;exact this
  ·simp [T.leaf] at g
 |mp t=>
  simp only [UD] at h;split at h
  ·rename_i i;split at h
   ·rename_i o Y;split at h
    ·rename_i e t';split at h
     ·rename_i ht;have ht:=aA ht;subst ht;have ho:=(r.live i _ Y).2.1;simp only [OR] at ho;obtain⟨bS,c',g1,g2⟩:=ho;simp only [VR] at hv;obtain⟨rfl,_⟩:=hv;rw [hρ] at g2;exact⟨e,_,s.pc,_,hp,s7 r Y (B,key,j),⟨(E.θ i).1,bS,c',rfl,ue _ _ _,g1,g2⟩,h⟩
     ·simp [T.leaf] at h
    ·simp [T.leaf] at h
   ·simp [T.leaf] at h
  ·simp [T.leaf] at h
 |own t=>
  simp only [UD] at h;split at h
  ·simp only [VR] at hv;subst hv;refine⟨_,s.h,s.pc,E,hp,my.refl r,.inl ⟨⟨none,rfl⟩,?_⟩,h⟩;simp only [V.den,bD];exact .nil t
  ·rename_i z t';split at h
   ·rename_i ht;have ht:=aA ht;subst ht;simp only [VR] at hv;rw [hρ] at hv;exact⟨_,s.h,s.pc,E,hp,my.refl r,.inl hv,h⟩
   ·simp [T.leaf] at h
  ·rename_i i o n c;split at h
   ·rename_i m;split at h
    ·split at h
     ·simp only [VR,eY] at hv;obtain⟨_,a,cap,rfl,_,rfl,_⟩:=hv;refine⟨_,s.h,s.pc,E,hp,my.refl r,.inl ⟨⟨some a,rfl⟩,?_⟩,h⟩;simp only [V.den,bD];exact .xc t a 0
     ·simp [T.leaf] at h
    ·simp [T.leaf] at h
   ·rename_i es;split at h
    ·rename_i ob Y;split at h
     ·rename_i cs WJ;split at h
      ·rename_i hc;obtain⟨rfl,rfl,hlen⟩:=hc;have ho:=(r.live i _ Y).2.1;simp only [OR] at ho;obtain⟨arr,lo,hi,us,g1,g2,g3,g4,g5,g6,g7⟩:=ho;simp only [VR,eY] at hv;obtain⟨_,a,cap,rfl,q1,q2⟩:=hv
       have iS:(a=⟨(E.θ i).1,(E.θ i).2+o,none⟩/\(E.θ i).2+o+cap*(rowOf t).es=arr.size)\/(cap=0/\n=0/\(E.θ i).2+o=arr.size):=by
        rcases q2 with ⟨q2,q3⟩|⟨q2,q3,q4⟩
        ·exact .inl ⟨q2,J⟩
        ·exact .inr ⟨q2,q3,J⟩
       have hs:=s7 r Y (B,key,j);split at h
       ·refine⟨_,_,s.pc,_,hp,hs,.inr ⟨(E.θ i).1,(E.θ i).2+o,0,cap,a,arr,lo,hi,rfl,q1,ue _ _ _,g1,iS,g6,.inl ⟨rfl,?_⟩⟩,h⟩;simp only [V.den,bD]
       ·rename_i m;split at h
        ·rename_i e he;obtain⟨ds,d1,d2,d3,d4,d5⟩:=rJ (ρ:=ρ) _ he;have hz:(dec ((V.eD (.i 0)).den ρ))= .i 0:=by simp only [V.den,bD]
         rw [hz] at d2 d3;have d2:(dec (e.den ρ)).l=ds:=d2;have d3:=d3 rfl;refine⟨e,_,s.pc,_,hp,hs,.inr ⟨(E.θ i).1,(E.θ i).2+o,m+1,cap,a,arr,lo,hi,rfl,q1,ue _ _ _,g1,iS,g6,.inr ⟨⟨d3,by rw [d2]; exact d4,?_⟩,by rw [d2]; exact d1,us.drop o,?_,?_,?_⟩⟩,h⟩
         ·rw [d2];intro e0;rw [e0] at d1;simp at d1
         ·rw [d2];show cC _ w.heap (bH E.ρ (rowOf t) [] ds 0) (us.drop o);rw [hρ];have Ff:As.eS o cs=some (cs.drop o):=FW J;exact d5 _ _ _ _ (by exact hρ) (cC.cx hs.view.kp _ _ (g2.eS Ff).1)
         ·intro q u hu;rw [ann] at hu;have:=g3 _ u hu;rw [<- am0] at this;exact this
         ·exact fun u hu=>g7 u (amY hu)
        ·simp [T.leaf] at h
      ·simp [T.leaf] at h
     ·simp [T.leaf] at h
    ·simp [T.leaf] at h
  ·rename_i i n t';split at h
   ·rename_i ht;have ht:=aA ht;subst ht;split at h
    ·rename_i e WJ hva;split at h
     ·rename_i hc;simp only [aw] at hc;have Pd:=aA hc.1;have hn:=cR _ _ hc.2;subst Pd hn;have Y:=nT hva;have ho:=(r.live i _ Y).2.1;have hw:=(OR.py.1 ho).1.2;simp only [VR,eY] at hv;obtain⟨_,m,a,cap,q0,rfl,q1,q2⟩:=hv;rw [cD] at q0;have hm:(dec (e.den E.ρ)).l.length=m:=J
      have ml:0<m:=by rw [<- hm]; exact ani.2 hw.2.2
      obtain⟨arr,lo,hi,us,g1,g2,g3,g4,g5,g6⟩:=Rh ho (l:=0) (k:=m) J;have hs:=s7 r Y (B,key,j);rw [aL,anq,<- hm,anI] at g4
      have iS:a=⟨(E.θ i).1,(E.θ i).2,none⟩/\(E.θ i).2+cap*(rowOf t).es=arr.size:=by
       rcases q2 with ⟨q2,q3⟩|⟨_,q3,_⟩
       ·exact⟨by rw [q2,bx],J⟩
       ·omega
      rw [hρ] at hw hm;refine⟨e,_,s.pc,_,hp,hs,.inr ⟨(E.θ i).1,(E.θ i).2,m,cap,a,arr,lo,hi,rfl,q1,ue _ _ _,g1,.inl iS,g3,.inr ⟨hw,hm,us,?_,fun q u hu=>?_,g6⟩⟩,h⟩
      ·have:=cC.cx hs.view.kp _ _ g4;rw [hρ] at this;show cC _ w.heap (bH E.ρ (rowOf t) [] (dec (e.den ρ)).l 0) us;rw [hρ];exact this
      ·have:=g5 q u hu;rw [am3,bx] at this;exact this
     ·simp [T.leaf] at h
    ·simp [T.leaf] at h
   ·simp [T.leaf] at h
  ·rename_i i J' n t';split at h
   ·rename_i ht;have ht:=aA ht;subst ht;split at h
    ·rename_i e WJ hva;split at h
     ·rename_i hc;have Pd:=aA hc;subst Pd;have Y:=nT hva;have ho:=(r.live i _ Y).2.1;have hw:=(OR.py.1 ho).1.2;obtain⟨ga,fS,z1,z2,z3,U⟩:=w9 hp h;obtain⟨ky,kf,Z⟩:=cI (s:={ s with pc:=ga }) fS U;rw [iU] at Z;simp only [V.den] at Z;simp only [VR,eY] at hv;obtain⟨_,l,m,a,cap,q0,q00,rfl,q1,q2⟩:=hv;have q0':=q0;have akH:=q00;rw [hρ] at q0 q00;obtain⟨arr,lo,hi,us,g1,g2,g3,g4,g5,g6⟩:=Rh ho (l:=l) (k:=m) (by rw [hρ]; omega);have hs:=s7 r Y (B,key,j)
      have iS:(a=⟨(E.θ i).1,(E.θ i).2+l*(rowOf t).es,none⟩/\(E.θ i).2+l*(rowOf t).es+cap*(rowOf t).es=arr.size)\/(cap=0/\m=0/\(E.θ i).2+l*(rowOf t).es=arr.size):=by
       rcases q2 with ⟨q2,q3⟩|⟨q2,q3,q4⟩
       ·exact .inl ⟨q2,J⟩
       ·exact .inr ⟨q2,q3,J⟩
      cases hm:m with
      |zero=>
       have:n.den ρ=0:=by rw [q00,hm]; rfl
       rw [this] at Z;subst hm;refine⟨_,_,ky,_,kf,hs,.inr ⟨(E.θ i).1,(E.θ i).2+l*(rowOf t).es,0,cap,a,arr,lo,hi,rfl,q1,ue _ _ _,g1,iS,g3,.inl ⟨rfl,?_⟩⟩,Z⟩;simp only [V.den,bD]
      |succ m'=>
       have:(n.den ρ == 0)=false:=by rw [beq_eq_false_iff_ne]; omega
       rw [this] at Z;rw [<- hm];have qn:=yD (e:=e) q0' akH;rw [hρ] at qn g4 hw;generalize hpt:((dec (e.den ρ)).l.take (l+m)).drop l=pt at qn g4
       have afG:pt.length=m:=by rw [<- hpt,bu,bk,aoF J];omega
       have gb:pt≠[]:=by intro e0;rw [e0] at afG;simp at afG;omega
       rw [wG gb] at qn;refine⟨_,_,ky,_,kf,hs,.inr ⟨(E.θ i).1,(E.θ i).2+l*(rowOf t).es,m,cap,a,arr,lo,hi,rfl,q1,ue _ _ _,g1,iS,g3,.inr ⟨?_,?_,us,?_,g5,g6⟩⟩,Z⟩
       ·rw [qn];refine⟨by rw [bE],fun d W=>?_,by rw [bE]; exact gb⟩;rw [bE,<- hpt] at W;exact hw.2.1 d (am1 (amY W))
       ·rw [qn,bE]; exact afG
       ·rw [qn,bE];have:=cC.cx hs.view.kp _ _ g4;show cC _ w.heap (bH E.ρ (rowOf t) [] pt 0) us;rw [hρ];exact this
     ·simp [T.leaf] at h
    ·simp [T.leaf] at h
   ·simp [T.leaf] at h
  ·simp [T.leaf] at h
theorem LU [bK] {α:Type} {ρ:Nat->Int} {fw:List Nat} {y:α} {w:World} (B:Nat) (key:D): ∀{cs:List FC} {j:Nat} {vs:List AV} {s:St} {k:V->St->T α} {E:En} {us:List Value},E.ρ=ρ->bR E s.h w->bY ρ s.pc->cC E w.heap vs us->(Hy fw cs j vs s k).leaf ρ=some y->
 ∃x h' ef E',bY ρ ef/\my w E s.h E' h'/\us.length=cs.length/\(∀i c u,cs[i]?=some c->us[i]?=some u->pO E' w.heap B key (j+i+1) (fw.getD (j+i+2) 0) c ((dec (x.den ρ)).W i) u)/\(k x { s with h:=h',pc:=ef }).leaf ρ=some y
 |[],j,[],s,k,E,us,hρ,r,hp,hv,h=>by rw [iG] at hv;subst hv;exact⟨_,s.h,s.pc,E,hp,my.refl r,rfl,fun i c u hc=>by simp at hc,h⟩
 |[],j,_::_,s,k,E,us,hρ,r,hp,hv,h=>by simp [Hy,T.leaf] at h
 |_::_,j,[],s,k,E,us,hρ,r,hp,hv,h=>by simp [Hy,T.leaf] at h
 |c::cs,j,v::vs,s,k,E,us,hρ,r,hp,hv,h=>by
  simp only [Hy] at h;rw [bW] at hv;obtain⟨u,us,rfl,hv,Lb⟩:=hv;obtain⟨a,U,ga,E1,fS,f1,o1,g1⟩:=RE B key (j+1) hρ r hp hv h;obtain⟨b,Z,ky,E2,kf,f2,Y,o2,g2⟩:=LU (s:={ s with h:=U,pc:=ga }) B key (f1.view.kp.ρ.trans hρ) f1.view.rel fS (cC.cx f1.view.kp _ _ Lb) g1;refine⟨_,Z,ky,E2,kf,f1.trans r f2,by simp [Y],fun i c' u' hc hu=>?_,g2⟩;have hd0:dec ((eL a b).den ρ)= .p (dec (a.den ρ)) (dec (b.den ρ)):=by simp only [eL,V.den,fX.den,bD]
  cases i with
  |zero=> simp only [aM,aq] at hc hu;subst hc hu;rw [hd0];exact f2.own o1
  |succ i=>
   have:=o2 i c' u' (by simpa using hc) (by simpa using hu);have e1:j+(i+1)=j+1+i:=J
   rw [hd0,e1];exact this
theorem aaw [bK] {α:Type} {ρ:Nat->Int} {t:Nat} {fw:List Nat} {v:AV} {y:α} {w:World} (B:Nat) (key:D) {s:St} {k:V->St->T α} {E:En} {u:Value} (hρ:E.ρ=ρ) (r:bR E s.h w) (hp:bY ρ s.pc) (hv:VR E w.heap v u) (h:(afc t fw v s k).leaf ρ=some y) :
 ∃x h' ef E',bY ρ ef/\my w E s.h E' h'/\qT E' w.heap B t fw key (dec (x.den ρ)) u/\(k x { s with h:=h',pc:=ef }).leaf ρ=some y:=by
 unfold afc at h;unfold qT;split at h
 ·rename_i Ph;rw [Ph];split at h
  ·rename_i c hc;obtain⟨x,U,ga,E1,fS,f1,o1,g1⟩:=RE B key 1 hρ r hp hv h;exact⟨x,U,ga,E1,fS,f1,⟨c,hc,o1⟩,g1⟩
  ·simp [T.leaf] at h
 ·rename_i Ph;rw [Ph];split at h
  ·rename_i i o;split at h
   ·split at h
    ·rename_i ob Y;split at h
     ·rename_i cs ty;split at h
      ·rename_i Pd;have Pd:=aA Pd;subst Pd;have ho:=(r.live i _ Y).2.1;simp only [OR] at ho;obtain⟨arr,lo,hi,us,g1,g2,g3,g4,g5,g6,g7⟩:=ho;simp only [VR] at hv;obtain⟨rfl,_⟩:=hv;have hs:=s7 r Y (B,key,0);obtain⟨x,U,ga,E1,fS,f1,Al,o1,q1⟩:=LU (s:={ s with h:=s.h.drop i }) (E:=E.U2 (E.θ i).1 (B,key,0)) B key hρ hs.view.rel hp (cC.cx hs.view.kp _ _ g2) h;have hvl:=g2.length;refine⟨x,U,ga,E1,fS,hs.trans r f1,⟨(E.θ i).1,(E.θ i).2,arr,lo,hi,by rw [bx],f1.mono _ _ (ue _ _ _),g1,J,g6,fun q c hc=>?_⟩,q1⟩;have hql:=(bj.1 hc).1;have hqu:q<us.length:=J
       have hu:=aW hqu;refine⟨us[q],g3 q _ hu,g7 _ (aF hqu),?_⟩;have:=o1 q c _ hc hu;rw [aL] at this;exact this
      ·simp [T.leaf] at h
     ·simp [T.leaf] at h
    ·simp [T.leaf] at h
   ·simp [T.leaf] at h
  ·simp [T.leaf] at h
theorem HR {n:Int} {d:D}: ∀{ds:List D},D.i n∈ds.map ji->(jP ds (.i n) d).map ji=ds.map ji
 |[],h=>by simp at h
 |a::ds,h=>by
  simp only [jP];by_cases hk:ji a= .i n
  ·rw [an hk];simp [ji,hk];exact hk.symm
  ·rw [ak hk];simp only [aK,aH] at h;rcases h with h|h
   ·exact absurd h.symm hk
   ·simp only [aK,HR h]
theorem eX.pck {E E':En} {h:Array Obj} (kp:fY E h E' h) (mono: ∀b x,E.W b=some x->E'.W b=some x) {B t:Nat} {fw:List Nat} {l:List (V×AV)} {x:V} {v:AV} {n:Int} {d:D} (hx:x.den E.ρ=n) (Y:mA E.ρ n l=none) :
 ∀{ds:List D} {es:List MapEntry},(ds.map ji).Nodup->(∀e1∈es,e1.key= .int .i64 n->qT E' h B t fw (.i n) d e1.val)->eX E h B t fw ((x,v)::l) ds es->eX E' h B t fw l (if D.i n∈ds.map ji then jP ds (.i n) d else ds) es
 |[],es,_,_,ho=>by simp only [aoC,am6,if_false]; exact ho
 |a::ds,_,Aj,hv,⟨e0,rr,m,h0,q1,q2,q3,q4⟩=>by
  subst h0;have hk:ji a= .i m:=by rw [q1]; rfl
  simp only [aK,anl] at Aj;have ih:=eX.pck kp mono hx Y Aj.2 (fun e1 U Z=>hv e1 (by simp [U]) Z) q4;by_cases hm:m=n
  ·subst hm;rw [hk] at Aj;rw [ak Aj.1] at ih;simp only [aK,aH,hk,true_or,if_true,jP];refine⟨e0,rr,m,rfl,rfl,q2,?_,ih⟩;rw [kp.ρ,Y];exact hv e0 ae q2
  ·have gb: ¬D.i n=D.i m:=by simpa using fun e=>hm e.symm
   have alk: ¬ji a= .i n:=by rw [hk]; simpa using hm
   have hq:(match mA E'.ρ m l with |some v=>VR E' h v e0.val|none=>qT E' h B t fw (.i m) (GS a) e0.val):=by
    simp only [mA,hx] at q3;rw [ak (fun e=>hm e.symm)] at q3;rw [kp.ρ]
    cases ho:mA E.ρ m l with
    |some v=>rw [ho] at q3; exact VR.cx kp _ _ q3
    |none=>rw [ho] at q3; exact q3.cx kp fun b j hb=> ⟨mono b _ hb,rfl⟩
   simp only [aK,aH,hk,gb,false_or];by_cases BU:D.i n∈ds.map ji
   ·rw [an BU] at ih ⊢;simp only [jP,ak alk];exact⟨e0,rr,m,rfl,q1,q2,hq,ih⟩
   ·rw [ak BU] at ih ⊢;exact⟨e0,rr,m,rfl,q1,q2,hq,ih⟩
theorem eX.told {E:En} {h:Array Obj} {B t:Nat} {fw:List Nat} {ov:List (V×AV)} {n:Int} {v:AV} (tC:mA E.ρ n ov=some v): ∀{ds:List D} {es:List MapEntry},eX E h B t fw ov ds es->∀e1∈es,e1.key= .int .i64 n->VR E h v e1.val
 |[],es,he,e1,U,_=>by simp only [eX] at he; subst he; simp at U
 |a::ds,_,⟨e0,rr,m,h0,q1,q2,q3,q4⟩,e1,U,Z=>by
  subst h0;rcases aH.1 U with rfl|U
  ·rw [q2] at Z;simp only [Value.int.injEq,true_and] at Z;subst Z;rw [tC] at q3;exact q3
  ·exact eX.told tC q4 e1 U Z
theorem eX.first {E:En} {h:Array Obj} {B t:Nat} {fw:List Nat} {ov:List (V×AV)} {n:Int}: ∀{ds:List D} {es:List MapEntry},(ds.map ji).Nodup->D.i n∈ds.map ji->eX E h B t fw ov ds es->∃en∈es,en.key= .int .i64 n/\∀e1∈es,e1.key= .int .i64 n->e1=en
 |[],_,_,hf,_=>by simp at hf
 |a::ds,_,Aj,hf,⟨e0,rr,m,h0,q1,q2,q3,q4⟩=>by
  subst h0;have hk:ji a= .i m:=by rw [q1]; rfl
  simp only [aK,anl] at Aj;simp only [aK,aH,hk] at hf;by_cases hm:m=n
  ·subst hm;refine⟨e0,ae,q2,fun e1 U Z=>?_⟩;rcases aH.1 U with rfl|U
   ·rfl
   ·obtain⟨i,hi⟩:=aof U;exact absurd (eX.set.eX.DF q4 hi Z) (by rw [<- hk]; exact Aj.1)
  ·rcases hf with hf|hf
   ·exact absurd (by simpa using hf:n=m).symm hm
   ·obtain⟨en,p1,p2,p3⟩:=eX.first Aj.2 hf q4;refine⟨en,by simp [p1],p2,fun e1 U Z=>?_⟩;rcases aH.1 U with rfl|U
    ·rw [q2] at Z;simp only [Value.int.injEq,true_and] at Z;exact absurd Z hm
    ·exact p3 e1 U Z
theorem LS [bK] {α:Type} {ρ:Nat->Int} {t:Nat} {fw:List Nat} {y:α} {w:World} {B:Nat} {bS:List MapEntry}: ∀{ov:List (V×AV)} {e:V} {s:St} {k:V->St->T α} {E:En},E.ρ=ρ->bR E s.h w->bY ρ s.pc->Bc ρ (dec (e.den ρ)).l ov->eX E w.heap B t fw ov (dec (e.den ρ)).l bS->(RD t fw ov e s k).leaf ρ=some y->
 ∃e' h' ef E',bY ρ ef/\my w E s.h E' h'/\Bc ρ (dec (e'.den ρ)).l []/\eX E' w.heap B t fw [] (dec (e'.den ρ)).l bS/\(k e' { s with h:=h',pc:=ef }).leaf ρ=some y
 |[],e,s,k,E,hρ,r,hp,fo,en,h=> ⟨e,s.h,s.pc,E,hp,my.refl r,fo,en,h⟩
 |(x,v)::l,e,s,k,E,hρ,r,hp,fo,en,h=>by
  simp only [RD] at h;have BU:=fo.2.1 (x,v) ae
  have uc:mA ρ (x.den ρ) l=none:=by
   cases ho:mA ρ (x.den ρ) l with
   |none=>rfl
   |some u=> have:=Ju ho;have h3:=fo.2.2;simp only [aK,anl] at h3;exact absurd this h3.1
  obtain⟨en0,p1,p2,p3⟩:=eX.first fo.1 BU en;have hv:=eX.told (E:=E) (n:=x.den ρ) (v:=v) (by simp only [mA]; rw [hρ,an rfl]) en en0 p1 p2;obtain⟨d,U,ga,E1,fS,f1,o1,g1⟩:=aaw B (.i (x.den ρ)) hρ r hp hv h
  have qn:dec ((V.op .zX e (eL (nV x) d)).den ρ)=dL (jP (dec (e.den ρ)).l (.i (x.den ρ)) (dec (d.den ρ))):=by simp only [eL,V.den,fX.den,bD,sM]
  have hk:=HR (d:=dec (d.den ρ)) BU;have en1:=eX.pck f1.view.kp f1.mono (n:=x.den ρ) (d:=dec (d.den ρ)) (by rw [hρ]) (by rw [hρ]; exact uc) fo.1 (fun e1 U Z=>by rw [p3 e1 U Z]; exact o1) en;rw [an BU] at en1
  obtain⟨e',Z,ky,E2,kf,f2,fo2,en2,g2⟩:=LS (s:={ s with h:=U,pc:=ga }) (f1.view.kp.ρ.trans hρ) f1.view.rel fS (e:=.op .zX e (eL (nV x) d)) (by
   rw [qn,bE];refine⟨by rw [hk]; exact fo.1,fun p hp=>by rw [hk]; exact fo.2.1 p (by simp [hp]),?_⟩;have h3:=fo.2.2;simp only [aK,anl] at h3
   exact h3.2) (by rw [qn,bE]; exact en1) g1
  exact⟨e',Z,ky,E2,kf,f1.trans r f2,fo2,en2,g2⟩
theorem aax [bK] {α:Type} {ρ:Nat->Int} {id:Nat} {y:α} {w:World} {s:St} {k:St->T α} {E:En} (hρ:E.ρ=ρ) (r:bR E s.h w) (hp:bY ρ s.pc) (h:(aay id s k).leaf ρ=some y) :
 ∃h' ef E',bY ρ ef/\View E s.h w E' h'/\(k { s with h:=h',pc:=ef }).leaf ρ=some y:=by
 unfold aay at h;split at h
 ·rename_i o Y;split at h
  ·rename_i e t fw ov;obtain⟨g0,bS,c',g1,g2⟩:=AB r Y;rw [hρ] at g0 g2;obtain⟨dst,drl⟩:=xx r id;obtain⟨e',U,ga,E1,fS,f1,fo1,en1,q1⟩:=LS (s:={ s with h:=s.h.drop id }) hρ drl hp g0 g2 h;have U1:=(r.live id _ Y).1;have hθ:=f1.view.kp.θ id U1;have hρ1:E1.ρ=ρ:=f1.view.kp.ρ.trans hρ
   have Zf: ∀j o,(s.h.drop id).get j=some o->s.h.get j=some o/\j≠id:=by
    intro j o hj;rw [Hp.lh] at hj;split at hj
    ·simp at hj
    ·rename_i e; exact⟨hj,e⟩
   have acX: ∀b,E1.ro b\/(∃x,E1.W b=some x)->b≠(E.θ id).1:=by
    intro b hb e;subst e;rcases f1.hold _ hb with h|⟨x,h⟩|⟨j,o,U,Z⟩
    ·exact (r.live id _ Y).2.2 h
    ·exact (r.hid _ _ h).2.2 id _ Y rfl
    ·obtain⟨q1,q2⟩:=Zf j o U;exact q2 (r.inj j id _ _ q1 Y Z)
   have hr:bR E1 (U.put id (.uC e' t fw [])) w:=by
    refine LO f1.view.rel (f1.view.kp.dm id U1) ?_ (fun j o hj=>?_) ?_ ?_
    ·rw [hθ]; exact fun h=>acX _ (.inl h) rfl
    ·obtain⟨q1,q2⟩:=Zf j o (f1.sub j o hj);refine⟨q2,?_⟩;rw [hθ,f1.view.kp.θ j (r.live j o q1).1];exact fun e=>q2 (r.inj j id _ _ q1 Y e)
    ·rw [hθ]; exact fun x h=>acX _ (.inr ⟨x,h⟩) rfl
    ·simp only [OR];rw [hρ1,hθ];exact⟨fo1,bS,c',g1,en1⟩
   refine⟨_,ga,E1,fS,⟨hr,f1.view.kp,fun b hb=>?_,fun b hb=>?_⟩,q1⟩
   ·rcases f1.view.sR b hb with h|⟨i0,o0,p1,p2⟩|p
    ·exact .inl h
    ·exact .inr (.inl ⟨i0,o0,(Zf i0 o0 p1).1,p2⟩)
    ·exact .inr (.inr p)
   ·rcases hb with ⟨j,o,q1,q2⟩|q
    ·rw [Hp.bU] at q1;split at q1
     ·rename_i e;rw [e,hθ] at q2;exact .inl ⟨id,_,Y,q2⟩
     ·rcases f1.view.hold b (.inl ⟨j,o,q1,q2⟩) with ⟨i0,o0,p1,p2⟩|p
      ·exact .inl ⟨i0,o0,(Zf i0 o0 p1).1,p2⟩
      ·exact .inr p
    ·rcases f1.view.hold b (.inr q) with ⟨i0,o0,p1,p2⟩|p
     ·exact .inl ⟨i0,o0,(Zf i0 o0 p1).1,p2⟩
     ·exact .inr p
  ·exact⟨s.h,s.pc,E,hp,View.refl r,h⟩
 ·exact⟨s.h,s.pc,E,hp,View.refl r,h⟩
end
end Go.As
end
section
namespace Go.As
noncomputable section
open Go.RowKit
section
variable {P:Program} {c:Code} {Q:Exit->Act->World->Prop} {a:Act} {w:World}
def Gu (P:Program) (c:Code) (Q:Exit->Act->World->Prop) (a:Act) (w:World):Prop:=
 ∀b k cs,∃e a' w',Q e a' w'/\Arrives P (lone (b.at a (.code c::.inLoop c::k)) cs w) b k cs e a' w'
theorem O3 (h:c.wp P (Exit.then (Gu P c Q) Q) a w):Gu P c Q a w:=by
 intro b k cs;obtain⟨e,a₁,w₁,hq,MD⟩:=h b (.inLoop c::k) cs
 cases e with
 |normal=> obtain⟨e₂,a₂,w₂,hq₂,harr₂⟩:=hq b k cs;exact⟨e₂,a₂,w₂,hq₂,.of_steps (Steps.trans MD (.one step_inLoop)) harr₂⟩
 |exit id=>exact⟨_,a₁,w₁,hq,.pass (x:=.inLoop c) rfl (fun _ _=> .inl ae) MD⟩
 |goto l=>exact⟨_,a₁,w₁,hq,.pass (x:=.inLoop c) rfl (fun _ _=> .inl ae) MD⟩
 |ret=>exact⟨_,a₁,w₁,hq,.pass (x:=.inLoop c) rfl (fun _ _=> .inl ae) MD⟩
 |panic ch=>exact⟨_,a₁,w₁,hq,.pass (x:=.inLoop c) rfl (fun _ _=> .inl ae) MD⟩
 |outgrown=>exact⟨_,a₁,w₁,hq,.pass (x:=.inLoop c) rfl (fun _ _=> .inl ae) MD⟩
theorem O4 (h:Gu P c Q a w):(Code.loop c).wp P Q a w:=by intro b k cs;obtain⟨e,a',w',hq,MD⟩:=h b k cs;exact⟨e,a',w',hq,.of_steps (.one step_loop) MD⟩
end
inductive FrE where
 |seq (p:List Nat) (c:Code)
 |block (id:Nat)
 |loop (p:List Nat) (b:Code)
 |scope
def pI (body:Code):List Nat->Option (Code×List FrE)
 |[]=>some (body,[])
 |d::p=>match pI body p with
  |some (.seq a b,fr)=>match d with
   |0=>some (a,.seq (1::p) b::fr)
   |_=>some (b,fr)
  |some (.block id b,fr)=>some (b,.block id::fr)
  |some (.cond _ a b,fr)=>match d with
   |0=>some (a,fr)
   |_=>some (b,fr)
  |some (.loop b,fr)=>some (b,.loop p b::fr)
  |some (.scope b,fr)=>some (b,.scope::fr)
  |_=>none
def Gv (body:Code):List FrE->Prop
 |[]=>True
 | .seq p c::fr=>pI body p=some (c,fr)/\Gv body fr
 | .block _::fr=>Gv body fr
 | .loop p b::fr=>pI body p=some (.loop b,fr)/\Gv body fr
 | .scope::fr=>Gv body fr
def KE (P:Program) (Q:Exit->Act->World->Prop):List FrE->Exit->Act->World->Prop
 |[]=>Q
 | .seq _ c::fr=>Exit.then (fun a w=>c.wp P (KE P Q fr) a w) (KE P Q fr)
 | .block id::fr=>Exit.inBlock id (KE P Q fr)
 | .loop _ b::fr=>Exit.then (Gu P b (KE P Q fr)) (KE P Q fr)
 | .scope::fr=>Exit.noGoto (KE P Q fr)
inductive RK where
 |one (c:CK)
 |agg (cs:List CK)
 deriving DecidableEq,Inhabited
def RK.flat:RK->List CK
 | .one c=>[c]
 | .agg cs=>cs
def pE:List RK->List CK
 |[]=>[]
 |r::rs=>r.flat++pE rs
def Tv (c:CK) (t:V):AV:=match c with
 | .int k=> .int k t
 | .bool=> .bool (.not (.eq t (.lit 0)))
 | .str=> .kE t
 | .sl ty=> .eD t ty
def Gc:List CK->(Nat->V)->Nat->List AV
 |[],_,_=>[]
 |c::cs,f,i=>Tv c (f i)::Gc cs f (i+1)
def qj:List RK->(Nat->V)->Nat->List AV
 |[],_,_=>[]
 | .one c::r,f,i=>Tv c (f i)::qj r f (i+1)
 | .agg cs::r,f,i=> .agg (Gc cs f i)::qj r f (i+cs.length)
def Yt (c:CK) (v:AV):Option V:=match c with
 | .int k=>match v with
   | .int k' e=>if k=k' then some e else none
   |_=>none
 | .bool=>none
 | .str=>uW v
 | .sl t=>nD (.sl t) v
def aa8:AV->Bool
 | .agg _=>false
 | .tuple _=>false
 |_=>true
def cellsOf:List RK->List AV->Option (List AV)
 |[],[]=>some []
 | .one _::rs,v::vs=>match aa8 v with
   |true=>match cellsOf rs vs with
    |some l=>some (v::l)
    |none=>none
   |false=>none
 | .agg cs::rs,v::vs=>match v with
   | .agg xs=>match Nat.beq xs.length cs.length with
     |true=>match cellsOf rs vs with
      |some l=>some (xs++l)
      |none=>none
     |false=>none
   |_=>none
 |_,_=>none
def outs {α:Type}:List CK->List AV->St->(List V->St->T α)->T α
 |[],[],s,k=>k [] s
 |c::cs,v::vs,s,k=>match c with
  | .bool=>match v with
    | .bool b=>kB s b fun s b=>outs cs vs s fun es s=>k (.lit (if b then 1 else 0)::es) s
    |_=> .fail
  |c=>match Yt c v with
   |some e=>outs cs vs s fun es s=>k (e::es) s
   |none=> .fail
 |_,_,_,_=> .fail
def gy:List V->V
 |[]=> .eD (.i 0)
 |e::es=>eL (nV e) (gy es)
def pA (r:V) (i:Nat):V:=.op .num (.op (.cell i) r (.lit 0)) (.lit 0)
inductive Lf where
 |out (es:List V)
 |jump (j:Nat) (es:List V)
 deriving Inhabited
inductive KX where
 |cell (t j:Nat)
 |row (t j:Nat) (k:KX) (q:Nat)
 |Zr (t:Nat)
 deriving Inhabited
def KX.ev (s:St):KX->Option V
 | .Zr _=>none
 | .cell t j=>match s.bG.get t with
   |some v=>match v with
    | .agg cs=>match fy cs j with
      |some w=>match w with
       | .int _ e=>some e
       |_=>none
      |none=>none
    | .int _ e=>some e
    | .ptr i o=>match s.h.get i with
      |some ob=>match ob with
       | .cells cs _=>match fy cs (o+j) with
         |some w=>match w with
          | .int _ e=>some e
          |_=>none
         |none=>none
       |_=>none
      |none=>none
    |_=>none
   |none=>none
 | .row t j k q=>match KX.ev s k with
   |none=>none
   |some x=>match s.bG.get t with
    |some v=>match v with
     | .agg cs=>match fy cs j with
       |some w=>match w with
        | .eD e _=>some (zA (jq q (.op .at e x)))
        |_=>none
       |none=>none
     | .eD e _=>some (zA (jq q (.op .at e x)))
     | .ptr i o=>match s.h.get i with
       |some ob=>match ob with
        | .cells cs _=>match fy cs (o+j) with
          |some w=>match w with
           | .eD e _=>some (zA (jq q (.op .at e x)))
           |_=>none
          |none=>none
        |_=>none
       |none=>none
     |_=>none
    |none=>none
structure FH where
 r:Nat
 gd:Option (KX×Int)
 k:KX
 deriving Inhabited
def Fw:Tr dO->List Nat
 | .nil=>[]
 | .node v l r=>(match v with
   |some o=>match nf o with
    |true=>[]
    |false=>[0]
   |none=>[])++((Fw l).map fun i=>2*i+1)++((Fw r).map fun i=>2*i+2)
def J9 {α:Type} (x:V):List Nat->St->(St->T α)->T α
 |[],s,k=>k s
 |i::l,s,k=>aa4 i x s fun s=>J9 x l s k
def OU {α:Type}:List Nat->St->(St->T α)->T α
 |[],s,k=>k s
 |i::l,s,k=>aay i s fun s=>OU l s k
def agd {α:Type} (t:Nat) (s:St) (k:St->T α):T α:=match s.bG.get t with
 |some v=>Pw v s fun v s=>k { s with bG:=s.bG.put t (some v) }
 |none=>k s
def GR {α:Type} (r:Nat):List FH->St->(St->T α)->T α
 |[],s,k=>k s
 |h::hs,s,k=>match Nat.beq h.r r with
  |false=>GR r hs s k
  |true=>match h.k.ev s with
   |none=>match h.k with
    | .Zr t=>agd t s fun s=>GR r hs s k
    |_=>GR r hs s k
   |some x=>match h.gd with
    |none=>J9 x (Fw s.h.m) s fun s=>GR r hs s k
    |some (g,n)=>match g.ev s with
     |none=>GR r hs s k
     |some y=>kB s (rO y (.lit n)) fun s b=>match b with
      |true=>J9 x (Fw s.h.m) s fun s=>GR r hs s k
      |false=>GR r hs s k
def aiy:Code->Option Nat
 | .region id _ _=>some id
 |_=>none
structure uU where
 tt:TT
 call:eu
 draw:Nat->List Oper->St->T St
 lf:Nat
 res:List ResultVar
 lZ:List RK
 ej:List dO:=[]
 ko:Nat:=0
 pP:List CS:=[]
 iK:Nat:=0
 fz:List (Nat×Nat×Nat):=[]
 Zv:List FH:=[]
def Iq (g:uU):Bool:=match g.Zv with
 |[]=>false
 |_::_=>match g.ej with
  |[]=>match g.pP with
   |[]=>true
   |_=>false
  |_=>false
def Va {α:Type} (g:uU) (c:Code) (s:St) (k:St->T α):T α:=match Iq g with
 |true=>match aiy c with
  |some r=>GR r g.Zv s k
  |none=>k s
 |false=>k s
def UC {α:Type} (g:uU) (s:St) (k:St->T α):T α:=match Iq g with
 |true=>OU (Fw s.h.m) s k
 |false=>k s
def uU.ev (g:uU) (c:Code) (s:St):T (Ex×St):=jK g.tt g.call g.draw g.lf c s
abbrev Dm:=List Nat->Option (List (Nat×CS))
def afz:Nat->Tr (Nat×Nat)
 |0=> .nil
 |n+1=>(afz n).put n (some (n,0))
def ig (g:uU) (h:Hp):Ren:=match BY h g.ej 0 ⟨.nil,afz g.ej.length⟩ with
 |⟨ns,_⟩=> ⟨yL ns g.ko 0,List.range g.ej.length,[]⟩
def CS.j3 (m:Nat) (c:CS) (s:St):Ren:=match BY s.h c.dB 0 (DL s.bG c.bG ⟨.nil,afz m⟩) with
 |⟨ns,bl⟩=> ⟨yL ns c.k 0,JF bl c.dB.length 0,JE bl c.dB.length 0⟩
def E7 (m:Nat) (r:Ren):Bool:=match m with
 |0=>true
 |n+1=>(match fy r.bl n with |some j=>Nat.beq j n|none=>false)&&Nat.beq (r.vp n) 0&&E7 n r
def CU:Nat->Nat->List V->List V
 |0,_,ns=>ns
 |_+1,_,[]=>[]
 |n+1,i,_::ns=> .dD i::CU n (i+1) ns
def r8 (iK:Nat) (r:Ren):Ren:=match iK with
 |0=>r
 |n+1=>{ r with ns:=CU (n+1) 0 r.ns }
def M7 (n m iK:Nat) (s:St):List CS->Nat->T Lf
 |[],_=> .fail
 |c::l,i=>match quick s.bG c.bG&&Nat.beq n c.bG.length with
  |false=>M7 n m iK s l (i+1)
  |true=>match c.fits I! s (r8 iK (c.j3 m s))&&E7 m (r8 iK (c.j3 m s)) with
   |true=> .ret (.out (.lit (Int.ofNat i)::(r8 iK (c.j3 m s)).ns))
   |false=>M7 n m iK s l (i+1)
def MH {α:Type}:List (Nat×Nat×Nat)->List AV->St->(List AV->St->T α)->T α
 |[],vs,s,k=>k vs s
 |(r,f,t)::l,vs,s,k=>match fy vs r with
  |some (.agg xs)=>match fy xs f with
   |some x=>Pw x s fun x s=>match nD (.sl t) x with
    |some e=>MH l (vs.set r (.agg (xs.set f (.eD e t)))) s k
    |none=> .fail
   |none=> .fail
  |_=> .fail
def ZL (g:uU) (e:Ex) (s:St):T Lf:=match e with
 | .exit _=> .fail
 |_=>match lI g.tt s g.res with
  |none=> .fail
  |some vs=>match g.pP with
   |[]=>match cellsOf g.lZ vs with
    |none=> .fail
    |some cells=>yj cells s fun cells s=>match BJ (ig g s.h) g.ej.length s.h g.ej 0 with
     |true=>outs (pE g.lZ) cells s fun es _=> .ret (.out ((ig g s.h).ns++es))
     |false=> .fail
   |c::l=>MH g.fz vs s fun vs s=>M7 vs.length g.ej.length g.iK ⟨cw vs 0 .nil,s.h,s.pc⟩ (c::l) 0
def rS (m iK:Nat) (s:St):List (Nat×CS)->T Lf
 |[]=> .fail
 |(j,c)::l=>match quick s.bG c.bG with
  |false=>rS m iK s l
  |true=>match c.fits I! s (r8 iK (c.j3 m s))&&E7 m (r8 iK (c.j3 m s)) with
   |true=> .ret (.jump j (r8 iK (c.j3 m s)).ns)
   |false=>rS m iK s l
def Ok {α:Type} (k:St->T α):List (Nat×Nat)->St->T α
 |[],s=>k s
 |(t,g)::l,s=>match s.bG.get t with
  |some (.int _ e)=>kB s (.eq e (.dD g)) fun s _=>Ok k l s
  |_=>Ok k l s
def wJ {α:Type} (k:St->T α):List Nat->St->T α
 |[],s=>k s
 |t::ts,s=>match s.bG.get t with
  |some (.bool c)=>kB s c fun s b=>wJ k ts { s with bG:=s.bG.put t (some (.bool (.lit b))) }
  |_=>wJ k ts s
def x_:List (Nat×AV)->List Nat->List Nat
 |[],acc=>acc
 |(t,.bool _)::l,acc=>x_ l (t::acc)
 |_::l,acc=>x_ l acc
def x!:List (Nat×CS)->List Nat->List Nat
 |[],acc=>acc
 |(_,c)::l,acc=>x! l (x_ c.bG acc)
mutual
def xO (g:uU) (fJ:Dm):Nat->List Nat->Code->List FrE->St->T Lf
 |0,_,_,_,_=> .fail
 |n+1,p,c,fr,s=>match fJ p with
  |some l=>UC g s fun s=>wJ (fun s=>rS g.ej.length g.iK s l) (x! l []) s
  |none=>match c with
   | .seq a b=>xO g fJ n (0::p) a (.seq (1::p) b::fr) s
   | .block id b=>xO g fJ n (0::p) b (.block id::fr) s
   | .scope b=>xO g fJ n (0::p) b (.scope::fr) s
   | .cond v a b=>match As.ev s v with
     |some (.bool c)=>kB s c fun s t=>match t with
      |true=>xO g fJ n (0::p) a fr s
      |false=>xO g fJ n (1::p) b fr s
     |_=> .fail
   |c=>Va g c s fun s=>(g.ev c s).bind fun (e,s')=>uo g fJ n fr e s'
def uo (g:uU) (fJ:Dm):Nat->List FrE->Ex->St->T Lf
 |0,_,_,_=> .fail
 |n+1,fr,e,s=>match fr with
  |[]=>ZL g e s
  | .seq p c::fr=>match e with
    | .normal=>xO g fJ n p c fr s
    |e=>uo g fJ n fr e s
  | .block id::fr=>match e with
    | .exit j=>match Nat.beq j id with
      |true=>uo g fJ n fr .normal s
      |false=>uo g fJ n fr (.exit j) s
    |e=>uo g fJ n fr e s
  | .loop p _::fr=>match e with
    | .normal=>match fJ p with
      |some l=>UC g s fun s=>wJ (fun s=>rS g.ej.length g.iK s l) (x! l []) s
      |none=> .fail
    |e=>uo g fJ n fr e s
  | .scope::fr=>uo g fJ n fr e s
end
abbrev oZ:=Nat->List Int->Option (List Int)
def mZ (xs:List Int):Int:=enc (dL (xs.map .i))
def Good (F:oZ) (ρ:Nat->Int):Prop:= ∀j xs,ρ (jN (2*j) (mZ xs))=(if (F j xs).isSome then 1 else 0)/\ρ (jN (2*j+1) (mZ xs))=mZ ((F j xs).getD [])
def low (xs:List Int) (i:Nat):Int:=xs.getD i 0
open Classical in
def cY (F:oZ) (lo:Nat->Int) (i:Nat):Int:=if i<900 then lo i else
 if h: ∃p:Nat×List Int,i=jN (2*p.1) (mZ p.2) then (if (F h.choose.1 h.choose.2).isSome then 1 else 0) else
 if h: ∃p:Nat×List Int,i=jN (2*p.1+1) (mZ p.2) then mZ ((F h.choose.1 h.choose.2).getD []) else 0
theorem Nx {a b:List Int} (h:mZ a=mZ b):a=b:=by
 unfold mZ at h;have:=yZ (ew h)
 have Mz: ∀{x y:List Int},x.map D.i=y.map D.i->x=y:=by
  intro x
  induction x with
  |nil=>intro y h; cases y with |nil=>rfl|cons z y=>simp at h
  |cons z x ih=>
   intro y h
   cases y with
   |nil=>simp at h
   |cons q y=>
    grind
 grind
theorem tv {f g:Nat} {a b:Int} (h:jN f a=jN g b):f=g/\a=b:=by
 unfold jN at h;obtain⟨U,Z⟩:=BL (a:=f) (b:=zN a) (a':=g) (b':=zN b) J
 grind [Wz]
theorem wM (f:Nat) (a:Int):1000<=jN f a:=by unfold jN; omega
theorem tm {F:oZ} {lo:Nat->Int} {i:Nat} (h:i<900):cY F lo i=lo i:=by unfold cY; rw [an h]
theorem lK (F:oZ) (lo:Nat->Int):Good F (cY F lo):=by
 intro j xs;have U:=wM (2*j) (mZ xs);have Z:=wM (2*j+1) (mZ xs);constructor
 ·unfold cY;rw [ak J];have h: ∃p:Nat×List Int,jN (2*j) (mZ xs)=jN (2*p.1) (mZ p.2):=⟨(j,xs),rfl⟩;rw [dif_pos h];obtain⟨q1,q2⟩:=tv h.choose_spec;have q2:=Nx q2
  grind
 ·unfold cY;rw [ak J]
  have hn: ¬∃p:Nat×List Int,jN (2*j+1) (mZ xs)=jN (2*p.1) (mZ p.2):=by rintro⟨p,hp⟩;have:=(tv hp).1;omega
  rw [dif_neg hn];have h: ∃p:Nat×List Int,jN (2*j+1) (mZ xs)=jN (2*p.1+1) (mZ p.2):=⟨(j,xs),rfl⟩;rw [dif_pos h];obtain⟨q1,q2⟩:=tv h.choose_spec;have q2:=Nx q2
  grind
theorem Good.ic {F:oZ} {ρ ρ':Nat->Int} (g:Good F ρ) (h: ∀i,900<=i->ρ' i=ρ i):Good F ρ':=by intro j xs;have U:=wM (2*j) (mZ xs);have Z:=wM (2*j+1) (mZ xs);rw [h _ J,h _ J];exact g j xs
def eW (tree:Nat->T Lf):Nat->oZ
 |0,_,_=>none
 |n+1,j,xs=>match (tree j).leaf (cY (eW tree n) (low xs)) with
  |none=>none
  |some (.out es)=>some (es.map (V.den (cY (eW tree n) (low xs))))
  |some (.jump j' es)=>eW tree n j' (es.map (V.den (cY (eW tree n) (low xs))))
def Hg:List CK->Bool
 |[]=>true
 |c::l=>match c with
  | .int _=>Hg l
  | .bool=>Hg l
  |_=>false
def Y2 (j:Nat) (Gm lZ:List RK):List AV->St->T (AV×St):=fun args s=>match cellsOf Gm args with
 |none=> .fail
 |some cells=>yj cells s fun cells s1=>outs (pE Gm) cells s1 fun es s2=>
  kB s2 (.eq (.ap (2*j) (gy es)) (.lit 1)) fun s3 b=>match b with
   |true=> .ret (match qj lZ (pA (.ap (2*j+1) (gy es))) 0 with |[v]=>v|vs=> .tuple vs,match Hg (pE lZ) with
    |true=>{ s3 with h:=s.h }
    |false=>s3)
   |false=> .fail
end
end Go.As
end
section
namespace Go.As
open Go.RowKit
def fN (K:Nat):V->Bool
 | .lit _=>true
 | .dD i=>Nat.blt i K
 | .add a b=>fN K a&&fN K b
 | .sub a b=>fN K a&&fN K b
 | .mul a b=>fN K a&&fN K b
 | .quo a b=>fN K a&&fN K b
 | .rem a b=>fN K a&&fN K b
 | .wrap _ a=>fN K a
 | .ya _ _=>false
 | .eD _=>true
 | .op _ a b=>fN K a&&fN K b
 | .ap _ _=>false
def vL (K:Nat):SB->Bool
 | .lit _=>true
 | .lt a b=>fN K a&&fN K b
 | .le a b=>fN K a&&fN K b
 | .eq a b=>fN K a&&fN K b
 | .not s=>vL K s
 | .and a b=>vL K a&&vL K b
mutual
def kN (K:Nat):AV->Bool
 | .bool b=>vL K b
 | .int _ e=>fN K e
 | .nX cs=>mM K cs
 | .ro cs _ _=>mM K cs
 | .func _ a b=>mM K a&&mM K b
 | .iface _ v=>kN K v
 | .agg cs=>mM K cs
 | .tuple cs=>mM K cs
 | .ya _ _=>false
 | .eD e _=>fN K e
 | .kE e=>fN K e
 | .qc _ n _=>fN K n
 | .AR _ _ i _=>fN K i
 | .vm _ l n _=>fN K l&&fN K n
 | .yl z _=>fN K z
 |_=>true
def mM (K:Nat):List AV->Bool
 |[]=>true
 |x::xs=>kN K x&&mM K xs
end
def DU (K:Nat):List (AV×AV×Nat)->Bool
 |[]=>true
 |(k,v,_)::l=>kN K k&&kN K v&&DU K l
def EJ (K:Nat):List (V×List AV)->Bool
 |[]=>true
 |(i,cs)::l=>fN K i&&mM K cs&&EJ K l
def ur (K:Nat):List (V×AV)->Bool
 |[]=>true
 |(x,v)::l=>fN K x&&kN K v&&ur K l
def xX (K:Nat):dO->Bool
 | .uC e _ _ ov=>fN K e&&ur K ov
 | .cells cs _=>mM K cs
 | .map es _=>DU K es
 | .kS _ _=>true
 | .vec e _ _ ov=>fN K e&&EJ K ov
 | .kO e _=>fN K e
def RG (K:Nat):List (SB×Bool)->Bool
 |[]=>true
 |(c,_)::l=>vL K c&&RG K l
def sK (K:Nat):List (Nat×AV)->Bool
 |[]=>true
 |(_,v)::l=>kN K v&&sK K l
def DB (K:Nat):List dO->Bool
 |[]=>true
 |o::l=>xX K o&&DB K l
def wH (K:Nat) (c:CS):Bool:=sK K c.bG&&DB K c.dB&&RG K c.pc
section
variable {K:Nat} {ρ ρ':Nat->Int} (hρ: ∀i,i<K->ρ' i=ρ i)
include hρ
theorem dg: ∀e:V,fN K e=true->e.den ρ'=e.den ρ
 | .lit _,_=>rfl
 | .dD i,h=>by simp only [fN] at h; exact hρ i (zd h)
 | .add a b,h=>by simp only [fN,aw] at h; simp only [V.den,dg a h.1,dg b h.2]
 | .sub a b,h=>by simp only [fN,aw] at h; simp only [V.den,dg a h.1,dg b h.2]
 | .mul a b,h=>by simp only [fN,aw] at h; simp only [V.den,dg a h.1,dg b h.2]
 | .quo a b,h=>by simp only [fN,aw] at h; simp only [V.den,dg a h.1,dg b h.2]
 | .rem a b,h=>by simp only [fN,aw] at h; simp only [V.den,dg a h.1,dg b h.2]
 | .wrap _ a,h=>by simp only [fN] at h; simp only [V.den,dg a h]
 | .ya _ _,h=>by simp [fN] at h
 | .eD _,_=>rfl
 | .op _ a b,h=>by simp only [fN,aw] at h; simp only [V.den,dg a h.1,dg b h.2]
 | .ap _ _,h=>by simp [fN] at h
theorem sO: ∀c:SB,vL K c=true->c.den ρ'=c.den ρ
 | .lit _,_=>rfl
 | .lt a b,h=>by simp only [vL,aw] at h; simp only [SB.den,dg hρ a h.1,dg hρ b h.2]
 | .le a b,h=>by simp only [vL,aw] at h; simp only [SB.den,dg hρ a h.1,dg hρ b h.2]
 | .eq a b,h=>by simp only [vL,aw] at h; simp only [SB.den,dg hρ a h.1,dg hρ b h.2]
 | .not s,h=>by simp only [vL] at h; simp only [SB.den,sO s h]
 | .and a b,h=>by simp only [vL,aw] at h; simp only [SB.den,sO a h.1,sO b h.2]
end
section
variable {K:Nat} {E E':En} (hρ: ∀i,i<K->E'.ρ i=E.ρ i) (hθ:E'.θ=E.θ) (hκ:E'.κ=E.κ) (u4:E'.dm=E.dm) (l7:E'.ro=E.ro) {h:Array Obj}
include hρ hθ hκ u4 l7
theorem eY.low {id off len:Nat} {a:Addr} {cap:Nat} {c:NZ} (hc:eY E id off len a cap c):eY E' id off len a cap c:=by simp_all [eY]
mutual
theorem VR.low: ∀(x:AV) (u:Value),kN K x=true->VR E h x u->VR E' h x u
 | .bool b,u,Y,hv=>by simp only [VR,kN] at *; rw [sO hρ b Y]; exact hv
 | .int _ e,u,Y,hv=>by simp only [VR,kN] at *; rw [dg hρ e Y]; exact hv
 | .str s,u,_,hv=>by simp only [VR] at *; exact hv
 | .ptr id off,u,_,hv=>by simp only [VR] at *; rw [hθ,u4]; exact hv
 | .vt,u,_,hv=>by simp only [VR] at *; exact hv
 | .nX cs,u,Y,hv=>by simp only [VR,kN] at *;obtain⟨b,o,us,U,Z,h3,h4,h5⟩:=hv;exact⟨b,o,us,U,by rw [l7]; exact Z,cC.low cs us Y h3,h4,h5⟩
 | .slice id off len c,u,_,hv=>by simp only [VR] at *;obtain⟨U,a,cap,Z,h3,h4⟩:=hv;exact⟨by rw [u4]; exact U,a,cap,Z,h3,eY.low hρ hθ hκ u4 l7 h4⟩
 | .gN,u,_,hv=>by simp only [VR] at *; exact hv
 | .ro cs n full,u,Y,hv=>by simp only [VR,kN] at *;obtain⟨b,o,cap,us,U,Z,h3,h4,h5,h6,h7⟩:=hv;exact⟨b,o,cap,us,U,Z,h3,by rw [l7]; exact h4,cC.low cs us Y h5,h6,h7⟩
 | .map id,u,_,hv=>by simp only [VR] at *; rw [hθ,u4]; exact hv
 | .tO,u,_,hv=>by simp only [VR] at *; exact hv
 | .func fn fs cs,u,Y,hv=>by simp only [VR,kN,aw] at *;obtain⟨us,ws,U,Z,h3⟩:=hv;exact⟨us,ws,U,cC.low fs us Y.1 Z,cC.low cs ws Y.2 h3⟩
 | .xK,u,_,hv=>by simp only [VR] at *; exact hv
 | .iface t x,u,Y,hv=>by simp only [VR,kN] at *;obtain⟨y,U,Z⟩:=hv;exact⟨y,U,VR.low x y Y Z⟩
 | .yH,u,_,hv=>by simp only [VR] at *; exact hv
 | .agg cs,u,Y,hv=>by simp only [VR,kN] at *;obtain⟨us,U,Z⟩:=hv;exact⟨us,U,cC.low cs us Y Z⟩
 | .tuple cs,u,Y,hv=>by simp only [VR,kN] at *;obtain⟨us,U,Z⟩:=hv;exact⟨us,U,cC.low cs us Y Z⟩
 | .L0 _,u,_,hv=>by simp only [VR] at hv
 | .ya _ _,u,Y,_=>by simp [kN] at Y
 | .emp,u,_,hv=>by simp only [VR] at *; exact hv
 | .eD e t,u,Y,hv=>by simp only [VR,kN] at *; rw [dg hρ e Y,l7]; exact hv
 | .kE e,u,Y,hv=>by simp only [VR,kN] at *; rw [dg hρ e Y,l7]; exact hv
 | .qc id n t,u,Y,hv=>by simp only [VR,kN] at *;obtain⟨U,k,a,cap,Z,h3,h4,h5⟩:=hv;exact⟨by rw [u4]; exact U,k,a,cap,by rw [dg hρ n Y]; exact Z,h3,h4,eY.low hρ hθ hκ u4 l7 h5⟩
 | .AR id es i off,u,Y,hv=>by simp only [VR,kN] at *;obtain⟨U,k,Z,h3⟩:=hv;exact⟨by rw [u4]; exact U,k,by rw [dg hρ i Y]; exact Z,by rw [hθ]; exact h3⟩
 | .any,u,_,_=>by simp only [VR]
 | .yl z t,u,Y,hv=>by simp only [VR,kN] at *; rw [dg hρ z Y,l7]; exact hv
 | .vm id lo n t,u,Y,hv=>by simp only [VR,kN,aw] at *;obtain⟨U,l,k,a,cap,Z,h3,h4,h5,h6⟩:=hv;exact⟨by rw [u4]; exact U,l,k,a,cap,by rw [dg hρ lo Y.1]; exact Z,by rw [dg hρ n Y.2]; exact h3,h4,h5,eY.low hρ hθ hκ u4 l7 h6⟩
theorem cC.low: ∀(xs:List AV) (us:List Value),mM K xs=true->cC E h xs us->cC E' h xs us
 |[],us,_,hv=>by simp only [cC] at *; exact hv
 |x::xs,us,Y,hv=>by simp only [cC,mM,aw] at *;obtain⟨u,vs,U,Z,h3⟩:=hv;exact⟨u,vs,U,VR.low x u Y.1 Z,cC.low xs vs Y.2 h3⟩
end
theorem e9.low: ∀{es:List (AV×AV×Nat)} {bS:List MapEntry},DU K es=true->e9 E h es bS->e9 E' h es bS
 |[],_,_,hv=>by simp only [e9] at *; exact hv
 |(k,v,b)::es,bS,Y,hv=>by simp only [e9,DU,aw] at *;obtain⟨e,r,U,Z,h3,h4,h5⟩:=hv;exact⟨e,r,U,VR.low hρ hθ hκ u4 l7 k _ Y.1.1 Z,VR.low hρ hθ hκ u4 l7 v _ Y.1.2 h3,h4,e9.low Y.2 h5⟩
theorem HE {i:Nat}: ∀{ov:List (V×List AV)},EJ K ov=true->ed E'.ρ i ov=ed E.ρ i ov
 |[],_=>rfl
 |(j,cs)::l,Y=>by simp only [EJ,aw] at Y;simp only [ed];rw [dg hρ j Y.1.1,HE Y.2]
theorem HG: ∀{ov:List (V×List AV)},EJ K ov=true->∀p∈ov,mM K p.2=true
 |[],_,p,hp=>by simp at hp
 |(j,cs)::l,Y,p,hp=>by
  simp only [EJ,aw] at Y;rcases aH.1 hp with rfl|hp
  ·grind
  ·exact HG Y.2 p hp
theorem uP {r:Row} {ov:List (V×List AV)} (Y:EJ K ov=true): ∀(ds:List D) (i:Nat) {us:List Value},cC E h (bH E.ρ r ov ds i) us->cC E' h (bH E'.ρ r ov ds i) us
 |[],_,us,hv=>by simp only [bH,cC] at *; exact hv
 |d::ds,i,us,hv=>by
  simp only [bH] at *;obtain⟨a,b,rfl,U,Z⟩:=hv.split;refine cC.append ?_ (uP Y ds (i+1) Z);rw [HE hρ hθ hκ u4 l7 Y]
  cases ho:ed E.ρ i ov with
  |none=> rw [ho] at U;rw [gG] at U ⊢;rw [l7];exact U
  |some cs=> rw [ho] at U;obtain⟨p,p1,p2,_⟩:=lD ho;exact cC.low hρ hθ hκ u4 l7 cs a (by rw [<- p2]; exact HG hρ hθ hκ u4 l7 Y p p1) U
theorem RL {n:Int}: ∀{ov:List (V×AV)},ur K ov=true->mA E'.ρ n ov=mA E.ρ n ov
 |[],_=>rfl
 |(j,v)::l,Y=>by simp only [ur,aw] at Y;simp only [mA];rw [dg hρ j Y.1.1,RL Y.2]
omit hρ hθ hκ u4 l7 in
theorem Fq {n:Int} {ρ:Nat->Int} {v:AV}: ∀{ov:List (V×AV)},ur K ov=true->mA ρ n ov=some v->kN K v=true
 |[],_,h=>by simp [mA] at h
 |(j,u)::l,Y,h=>by
  simp only [ur,aw] at Y;simp only [mA] at h;split at h
  ·simp only [aq] at h; subst h; exact Y.1.2
  ·exact Fq Y.2 h
theorem CT: ∀{ov:List (V×AV)},ur K ov=true->(ov.map fun p=>p.1.den E'.ρ)=ov.map fun p=>p.1.den E.ρ
 |[],_=>rfl
 |(j,v)::l,Y=>by simp only [ur,aw] at Y;simp only [aK];rw [dg hρ j Y.1.1,CT Y.2]
theorem pO.low (Zc:E'.W=E.W) {B:Nat} {key:D} {j ty:Nat} {c:FC} {d:D} {u:Value} (ho:pO E h B key j ty c d u):pO E' h B key j ty c d u:=by
 cases c with
 |ck c=>simp only [pO] at *; rw [l7]; exact ho
 |mp t=>simp only [pO] at *; rw [l7,Zc]; exact ho
 |own t=>
  rcases ho with ho|⟨b,o,n,cap,a,arr,lo,hi,U,Z,h3,h4,h5,h6,h7⟩
  ·exact .inl (by rw [l7]; exact ho)
  ·refine .inr ⟨b,o,n,cap,a,arr,lo,hi,U,Z,by rw [Zc]; exact h3,h4,h5,h6,?_⟩;rcases h7 with h7|⟨g1,g2,us,g3,g4⟩
   ·exact .inl h7
   ·exact .inr ⟨g1,g2,us,uP hρ hθ hκ u4 l7 (ov:=[]) rfl _ _ g3,g4⟩
theorem qT.low (Zc:E'.W=E.W) {B t:Nat} {fw:List Nat} {key d:D} {v:Value} (ho:qT E h B t fw key d v):qT E' h B t fw key d v:=by
 unfold qT at *;split at ho
 ·obtain⟨c,U,Z⟩:=ho;exact⟨c,U,pO.low hρ hθ hκ u4 l7 Zc Z⟩
 ·obtain⟨b,o,arr,lo,hi,U,Z,h3,h4,h5,h6⟩:=ho;refine⟨b,o,arr,lo,hi,U,by rw [Zc]; exact Z,h3,h4,h5,fun j c hc=>?_⟩;obtain⟨u,g1,g2,g3⟩:=h6 j c hc;exact⟨u,g1,g2,pO.low hρ hθ hκ u4 l7 Zc g3⟩
theorem eX.low (Zc:E'.W=E.W) {B t:Nat} {fw:List Nat} {ov:List (V×AV)} (Y:ur K ov=true): ∀{ds:List D} {es:List MapEntry},eX E h B t fw ov ds es->eX E' h B t fw ov ds es
 |[],_,ho=>ho
 |d::ds,_,⟨e,r,n,U,Z,h3,h4,h5⟩=>by
  refine⟨e,r,n,U,Z,h3,?_,eX.low Zc Y h5⟩;rw [RL hρ hθ hκ u4 l7 Y];split at h4
  ·rename_i v hv;exact VR.low hρ hθ hκ u4 l7 v _ (Fq Y hv) h4
  ·exact qT.low hρ hθ hκ u4 l7 Zc h4
theorem OR.low {id:Nat} {o:dO} (Y:xX K o=true) (ho:OR E h id o) (Zc:E'.W=E.W:=by rfl):OR E' h id o:=by
 cases o with
 |uC e t fw ov=> simp only [OR,xX,aw] at *;obtain⟨n0,bS,c,U,Z⟩:=ho;rw [hθ,dg hρ e Y.1];exact⟨n0.congr (CT hρ hθ hκ u4 l7 Y.2),bS,c,U,eX.low hρ hθ hκ u4 l7 Zc Y.2 Z⟩
 |cells cs e=> simp only [OR,xX] at *;obtain⟨arr,lo,hi,us,U,Z,h3,h4,h5,h6,h7⟩:=ho;rw [hθ,hκ];exact⟨arr,lo,hi,us,U,cC.low hρ hθ hκ u4 l7 cs us Y Z,h3,h4,h5,h6,h7⟩
 |map es c=>
  grind [OR,xX,e9.low]
 |kS s p=>simp only [OR] at *; rw [hθ]; exact ho
 |kO e t=>
  grind [OR,xX,dg]
 |vec e t ty ov=>
  grind [OR,xX,dg,uP,cE]
end
theorem LV {K:Nat} {ρ ρ':Nat->Int} (hρ: ∀i,i<K->ρ' i=ρ i): ∀{pc:List (SB×Bool)},RG K pc=true->bY ρ pc->bY ρ' pc
 |[],_,_=>by intro c b h; simp at h
 |(c0,b0)::l,Y,hp=>by
  simp only [RG,aw] at Y;intro c b hm;rcases aH.1 hm with hm|hm
  ·simp only [au] at hm;obtain⟨rfl,rfl⟩:=hm;rw [sO hρ c Y.1];exact hp c b ae
  ·exact LV hρ Y.2 (fun c b h=>hp c b (by simp [h])) c b hm
theorem zx {K:Nat}: ∀{l:List (Nat×AV)},sK K l=true->∀{t:Nat} {v:AV},(t,v)∈l->kN K v=true
 |[],_,_,_,h=>by simp at h
 |(t0,v0)::l,hs,t,v,h=>by
  simp only [sK,aw] at hs;rcases aH.1 h with h|h
  ·grind
  ·exact zx hs.2 h
theorem vR {K:Nat}: ∀{l:List dO},DB K l=true->∀{i:Nat} {o:dO},l[i]?=some o->xX K o=true
 |[],_,_,_,h=>by simp at h
 |o0::l,hs,i,o,h=>by
  simp only [DB,aw] at hs
  cases i with
  |zero=>simp at h; rw [<- h]; exact hs.1
  |succ i=>exact vR hs.2 (by simpa using h)
structure wP (E:En) (s:St) (a:Act) (w:World):Prop where
 fresh: ∀id,s.h.next<=id->¬E.dm id
 res: ∀r,s.h.res=some r->r<s.h.next/\¬E.dm r
 live: ∀id o,s.h.get id=some o->E.dm id/\OR E w.heap id o/\¬E.ro (E.θ id).1
 inj: ∀id Pb o o',s.h.get id=some o->s.h.get Pb=some o'->(E.θ id).1=(E.θ Pb).1->id=Pb
 su: ∀b,E.ro b->b<w.heap.size
 sr:SR E w.heap s.bG a
 pc:bY E.ρ s.pc
 hid: ∀b x,E.W b=some x->b<w.heap.size/\¬E.ro b/\∀id o,s.h.get id=some o->(E.θ id).1≠b
theorem Fit.x [bK] {E:En} {s:St} {a:Act} {w:World} (f:Fit E s a w):wP E s a w:=⟨f.rel.fresh,f.rel.res,f.rel.live,f.rel.inj,f.rel.su,f.sr,f.pc,f.rel.hid⟩
theorem wP.fit [bK] {E:En} {s:St} {a:Act} {w:World} (f:wP E s a w) (hg:bK.ok E.ρ E.ro w.heap):Fit E s a w:=⟨⟨f.fresh,f.res,f.live,f.inj,f.su,hg,f.hid⟩,f.sr,f.pc⟩
theorem wP.low {K:Nat} {E:En} {c:CS} {a:Act} {w:World} {ρ':Nat->Int} (hc:wH K c=true) (hρ: ∀i,i<K->ρ' i=E.ρ i) (f:wP E c.st a w):wP { E with ρ:=ρ' } c.st a w:=by
 unfold wH at hc;simp only [aw] at hc;obtain⟨⟨U,Z⟩,h3⟩:=hc;refine⟨f.fresh,f.res,fun id o ho=>?_,f.inj,f.su,fun t v ht=>?_,LV hρ h3 f.pc,f.hid⟩
 ·obtain⟨q1,q2,q3⟩:=f.live id o ho;refine⟨q1,OR.low (E:=E) (E':={ E with ρ:=ρ' }) hρ rfl rfl rfl rfl ?_ q2,q3⟩;have:(pj c.dB 0 .nil).get id=some o:=ho
  grind [jZ,vR,Tr.get]
 ·obtain⟨u,q1,q2⟩:=f.sr t v ht;refine⟨u,q1,VR.low (E:=E) (E':={ E with ρ:=ρ' }) hρ rfl rfl rfl rfl v u ?_ q2⟩;have:(og c.bG .nil).get t=some v:=ht;rcases vI this with h|h
  all_goals grind [zx,Tr.get]
end Go.As
end
section
namespace Go.As
open Go.RowKit
def vk (ro:Nat->Prop) (h:Array Obj) (c:CK) (n:Int) (u:Value):Prop:=match c with
 | .int k=>u= .int k n
 | .bool=>u= .bool (!(n == 0))
 |c=>Rd ro h c (dec n) u
def iu (ro:Nat->Prop) (h:Array Obj):List CK->List Int->List Value->Prop
 |[],ns,us=>ns= []/\us= []
 |c::cs,ns,us=> ∃n J_ u hD,ns=n::J_/\us=u::hD/\vk ro h c n u/\iu ro h cs J_ hD
theorem Nv {E:En} {h:Array Obj} {c:CK} {t:V} {u:Value}:VR E h (Tv c t) u↔vk E.ro h c (t.den E.ρ) u:=by cases c<;>simp only [Tv,vk,VR,SB.den,V.den]
theorem Ys {E:En} {h:Array Obj} {c:CK} {v:AV} {u:Value} {e:V} (hv:VR E h v u) (hn:Yt c v=some e):vk E.ro h c (e.den E.ρ) u:=by
 unfold Yt at hn;split at hn
 ·grind [vk,VR]
 ·grind
 ·obtain⟨s,rfl,hs⟩:=zt hv hn;simp only [vk,hs];exact .str s
 ·exact lL hv hn
theorem iu.length {ro:Nat->Prop} {h:Array Obj}: ∀{cs:List CK} {ns:List Int} {us:List Value},iu ro h cs ns us->ns.length=cs.length/\us.length=cs.length
 |[],ns,us,hh=>by simp only [iu] at hh; simp [hh.1,hh.2]
 |c::cs,ns,us,hh=>by
  obtain⟨n,J_,u,hD,rfl,rfl,_,Z⟩:=hh;have:=Z.length
  grind
theorem vk.cx {ro oh:Nat->Prop} {h h':Array Obj} (k1: ∀b,ro b->oh b) (k2: ∀b,ro b->h'[b]?=h[b]?) {c:CK} {n:Int} {u:Value} (r:vk ro h c n u):vk oh h' c n u:=by
 cases c with
 |int k=>exact r
 |bool=>exact r
 |str=>exact Rd.cx k1 k2 r
 |sl t=>exact Rd.cx k1 k2 r
theorem Gb {E:En} {h:Array Obj} {f:Nat->V}: ∀{cs:List CK} {i:Nat} {ns:List Int} {us:List Value},iu E.ro h cs ns us->(∀k n,ns[k]?=some n->(f (i+k)).den E.ρ=n)->cC E h (Gc cs f i) us
 |[],_,_,us,hh,_=>by simp only [iu] at hh; rw [hh.2]; simp [Gc,cC]
 |c::cs,i,ns,us,hh,hf=>by
  obtain⟨n,J_,u,hD,rfl,rfl,U,Z⟩:=hh;simp only [Gc,bW];refine⟨u,hD,rfl,?_,Gb Z fun k m hk=>?_⟩
  ·rw [Nv];have:=hf 0 n rfl
   grind
  ·have:=hf (k+1) m (by simpa using hk)
   grind
inductive Shape:List RK->List Value->List Value->Prop where
 |nil:Shape [] [] []
 |one (c:CK) {rs:List RK} {us fl:List Value} (u:Value):Shape rs us fl->Shape (.one c::rs) (u::us) (u::fl)
 |agg (cs:List CK) {rs:List RK} {us fl:List Value} (xs:List Value) (h:xs.length=cs.length):Shape rs us fl->Shape (.agg cs::rs) (.agg xs.toArray::us) (xs++fl)
theorem oz {E:En} {h:Array Obj}: ∀{lZ:List RK} {vs cells:List AV} {us:List Value},cC E h vs us->cellsOf lZ vs=some cells->∃fl,Shape lZ us fl/\cC E h cells fl
 |[],[],cells,us,hv,hc=>by simp only [cellsOf,aq] at hc;subst hc;simp only [cC] at hv;subst hv;exact⟨[],.nil,by simp [cC]⟩
 |[],_::_,cells,us,hv,hc=>by simp [cellsOf] at hc
 | .one _::_,[],cells,us,hv,hc=>by simp [cellsOf] at hc
 | .agg _::_,[],cells,us,hv,hc=>by simp [cellsOf] at hc
 | .one c::rs,v::vs,cells,us,hv,hc=>by
   rw [bW] at hv;obtain⟨u,hD,rfl,U,Z⟩:=hv;simp only [cellsOf] at hc;split at hc
   ·split at hc
    ·rename_i l Y;simp only [aq] at hc;subst hc;obtain⟨fl,s,v2⟩:=oz Z Y;exact⟨u::fl,.one c u s,by rw [bW]; exact⟨u,fl,rfl,U,v2⟩⟩
    grind
   grind
 | .agg cs::rs,v::vs,cells,us,hv,hc=>by
   rw [bW] at hv;obtain⟨u,hD,rfl,U,Z⟩:=hv;simp only [cellsOf] at hc;split at hc
   ·rename_i xs;split at hc
    ·rename_i hlen;have hlen:=aA hlen;split at hc
     ·rename_i l Y;simp only [aq] at hc;subst hc;obtain⟨fl,s,v2⟩:=oz Z Y;simp only [VR] at U;obtain⟨ws,rfl,h3⟩:=U;exact⟨ws++fl,.agg cs ws (by rw [h3.length,hlen]) s,h3.append v2⟩
     grind
    grind
   grind
theorem yp {ro:Nat->Prop} {h:Array Obj}: ∀{cs ds:List CK} {ns:List Int} {us vs:List Value},us.length=cs.length->iu ro h (cs++ds) ns (us++vs)->∃a b,ns=a++b/\iu ro h cs a us/\iu ro h ds b vs
 |[],ds,ns,us,vs,Y,hh=>by have:us= []:=am5 Y;subst this;exact⟨[],ns,rfl,by simp [iu],hh⟩
 |c::cs,ds,ns,us,vs,Y,hh=>by
  simp only [aX,iu] at hh;obtain⟨n,J_,u,hD,rfl,he,U,Z⟩:=hh
  cases us with
  |nil=>simp at Y
  |cons x us=> simp only [aX,List.cons.injEq] at he;obtain⟨rfl,rfl⟩:=he;obtain⟨a,b,rfl,h3,h4⟩:=yp (by simpa using Y) Z;exact⟨n::a,b,rfl,⟨n,a,x,us,rfl,rfl,U,h3⟩,h4⟩
theorem sX {E:En} {h:Array Obj} {f:Nat->V}: ∀{lZ:List RK} {us fl:List Value} {ns:List Int} {i:Nat},Shape lZ us fl->iu E.ro h (pE lZ) ns fl->(∀k n,ns[k]?=some n->(f (i+k)).den E.ρ=n)->cC E h (qj lZ f i) us
 |[],us,fl,ns,i,s,_,_=>by cases s; simp [qj,cC]
 | .one c::rs,us,fl,ns,i,s,hc,hf=>by
   cases s with
   |one _ u s=>
    simp only [pE,RK.flat,aX,ax,iu] at hc;obtain⟨n,J_,u',hD,rfl,he,U,Z⟩:=hc;simp only [List.cons.injEq] at he;obtain⟨rfl,rfl⟩:=he;simp only [qj,bW];refine⟨_,_,rfl,?_,sX s Z fun k m hk=>?_⟩
    ·rw [Nv];have:=hf 0 n rfl
     grind
    ·have:=hf (k+1) m (by simpa using hk)
     grind
 | .agg cs::rs,us,fl,ns,i,s,hc,hf=>by
   cases s with
   |agg _ xs Y s=>
    simp only [pE,RK.flat] at hc;obtain⟨a,b,rfl,U,Z⟩:=yp Y hc;have V1:=U.length.1;simp only [qj,bW,VR];refine⟨_,_,rfl,⟨xs,rfl,Gb U fun k m hk=>hf k m ?_⟩,sX s Z fun k m hk=>?_⟩
    ·grind
    ·have:=hf (cs.length+k) m (by rw [aoc J,show cs.length+k-a.length=k by omega]; exact hk)
     grind
section
variable {P:Program} {E:En} {w:World}
theorem Dz {α:Type} {r:α} {h:Array Obj}: ∀{cs:List CK} {vs:List AV} {s:St} {k:List V->St->T α} {us:List Value},bY E.ρ s.pc->cC E h vs us->(outs cs vs s k).leaf E.ρ=some r->
 ∃es ef,bY E.ρ ef/\iu E.ro h cs (es.map (V.den E.ρ)) us/\(k es { s with pc:=ef }).leaf E.ρ=some r
 |[],[],s,k,us,hp,hv,Y=>by simp only [outs] at Y;simp only [cC] at hv;exact⟨[],s.pc,hp,by simp [iu,hv],Y⟩
 |[],_::_,s,k,us,hp,hv,Y=>by simp [outs,T.leaf] at Y
 |_::_,[],s,k,us,hp,hv,Y=>by simp [outs,T.leaf] at Y
 |c::cs,v::vs,s,k,us,hp,hv,Y=>by
  rw [bW] at hv;obtain⟨u,hD,rfl,U,Z⟩:=hv;simp only [outs] at Y;split at Y
  ·split at Y
   ·rename_i b;obtain⟨ga,fS,Al⟩:=cI hp Y;obtain⟨es,ky,kf,q1,q2⟩:=Dz (s:={ s with pc:=ga }) fS Z Al;refine⟨_::es,ky,kf,?_,q2⟩;simp only [aK,iu];refine⟨_,_,u,hD,rfl,rfl,?_,q1⟩;simp only [VR] at U;subst U;simp only [vk,V.den];cases b.den E.ρ<;>rfl
   grind [T.leaf]
  ·split at Y
   ·rename_i e he;obtain⟨es,ky,kf,q1,q2⟩:=Dz hp Z Y
    grind [iu,Ys]
   grind [T.leaf]
theorem yz (ρ:Nat->Int): ∀es:List V,dec ((gy es).den ρ)=dL ((es.map (V.den ρ)).map .i)
 |[]=>by simp only [gy,V.den,bD]; rfl
 |e::es=>by simp only [gy,eL,V.den,fX.den,bD,mi,yz ρ es,aK,dL]
theorem jR (ρ:Nat->Int): ∀es:List V,(gy es).den ρ=mZ (es.map (V.den ρ))
 |[]=>rfl
 |e::es=>by have:=yz ρ (e::es);simp only [gy,eL,V.den,fX.den,bD,mi,yz ρ es,aK,mZ,dL]
theorem wY {ρ:Nat->Int} {r:V} {ys:List Int} (h:r.den ρ=mZ ys) {i:Nat} {y:Int} (hi:ys[i]?=some y):(pA r i).den ρ=y:=by simp only [pA,V.den,fX.den,h,mZ,bD,D.W,bE,bp,hi,am4,ay,D.n]
def abP (lZ:List RK) (ys:List Int) (ro:Nat->Prop) (h:Array Obj) (u:Value):Prop:= ∃us fl,Shape lZ us fl/\iu ro h (pE lZ) ys fl/\u=if hh:us.toArray.size=1 then us.toArray[0] else .tuple us.toArray
def B' (P:Program) (GB:(Nat->Prop)->Array Obj->Prop) (g:FuncId) (Gm lZ:List RK) (f:List Int->Option (List Int)):Prop:=
 ∀xs ys,f xs=some ys->∀(ro:Nat->Prop) (w:World) (vals fl:List Value),(∀b,ro b->b<w.heap.size)->GB ro w.heap->Shape Gm vals fl->iu ro w.heap (pE Gm) xs fl->
  Calls P g vals.toArray w fun e w'=> ∃u,e= .returned u/\Below w.heap.size w w'/\∃oh:Nat->Prop,(∀b,ro b->oh b)/\(∀b,oh b->ro b\/w.heap.size<=b)/\(∀b,oh b->b<w'.heap.size)/\abP lZ ys oh w'.heap u
theorem iu.ae3 {ro oh:Nat->Prop} {h h':Array Obj}: ∀{cs:List CK} {ns:List Int} {us:List Value},iu ro h cs ns us->Hg cs=true->iu oh h' cs ns us
 |[],ns,us,hh,_=>hh
 |c::cs,ns,us,hh,hs=>by
  obtain⟨n,J_,u,hD,rfl,rfl,U,Z⟩:=hh;simp only [Hg] at hs;split at hs
  ·exact⟨n,J_,u,hD,rfl,rfl,U,Z.ae3 hs⟩
  ·exact⟨n,J_,u,hD,rfl,rfl,U,Z.ae3 hs⟩
  grind
theorem Y1 [bK] {GB:(Nat->Prop)->Array Obj->Prop} (MB: ∀ρ ro h,bK.ok ρ ro h->GB ro h) {F:oZ} (MA: ∀ρ ro h,bK.ok ρ ro h->Good F ρ) {g:FuncId} {j:Nat} {Gm lZ:List RK} (hs:B' P GB g Gm lZ (F j))
 (kP: ∀(args:Array Value) (w:World),(callFunc g args).run P w= .ok (.enter g args) w):kQ P g (Y2 j Gm lZ):=by
 intro amV s E w vals v s' r hv hp Y;unfold Y2 at Y;split at Y
 ·grind [T.leaf]
 ·rename_i cells hc;obtain⟨fl,sh,hv2⟩:=oz hv hc;obtain⟨agL,U,pcF,E1,hpF,f,hfr,Y⟩:=qC rfl r hp Y;have hv3:=hfr _ hv2;have s1:=f.dY;have r1:=f.rel;have hρ:=f.ρ;rw [<- hρ] at Y hpF;obtain⟨es,ga,fS,q1,q2⟩:=Dz (s:={ s with h:=U,pc:=pcF }) hpF hv3 Y;obtain⟨ky,kf,q3⟩:=cI (s:={ s with h:=U,pc:=ga }) fS q2;split at q3
  ·rename_i ht;have hg:=MA _ _ _ r1.kj;have hg1:=(hg j (es.map (V.den E1.ρ))).1;have hg2:=(hg j (es.map (V.den E1.ρ))).2;simp only [SB.den,V.den,jR,hg1,beq_iff_eq] at ht
   have CO:(F j (es.map (V.den E1.ρ))).isSome=true:=by
    grind
   obtain⟨ys,H4⟩:=ant.1 CO;have yQ:=bF q3;simp only [au] at yQ;obtain⟨rfl,K_⟩:=yQ;have Mr:=hs _ ys H4 E1.ro w vals fl r1.su (MB _ _ _ r1.kj) sh q1
   have GP: ∀(E2:En) (Z:Array Obj) (us fl':List Value),E2.ρ=E1.ρ->Shape lZ us fl'->iu E2.ro Z (pE lZ) ys fl'->
    VR E2 Z (match qj lZ (pA (.ap (2*j+1) (gy es))) 0 with |[v]=>v|vs=> .tuple vs) (if hh:us.toArray.size=1 then us.toArray[0] else .tuple us.toArray):=by
    intro E2 Z us fl' hE2 sh' c1
    have hvr:cC E2 Z (qj lZ (pA (.ap (2*j+1) (gy es))) 0) us:=by
     refine sX sh' c1 fun k n hk=>?_;rw [aL];refine wY (ys:=ys) ?_ hk;show E2.ρ _=_
     grind [jR]
    have:=Dw hvr;unfold BE at this;exact this
   cases hsc:Hg (pE lZ) with
   |true=>
    rw [hsc] at K_;simp only at K_;subst K_;refine⟨rfl,by rw [<- hρ]; exact kf,?_⟩;unfold mz oY;rw [kP];refine Calls.mono Mr fun e w' ⟨u,he,hb,oh,k1,k2,k3,k4⟩=> ⟨u,he,?_⟩;have uZ:fY E w.heap E w'.heap:=⟨rfl,fun _ h=>h,fun _ _=>rfl,fun _ _=>rfl,fun _ h=>h,fun b JU=>hb.block b (r.su b JU)⟩
    have vo:fq E s.h w E s.h w':=
     ⟨rfl,fun _ h=>h,fun _ _=>rfl,fun _ _=>rfl,fun _ h=>h,fun b JU=> .inl JU,az _,.inr rfl,fun _ h=> .inl h,hb.os,hb.tape,hb.output,hb.size,fun b nZ _=>hb.block b nZ,fun id o h _=> ⟨id,o,h,rfl⟩,rfl⟩
    have r2:bR E s.h w':=by refine⟨r.fresh,r.res,fun id o h=>?_,r.inj,fun b JU=>anh (r.su b JU) hb.size,bK.cx r.kj (fun _ h=>h) uZ.Cy,r.U0 vo.W vo.size vo.sR vo.own⟩;obtain⟨g1,g2,g3⟩:=r.live id o h;exact⟨g1,g2.cx uZ g1 (hb.block _ (gC r h)) (r.VZ rfl (fun x hx _=>hb.block x hx) _),g3⟩
    obtain⟨us,fl',sh',c1,rfl⟩:=k4;exact⟨E,vo,r2,GP E w'.heap us fl' hρ.symm sh' (c1.ae3 hsc)⟩
   |false=>
    rw [hsc] at K_;simp only at K_;subst K_;refine⟨rfl,by rw [<- hρ]; exact kf,?_⟩;unfold mz oY;rw [kP];refine Calls.mono Mr fun e w' ⟨u,he,hb,oh,k1,k2,k3,k4⟩=> ⟨u,he,?_⟩;have uZ:fY E1 w.heap { E1 with ro:=oh } w'.heap:=⟨rfl,fun _ h=>h,fun _ _=>rfl,fun _ _=>rfl,k1,fun b JU=>hb.block b (r1.su b JU)⟩
    have vo:fq E1 U w { E1 with ro:=oh } U w':=
     ⟨rfl,fun _ h=>h,fun _ _=>rfl,fun _ _=>rfl,k1,fun b JU=>(k2 b JU).imp id .inr,az _,.inr rfl,fun _ h=> .inl h,hb.os,hb.tape,hb.output,hb.size,fun b nZ _=>hb.block b nZ,fun id o h _=> ⟨id,o,h,rfl⟩,rfl⟩
    have r2:bR { E1 with ro:=oh } U w':=by
     refine⟨r1.fresh,r1.res,fun id o h=>?_,r1.inj,k3,bK.cx r1.kj k1 uZ.Cy,r1.U0 vo.W vo.size vo.sR vo.own⟩;obtain⟨g1,g2,g3⟩:=r1.live id o h;refine⟨g1,g2.cx uZ g1 (hb.block _ (gC r1 h)) (r1.VZ rfl (fun x hx _=>hb.block x hx) _),fun hr=>?_⟩;rcases k2 _ hr with hr|hr
     ·grind
     ·have gv:(E1.θ id).1<w.heap.size:=gC r1 h
      grind
    obtain⟨us,fl',sh',c1,rfl⟩:=k4;exact⟨{ E1 with ro:=oh },s1.trans vo,r2,GP { E1 with ro:=oh } w'.heap us fl' rfl sh' c1⟩
  grind [T.leaf]
end
structure mY where
 w0:World
 ro:Nat->Prop
 m:Nat
 θ:Nat->Nat×Nat
 κ:Nat->Nat
def mY.fp (B:mY) (b:Nat):Prop:= ∃i,i<B.m/\(B.θ i).1=b
structure Bel (B:mY) (w:World):Prop where
 os:w.os=B.w0.os
 tape:w.tape=B.w0.tape
 output:w.output=B.w0.output
 size:B.w0.heap.size<=w.heap.size
 nH: ∀k,k<B.w0.heap.size->¬B.fp k->w.heap[k]?=B.w0.heap[k]?
structure lM (B:mY) (E:En) (s:St) (a:Act) (w:World):Prop where
 fit:wP E s a w
 ro: ∀b,B.ro b->E.ro b
 sR: ∀b,E.ro b->B.ro b\/B.w0.heap.size<=b\/B.fp b
 Oa:Bel B w
 own: ∀id o,s.h.get id=some o->B.w0.heap.size<=(E.θ id).1\/B.fp (E.θ id).1
 inx: ∀i,i<B.m->E.dm i/\E.θ i=B.θ i/\E.κ i=B.κ i
 ud: ∀b x,E.W b=some x->B.w0.heap.size<=b
section
variable {P:Program} {B:mY}
theorem lM.step [bK] {E E':En} {s s':St} {a a':Act} {w w':World} (t:lM B E s a w) (st:fq E s.h w E' s'.h w') (f':Fit E' s' a' w'):lM B E' s' a' w':=by
 have aaV: ∀id o,s'.h.get id=some o->B.w0.heap.size<=(E'.θ id).1\/B.fp (E'.θ id).1:=by
  intro id o ho;rcases bg (E'.θ id).1 w.heap.size with h|h
  ·obtain⟨s5,o0,h0,he⟩:=st.own id o ho h;rw [<- he];exact t.own s5 o0 h0
  ·exact .inl (bq t.Oa.size h)
 refine⟨f'.x,fun b hb=>st.ro b (t.ro b hb),fun b hb=>?_,⟨st.os.trans t.Oa.os,st.tape.trans t.Oa.tape,st.output.trans t.Oa.output,bq t.Oa.size st.size,fun k hk hn=>?_⟩,aaV,fun i hi=>?_,fun b x hb=>t.ud b x (by rw [<- st.W]; exact hb)⟩
 ·rcases st.sR b hb with h|⟨id,o,U,Z⟩|h
  ·exact t.sR b h
  ·rw [<- Z]; exact .inr (t.own id o U)
  ·exact .inr (.inl (bq t.Oa.size h))
 ·rw [<- t.Oa.nH k hk hn];refine st.cx k (anh hk t.Oa.size) fun id o ho he=>?_;rcases t.own id o ho with h|h
  all_goals grind
 ·obtain⟨U,Z,h3⟩:=t.inx i hi;exact⟨st.dm i U,by rw [st.θ i U]; exact Z,by rw [st.κ i U]; exact h3⟩
theorem lM.then [bK] {E:En} {s s':St} {a a':Act} {w w':World} (t:lM B E s a w) (h:nK E s a w s' a' w'): ∃E',lM B E' s' a' w'/\E'.ρ=E.ρ/\bK.ok E'.ρ E'.ro w'.heap:=by obtain⟨_,_,E',st,f'⟩:=h;exact⟨E',t.step st f',st.ρ,f'.rel.kj⟩
theorem lM.pc {E:En} {s:St} {a:Act} {w:World} {pc:List (SB×Bool)} (t:lM B E s a w) (hp:bY E.ρ pc):lM B E { s with pc:=pc } a w:=
 ⟨⟨t.fit.fresh,t.fit.res,t.fit.live,t.fit.inj,t.fit.su,t.fit.sr,hp,t.fit.hid⟩,t.ro,t.sR,t.Oa,t.own,t.inx,t.ud⟩
theorem E6 {r:Ren}: ∀{m:Nat},E7 m r=true->∀i,i<m->i<r.bl.length/\r.id i=i/\r.vp i=0
 |0,_,i,hi=>by omega
 |n+1,h,i,hi=>by
  simp only [E7,aw] at h;obtain⟨⟨U,Z⟩,h3⟩:=h;by_cases he:i=n
  ·subst he;split at U
   ·rename_i j hj;have U:=aA U;subst U;refine⟨?_,?_,aA Z⟩
    all_goals grind [du,Ren.id]
   grind
  ·exact E6 h3 i J
theorem lM.fits [bK] {E:En} {c:CS} {s:St} {r:Ren} {a:Act} {w:World} (t:lM B E s a w) (hg:bK.ok E.ρ E.ro w.heap) (h:c.fits I! s r=true) (hid:E7 B.m r=true):r.ns.length<=900/\lM B (E.ic r) c.st a w:=by
 obtain⟨Y,f,ho⟩:=Ay OS (t.fit.fit hg) h;refine⟨Y,f.x,t.ro,t.sR,t.Oa,fun id o hid=>?_,fun i hi=>?_,t.ud⟩
 ·obtain⟨o',h'⟩:=ho id o hid;exact t.own _ _ h'
 ·obtain⟨q1,q2,q3⟩:=E6 hid i hi;obtain⟨U,Z,h3⟩:=t.inx i hi;refine⟨⟨q1,by rw [q2]; exact U⟩,?_,?_⟩
  ·show ((E.θ (r.id i)).1,(E.θ (r.id i)).2+r.vp i)=_
   grind
  ·show E.κ (r.id i)-r.vp i=_
   grind
theorem lM.low {K:Nat} {E:En} {c:CS} {a:Act} {w:World} {ρ':Nat->Int} (hc:wH K c=true) (hρ: ∀i,i<K->ρ' i=E.ρ i) (t:lM B E c.st a w):lM B { E with ρ:=ρ' } c.st a w:=
 ⟨t.fit.low hc hρ,t.ro,t.sR,t.Oa,t.own,t.inx,t.ud⟩
def mY.out (B:mY) (ys:List Int) (ro:Nat->Prop):En:={ ρ:=low ys,θ:=B.θ,κ:=B.κ,dm:=fun i=>i<B.m,ro:=ro }
def QE (B:mY) (lZ:List RK) (ej:List dO) (ko:Nat) (ys:List Int) (e:Ending) (w':World):Prop:=
 ∃u,e= .returned u/\Bel B w'/\∃oh:Nat->Prop,(∀b,B.ro b->oh b)/\(∀b,oh b->B.ro b\/B.w0.heap.size<=b)/\(∀b,oh b->b<w'.heap.size)/\(∀i,i<B.m->¬oh (B.θ i).1)/\
  (∀i o,ej[i]?=some o->OR (B.out ys oh) w'.heap i o)/\abP lZ (ys.drop ko) oh w'.heap u
def Ut (us:List Value):Value:=if h:us.toArray.size=1 then us.toArray[0] else .tuple us.toArray
def QR (B:mY) (pP:List CS) (ys:List Int) (e:Ending) (w':World):Prop:=
 ∃(us:List Value) (i:Nat) (c:CS) (E':En),e= .returned (Ut us)/\Bel B w'/\pP[i]?=some c/\ys[0]?=some (i:Int)/\ys.length=c.k+1/\(∀a x,ys[a+1]?=some x->E'.ρ a=x)/\us.length=c.bG.length/\
  wP E' c.st { tmps:=us.toArray,defers:=[] } w'/\(∀b,B.ro b->E'.ro b)/\(∀b,E'.ro b->B.ro b\/B.w0.heap.size<=b)/\(∀i,i<B.m->i<c.dB.length/\E'.dm i/\E'.θ i=B.θ i/\E'.κ i=B.κ i)/\(∀id o,c.st.h.get id=some o->B.m<=id->B.w0.heap.size<=(E'.θ id).1)
def QX (B:mY) (lZ:List RK) (ej:List dO) (ko:Nat) (pP:List CS) (ys:List Int):Ending->World->Prop:=match pP with
 |[]=>QE B lZ ej ko ys
 |c::l=>QR B (c::l) ys
structure QZ [bK] (P:Program) (g:uU) (rL:Nat->List Oper->Bool):Prop where
 tt:eJ P g.tt
 call:iT P g.call
 draw:wQ P rL g.draw
theorem tn {rL:Nat->List Oper->Bool} {N:Nat} {body:Code} (h:kJ rL N body=true): ∀(p:List Nat) {c:Code} {fr:List FrE},pI body p=some (c,fr)->kJ rL N c=true
 |[],c,fr,Y=>by
  grind [pI]
 |d::p,c,fr,Y=>by
  simp only [pI] at Y;split at Y
  ·rename_i a b Zu hp;have:=tn h p hp
   grind [kJ]
  ·rename_i id b Zu hp;have:=tn h p hp
   grind [kJ]
  ·rename_i v a b Zu hp;have:=tn h p hp
   grind [kJ]
  ·rename_i b Zu hp;have:=tn h p hp
   grind [kJ]
  ·rename_i b Zu hp;have:=tn h p hp
   grind [kJ]
  grind
theorem xf {body:Code}: ∀(p:List Nat) {c:Code} {fr:List FrE},pI body p=some (c,fr)->Gv body fr
 |[],c,fr,h=>by simp only [pI,aq,au] at h;rw [<- h.2]; trivial
 |d::p,c,fr,h=>by
  have h0:=h;simp only [pI] at h;split at h
  ·rename_i a b Zu hp;have ih:=xf p hp;split at h
   ·simp only [aq,au] at h;obtain⟨rfl,rfl⟩:=h;refine⟨?_,ih⟩;simp only [pI,hp]
   grind
  ·rename_i id b Zu hp;have ih:=xf p hp;simp only [aq,au] at h;rw [<- h.2]; exact ih
  ·rename_i v a b Zu hp;have ih:=xf p hp
   grind
  ·rename_i b Zu hp;have ih:=xf p hp;simp only [aq,au] at h;rw [<- h.2];exact⟨hp,ih⟩
  ·rename_i b Zu hp;have ih:=xf p hp;simp only [aq,au] at h;rw [<- h.2]; exact ih
  grind
def NV (F:oZ) (ρ:Nat->Int) (ys:List Int):Lf->Prop
 | .out es=>es.map (V.den ρ)=ys
 | .jump j es=>F j (es.map (V.den ρ))=some ys
def H_ [bK] (P:Program) (body:Code) (N:Nat) (B:mY) (Q:Exit->Act->World->Prop) (F:oZ) (ys:List Int) (fJ:Dm):Prop:=
 ∀p l,fJ p=some l->∃b fr,pI body p=some (.loop b,fr)/\∀j c,(j,c)∈l->∀E a w,lM B E c.st a w->bK.ok E.ρ E.ro w.heap->(∃xs:List Int,(∀i x,xs[i]?=some x->E.ρ i=x)/\xs.length=c.k/\c.k<=900/\F j xs=some ys)->N<=a.tmps.size->a.defers= []->Gu P b (KE P Q fr) a w
theorem ot (g:Tr V): ∀(n i:Nat),(yL g n i).length=n
 |0,_=>rfl
 |n+1,i=>by simp only [yL];split<;>simp [ot g n (i+1)]
theorem uf (m:Nat) (c:CS) (s:St):(c.j3 m s).ns.length=c.k:=by
 grind [CS.j3,ot]
theorem Ax: ∀(n i:Nat) (ns:List V),(CU n i ns).length=ns.length
 |0,_,_=>rfl
 |_+1,_,[]=>rfl
 |n+1,i,_::ns=>by simp only [CU,aR,Ax n (i+1) ns]
theorem wy (iK:Nat) (r:Ren):(r8 iK r).ns.length=r.ns.length:=by
 unfold r8
 grind [Ax]
theorem I2 {α:Type} {k:St->T α} {E:En} {a:Act} {w:World} {x:α}: ∀{ts:List (Nat×Nat)} {s:St},(Ok k ts s).leaf E.ρ=some x->lM B E s a w->∃s',lM B E s' a w/\(k s').leaf E.ρ=some x
 |[],s,h,t=> ⟨s,t,h⟩
 |(i,g)::ts,s,h,t=>by
  simp only [Ok] at h;split at h
  ·obtain⟨ef,fU,U⟩:=cI t.fit.pc h;exact I2 U (t.pc fU)
  ·exact I2 h t
theorem xh [bK] {iK:Nat} {F:oZ} {ys:List Int} {body:Code} {N:Nat} {Q:Exit->Act->World->Prop} {fJ:Dm} (hj:H_ P body N B Q F ys fJ) {p:List Nat} {l0:List (Nat×CS)} (hp:fJ p=some l0) {b:Code} {fr:List FrE} (Y:pI body p=some (.loop b,fr)) :
 ∀{l:List (Nat×CS)} {s:St} {lf:Lf} {E:En} {a:Act} {w:World},(∀x∈l,x∈l0)->(rS B.m iK s l).leaf E.ρ=some lf->NV F E.ρ ys lf->lM B E s a w->bK.ok E.ρ E.ro w.heap->N<=a.tmps.size->a.defers= []->Gu P b (KE P Q fr) a w
 |[],s,lf,E,a,w,_,h,_,_,_,_,_=>by simp [rS,T.leaf] at h
 |(j,c)::l,s,lf,E,a,w,oI,h,rT,t,hg,hN,W=>by
  simp only [rS] at h;split at h
  ·exact xh hj hp Y (fun x hx=>oI x (by simp [hx])) h rT t hg hN W
  ·split at h
   ·rename_i hf;have:=bF h;subst this;simp only [aw] at hf;obtain⟨hle,t'⟩:=t.fits hg hf.1 hf.2;obtain⟨b',Zu,vy,hh⟩:=hj p l0 hp;rw [Y] at vy;simp only [aq,au,Code.loop.injEq] at vy;obtain⟨rfl,rfl⟩:=vy;have pS:(r8 iK (c.j3 B.m s)).ns.length=c.k:=by rw [wy,uf]
    refine hh j c (oI _ ae) (E.ic (r8 iK (c.j3 B.m s))) a w t' (bK.ic hg fun i hi=>Ren.mu hle hi) ⟨(r8 iK (c.j3 B.m s)).ns.map (V.den E.ρ),fun i x hi=>?_,by simp [pS],by rw [<- pS]; exact hle,rT⟩ hN W;rw [bp,aZ] at hi;obtain⟨e,he,rfl⟩:=hi;show (r8 iK (c.j3 B.m s)).env E.ρ i=_
    grind [Ren.env,du]
   ·exact xh hj hp Y (fun x hx=>oI x (by simp [hx])) h rT t hg hN W
theorem xC {α:Type} {k:St->T α} {E:En} {a:Act} {w:World} {x:α}: ∀{ts:List Nat} {s:St},(wJ k ts s).leaf E.ρ=some x->lM B E s a w->∃s',lM B E s' a w/\(k s').leaf E.ρ=some x
 |[],s,h,t=> ⟨s,t,h⟩
 |i::ts,s,h,t=>by
  simp only [wJ] at h;split at h
  ·rename_i c hc;obtain⟨ef,fU,U⟩:=cI t.fit.pc h;refine xC U ⟨⟨t.fit.fresh,t.fit.res,t.fit.live,t.fit.inj,t.fit.su,fun j v hj=>?_,fU,t.fit.hid⟩,t.ro,t.sR,t.Oa,t.own,t.inx,t.ud⟩;simp only at hj;rw [Tr.bU] at hj;split at hj
   ·rename_i he;subst he;simp only [aq] at hj;subst hj;obtain⟨u,Z,h3⟩:=t.fit.sr _ _ hc;refine⟨u,Z,?_⟩;simp only [VR] at h3 ⊢;rw [h3];rfl
   ·exact t.fit.sr j v hj
  ·exact xC h t
theorem UH (g:uU) (h:Hp):(ig g h).ns.length=g.ko/\(ig g h).bl=List.range g.ej.length/\(ig g h).sh= []:=by
 grind [ig,ot]
def nfs:List dO->Bool
 |[]=>true
 |o::l=>nf o&&nfs l
theorem Jy: ∀{l:List dO},nfs l=true->∀{i:Nat} {o:dO},l[i]?=some o->nf o=true
 |[],_,_,_,h=>by simp at h
 |o0::l,hs,i,o,h=>by
  simp only [nfs,aw] at hs
  cases i with
  |zero=>simp at h; rw [<- h]; exact hs.1
  |succ i=>exact Jy hs.2 (by simpa using h)
def nA (K:Nat):List dO->Bool
 |[]=>true
 |o::l=>nf o&&(xX K o&&nA K l)
theorem nz {K:Nat}: ∀{l:List dO},nA K l=true->∀{i:Nat} {o:dO},l[i]?=some o->nf o=true/\xX K o=true
 |[],_,_,_,h=>by simp at h
 |o0::l,hs,i,o,h=>by
  simp only [nA,aw] at hs
  cases i with
  |zero=>simp at h; rw [<- h]; exact⟨hs.1,hs.2.1⟩
  |succ i=>exact nz hs.2.2 (by simpa using h)
theorem DV {n m iK:Nat} {s:St} {ρ:Nat->Int} {lf:Lf}: ∀{l:List CS} {k:Nat},(M7 n m iK s l k).leaf ρ=some lf->∃i c,l[i-k]?=some c/\(c.fits I! s (r8 iK (c.j3 m s))=true/\E7 m (r8 iK (c.j3 m s))=true)/\n=c.bG.length/\lf= .out (.lit (i:Int)::(r8 iK (c.j3 m s)).ns)/\k<=i
 |[],k,h=>by simp [M7,T.leaf] at h
 |c::l,k,h=>by
  simp only [M7] at h;split at h
  ·obtain⟨i,c',q1,q2,q3,q4,q5⟩:=DV h
   grind
  ·rename_i hq;simp only [aw] at hq;split at h
   ·rename_i hf;have:=bF h;simp only [aw] at hf;exact⟨k,c,ae,hf,aA hq.2,this.symm,az _⟩
   ·obtain⟨i,c',q1,q2,q3,q4,q5⟩:=DV h
    grind
theorem K1 {E E':En} {h h':Array Obj} (kp:fY E h E' h'): ∀{xs:List AV} {us:List Value} {i:Nat} {x:AV},cC E h xs us->xs[i]?=some x->∃u,VR E h x u/\∀x',VR E' h' x' u->cC E' h' (xs.set i x') us
 |[],us,i,x,_,hx=>by simp at hx
 |y::ys,us,0,x,hv,hx=>by rw [bW] at hv;obtain⟨u,vs,rfl,a,b⟩:=hv;simp only [aM,aq] at hx;subst hx;refine⟨u,a,fun x' VW=>?_⟩;rw [anG,bW];exact⟨u,vs,rfl,VW,cC.cx kp _ _ b⟩
 |y::ys,us,i+1,x,hv,hx=>by rw [bW] at hv;obtain⟨u,vs,rfl,a,b⟩:=hv;rw [aN] at hx;obtain⟨u',U,Z⟩:=K1 kp b hx;refine⟨u',U,fun x' VW=>?_⟩;rw [anH,bW];exact⟨u,vs,rfl,VR.cx kp _ _ a,Z x' VW⟩
theorem J4 [bK] {α:Type} {ρ:Nat->Int} {w:World} {us:List Value} {k:List AV->St->T α} {x:α}: ∀{fz:List (Nat×Nat×Nat)} {vs:List AV} {s:St} {E:En},E.ρ=ρ->bR E s.h w->bY ρ s.pc->cC E w.heap vs us->(MH fz vs s k).leaf ρ=some x->
 ∃N2 h' ef E',bY ρ ef/\Lj E w s.h E' h'/\cC E' w.heap N2 us/\(k N2 { s with h:=h',pc:=ef }).leaf ρ=some x
 |[],vs,s,E,hρ,r,hp,hv,h=> ⟨vs,s.h,s.pc,E,hp,Lj.refl r,hv,h⟩
 |(i,f,t)::l,vs,s,E,hρ,r,hp,hv,h=>by
  simp only [MH] at h;split at h
  ·rename_i xs hi;split at h
   ·rename_i y hy;rw [du] at hi hy;obtain⟨y',U,ga,E1,fS,f1,q1,g1⟩:=J3 hρ r hp h;have kp:=f1.dY.keeps r;obtain⟨u,a,b⟩:=K1 kp hv hi;simp only [VR] at a;obtain⟨ws,rfl,a⟩:=a;obtain⟨u2,a2,b2⟩:=K1 kp a hy;split at g1
    ·rename_i e he;have hc:=lL (q1 _ a2) he
     have hv1:cC E1 w.heap (vs.set i (.agg (xs.set f (.eD e t)))) us:=by refine b _ ?_;simp only [VR];exact⟨ws,rfl,b2 _ (by simp only [VR]; exact hc)⟩
     obtain⟨vs2,Z,ky,E2,kf,f2,q2,g2⟩:=J4 (s:={ s with h:=U,pc:=ga }) (f1.ρ.trans hρ) f1.rel fS hv1 g1;exact⟨vs2,Z,ky,E2,kf,f1.trans f2,q2,g2⟩
    grind [T.leaf]
   grind [T.leaf]
  grind [T.leaf]
theorem abe [bK] {g:uU} {rL:Nat->List Oper->Bool} (hg:QZ P g rL) {fn:Func} (yQ:g.res=fn.results.toList) (hm:g.ej.length=B.m) (pg:nA g.ko g.ej=true) (K?:g.ko<=900) {e:Ex} {s:St} {lf:Lf} {E:En} {a:Act} {w:World} {F:oZ} {ys:List Int} (h:(ZL g e s).leaf E.ρ=some lf) (rT:NV F E.ρ ys lf)
 (t:lM B E s a w) (pS:bK.ok E.ρ E.ro w.heap) (W:a.defers= []):bodyPost P fn (QX B g.lZ g.ej g.ko g.pP ys) (yx e) a w:=by
 have fit:=t.fit.fit pS
 have key: ∀{x:T Lf},x=(match lI g.tt s g.res with
  |none=>T.fail
  |some vs=>match g.pP with
   |[]=>match cellsOf g.lZ vs with
    |none=> .fail
    |some cells=>yj cells s fun cells s=>match BJ (ig g s.h) g.ej.length s.h g.ej 0 with
     |true=>outs (pE g.lZ) cells s fun es _=> .ret (.out ((ig g s.h).ns++es))
     |false=> .fail
   |c::l=>MH g.fz vs s fun vs s=>M7 vs.length g.ej.length g.iK ⟨cw vs 0 .nil,s.h,s.pc⟩ (c::l) 0)->x.leaf E.ρ=some lf->∃v,(results fn a.tmps).run P w= .ok v w/\QX B g.lZ g.ej g.ko g.pP ys (.returned v) w:=by
  intro x hx Y;subst hx;split at Y
  ·simp [T.leaf] at Y
  ·rename_i vs hr;rw [yQ] at hr;obtain⟨us,g1,g2⟩:=uF hg.tt fit hr
   have kP:(results fn a.tmps).run P w= .ok (Ut us) w:=by
    have hm:(fn.results.mapM (vM a)).run P w= .ok us.toArray w:=by rw [aoV];simp_all
    have hr2:results fn a.tmps=(do let vs <- fn.results.mapM (vM a); pure (if h:vs.size=1 then vs[0] else .tuple vs)):=rfl;rw [hr2];simp only [Sem.run_bind,hm];rfl
   split at Y
   ·rename_i BR;split at Y
    ·simp [T.leaf] at Y
    ·rename_i cells hc;rw [BR];show ∃v,_/\QE B g.lZ g.ej g.ko ys (.returned v) w;obtain⟨fl,sh,hv2⟩:=oz g2 hc;obtain⟨agL,U,pcF,E1,hpF,f,hfr,Y⟩:=qC rfl fit.rel fit.pc Y;have hv3:=hfr _ hv2;have s1:=f.dY;have r1:=f.rel;split at Y
     ·rename_i GA;have hρ:=f.ρ;rw [<- hρ] at Y rT hpF;obtain⟨es,ga,fS,q1,q2⟩:=Dz (s:={ s with h:=U,pc:=pcF }) hpF hv3 Y;have:=bF q2;subst this;simp only [NV] at rT;obtain⟨n1,n2,n3⟩:=UH g U
      have Fe:ys.drop g.ko=es.map (V.den E1.ρ):=by
       grind
      have alB: ∀i,i<g.ko->low ys i=(ig g U).env E1.ρ i:=by
       intro i hi
       grind [ig,low,Ren.env,du]
      have amO: ∀i,i<B.m->E1.dm i/\E1.θ i=B.θ i/\E1.κ i=B.κ i:=by intro i hi;obtain⟨U,Z,h3⟩:=t.inx i hi;exact⟨s1.dm i U,by rw [s1.θ i U]; exact Z,by rw [s1.κ i U]; exact h3⟩
      have alx: ∀i,i<g.ej.length->(ig g U).id i=i:=by
       intro i hi
       grind [Ren.id,du]
      have UU: ∀i,(ig g U).vp i=0:=by intro i;unfold Ren.vp;rw [n3];rfl
      have Ak: ∀i,i<B.m->¬E1.ro (B.θ i).1:=by
       intro i hi;have gv:i<g.ej.length:=J
       obtain⟨o',q3,_,_⟩:=jr GA (aW gv);rw [aL,alx i gv] at q3;have:=(r1.live i o' q3).2.2
       grind
      refine⟨Ut us,kP,_,rfl,t.Oa,E1.ro,fun b hb=>s1.ro b (t.ro b hb),fun b hb=>?_,r1.su,Ak,fun i o hi=>?_,us,fl,sh,by rw [Fe]; exact q1,rfl⟩
      ·have key:B.ro b\/B.w0.heap.size<=b\/B.fp b:=by
        rcases s1.sR b hb with h|⟨id,o,U,Z⟩|h
        ·exact t.sR b h
        ·rw [<- Z]; exact .inr (t.own id o U)
        ·exact .inr (.inl (bq t.Oa.size h))
       rcases key with h|h|⟨i,hi,he⟩
       ·exact .inl h
       ·exact .inr h
       ·exact absurd hb (by rw [<- he]; exact Ak i hi)
      ·have dK:=(bj.1 hi).1;obtain⟨o',q3,q4,q5⟩:=jr GA hi;rw [aL] at q3 q5;have ho:=(r1.live _ o' q3).2.1;have ho2:=OR.ic (E:=E1) (r:=ig g U) J (id:=i) (by rw [n2,List.length_range]; exact q4) q5 ho
       have kp:fY (E1.ic (ig g U)) w.heap { ρ:=(ig g U).env E1.ρ,θ:=B.θ,κ:=B.κ,dm:=fun i=>i<B.m,ro:=E1.ro } w.heap:=by
        have W: ∀id,(E1.ic (ig g U)).dm id->id<g.ej.length:=by
         intro id hh;have:=hh.1
         grind
        refine⟨rfl,fun id hh=>by have:=W id hh; show id<B.m; omega,fun id hh=>?_,fun id hh=>?_,fun _ h=>h,fun _ _=>rfl⟩
        ·have:=W id hh;show B.θ id=((E1.θ ((ig g U).id id)).1,(E1.θ ((ig g U).id id)).2+(ig g U).vp id)
         grind
        ·have:=W id hh;show B.κ id=E1.κ ((ig g U).id id)-(ig g U).vp id
         grind
       have ajj:(E1.ic (ig g U)).dm i:=by
        refine⟨by rw [n2,List.length_range]; exact dK,?_⟩
        grind
       have hθi:(E1.ic (ig g U)).θ i=B.θ i:=(kp.θ i ajj).symm;have ho3:=OR.acL kp ajj rfl (nz pg hi).1 ho2;exact OR.low (K:=g.ko) (E:={ ρ:=(ig g U).env E1.ρ,θ:=B.θ,κ:=B.κ,dm:=fun i=>i<B.m,ro:=E1.ro }) (E':=B.out ys E1.ro) alB rfl rfl rfl rfl (nz pg hi).2 ho3
     ·simp [T.leaf] at Y
   ·rename_i c0 l0 BR
    have hq:QR B (c0::l0) ys (.returned (Ut us)) w:=by
     obtain⟨WC,U,ga,E1,fS,f1,g2,Y⟩:=J4 rfl fit.rel fit.pc g2 Y;have pS:=f1.rel.kj
     have t0:lM B E1 ⟨cw WC 0 .nil,U,ga⟩ { tmps:=us.toArray,defers:=[] } w:=by have sr1:=Ae g2 0;exact t.step (s':=⟨cw WC 0 .nil,U,ga⟩) f1.dY ⟨f1.rel,by simpa using sr1,by rw [f1.ρ]; exact fS⟩
     rw [<- f1.ρ] at Y rT;obtain⟨i,c,q1,⟨q2,q2'⟩,q3,q4,_⟩:=DV Y;rw [hm] at q2 q2' q4;obtain⟨hle,t1⟩:=t0.fits pS q2 q2';rw [q4] at rT;simp only [NV,aK] at rT;subst rT
     have nZ:(r8 g.iK (c.j3 B.m ⟨cw WC 0 .nil,U,ga⟩)).bl.length=c.dB.length:=by simp_all [CS.fits]
     have Ao: ∀i,i<B.m->i<c.dB.length:=fun i hi=>by rw [<- nZ]; exact (E6 q2' i hi).1
     have Ak: ∀i,i<B.m->∃o,c.st.h.get i=some o:=by
      intro i hi;have JS:=Ao i hi;refine⟨c.dB[i],?_⟩;show (pj c.dB 0 .nil).get i=_
      grind [jZ]
     have hfp: ∀b,B.fp b->¬(E1.ic (r8 g.iK (c.j3 B.m ⟨cw WC 0 .nil,U,ga⟩))).ro b:=by
      rintro b ⟨i,hi,rfl⟩ hb;obtain⟨o,ho⟩:=Ak i hi;have:=(t1.fit.live i o ho).2.2;rw [(t1.inx i hi).2.1] at this
      grind
     refine⟨us,i,c,E1.ic (r8 g.iK (c.j3 B.m ⟨cw WC 0 .nil,U,ga⟩)),rfl,t.Oa,by simpa using q1,by simp [V.den],by simp [wy,uf],fun a x ha=>?_,by rw [<- q3,g2.length],t1.fit,t1.ro,fun b hb=>?_,fun i hi=> ⟨Ao i hi,t1.inx i hi⟩,fun id o ho hid=>?_⟩
     ·simp only [aN,bp,aZ] at ha;obtain⟨e,he,rfl⟩:=ha;show (r8 g.iK (c.j3 B.m ⟨cw WC 0 .nil,U,ga⟩)).env E1.ρ a=_
      grind [Ren.env,du]
     ·rcases t1.sR b hb with h|h|h
      all_goals grind
     ·rcases t1.own id o ho with h|⟨i,hi,he⟩
      ·exact h
      ·obtain⟨o',Ai⟩:=Ak i hi;rw [<- (t1.inx i hi).2.1] at he;have:=t1.fit.inj i id o' o Ai ho he;omega
    exact⟨Ut us,kP,by rw [BR]; exact hq⟩
 unfold ZL at h
 cases e with
 |exit id=>simp [T.leaf] at h
 |normal=>exact⟨W,key rfl h⟩
 |ret=>exact⟨W,key rfl h⟩
theorem GK {P:Program} {Q:Exit->Act->World->Prop} {e:Ex} {a:Act} {w:World} (h:Q (yx e) a w):Exit.noGoto Q (yx e) a w:=by cases e<;>exact h
theorem lM.view [bK] {E E':En} {s:St} {a:Act} {w:World} {h':Hp} {ef:List (SB×Bool)} (hm:B.m=0) (t:lM B E s a w) (v:View E s.h w E' h') (hp:bY E.ρ ef):lM B E' { s with h:=h',pc:=ef } a w:=by
 have hold: ∀b,abN E s.h b->B.w0.heap.size<=b:=by
  rintro b (⟨id,o,U,Z⟩|⟨x,U⟩)
  ·rcases t.own id o U with h|⟨i,hi,_⟩
   ·rw [Z] at h; exact h
   ·omega
  ·exact t.ud b x U
 refine⟨⟨v.rel.fresh,v.rel.res,v.rel.live,v.rel.inj,v.rel.su,fun i x hi=>?_,by rw [v.kp.ρ]; exact hp,v.rel.hid⟩,fun b hb=>v.kp.ro b (t.ro b hb),fun b hb=>?_,t.Oa,fun id o ho=> .inl (hold _ (v.hold _ (.inl ⟨id,o,ho,rfl⟩))),fun i hi=>by omega,fun b x hb=>hold _ (v.hold _ (.inr ⟨x,hb⟩))⟩
 ·obtain⟨u,U,Z⟩:=t.fit.sr i x hi;exact⟨u,U,VR.cx v.kp _ _ Z⟩
 ·rcases v.sR b hb with h|h
  ·exact t.sR b h
  ·exact .inr (.inl (hold b h))
def tz [bK] {α:Type} (B:mY) (a:Act) (w:World) (f:St->(St->T α)->T α):Prop:= ∀(k:St->T α) (E:En) (s:St) (x:α),lM B E s a w->bK.ok E.ρ E.ro w.heap->(f s k).leaf E.ρ=some x->∃E' s',E'.ρ=E.ρ/\lM B E' s' a w/\bK.ok E'.ρ E'.ro w.heap/\(k s').leaf E.ρ=some x
theorem Ua [bK] {α:Type} {a:Act} {w:World} (hm:B.m=0) (id:Nat) (y:V):tz (α:=α) B a w (aa4 id y):=by intro k E s x t hg h;obtain⟨h',ef,E',hp,v,g⟩:=aa3 rfl (t.fit.fit hg).rel t.fit.pc h;exact⟨E',_,v.kp.ρ,t.view hm v hp,v.rel.kj,g⟩
theorem T8 [bK] {α:Type} {a:Act} {w:World} (hm:B.m=0) (id:Nat):tz (α:=α) B a w (aay id):=by intro k E s x t hg h;obtain⟨h',ef,E',hp,v,g⟩:=aax rfl (t.fit.fit hg).rel t.fit.pc h;exact⟨E',_,v.kp.ρ,t.view hm v hp,v.rel.kj,g⟩
theorem sE [bK] {α:Type} {a:Act} {w:World}:tz (α:=α) B a w (fun s k=>k s):=fun _ E s _ t hg h=> ⟨E,s,rfl,t,hg,h⟩
theorem tz.then [bK] {α:Type} {a:Act} {w:World} {f f':St->(St->T α)->T α} (U:tz B a w f) (Z:tz B a w f'):tz B a w (fun s k=>f s fun s=>f' s k):=by intro k E s x t hg h;obtain⟨E1,s1,e1,t1,g1,q1⟩:=U _ E s x t hg h;rw [<- e1] at q1;obtain⟨E2,s2,e2,t2,g2,q2⟩:=Z _ E1 s1 x t1 g1 q1;exact⟨E2,s2,e2.trans e1,t2,g2,by rw [<- e1]; exact q2⟩
theorem yy [bK] {α:Type} {a:Act} {w:World} (hm:B.m=0) (y:V): ∀l:List Nat,tz (α:=α) B a w (J9 y l)
 |[]=>sE
 |i::l=>(Ua hm i y).then (yy hm y l)
theorem D9 [bK] {α:Type} {a:Act} {w:World} (hm:B.m=0): ∀l:List Nat,tz (α:=α) B a w (OU l)
 |[]=>sE
 |i::l=>(T8 hm i).then (D9 hm l)
theorem T9 [bK] {α:Type} {a:Act} {w:World} (i:Nat):tz (α:=α) B a w (agd i):=by
 intro k E s x t hg h;unfold agd at h;split at h
 ·rename_i v hv;have fit:=t.fit.fit hg;obtain⟨v',h',ef,E',hp,f,hfr,g⟩:=J3 rfl fit.rel fit.pc h;refine⟨E',_,f.ρ,t.step f.dY ⟨f.rel,fun j y hj=>?_,by rw [f.ρ]; exact hp⟩,f.rel.kj,g⟩;obtain⟨u,hu,hvu⟩:=fit.sr i v hv;simp only [Tr.bU] at hj;split at hj
  ·rename_i he;subst he;simp only [aq] at hj;subst hj;exact⟨u,hu,hfr u hvu⟩
  ·exact SR.cx (f.dY.keeps fit.rel) fit.sr j y hj
 ·exact⟨E,s,rfl,t,hg,h⟩
theorem Eb [bK] {α:Type} {a:Act} {w:World} (hm:B.m=0) (r:Nat): ∀l:List FH,tz (α:=α) B a w (GR r l)
 |[]=>sE
 |h0::l=>by
  have ih:=Eb (α:=α) (a:=a) (w:=w) hm r l;intro k E s x t hg h;simp only [GR] at h;split at h
  ·exact ih k E s x t hg h
  ·split at h
   ·split at h
    ·exact ((T9 _).then ih) k E s x t hg h
    ·exact ih k E s x t hg h
   ·split at h
    ·exact ((yy hm _ _).then ih) k E s x t hg h
    ·split at h
     ·exact ih k E s x t hg h
     ·obtain⟨ef,fU,U⟩:=cI t.fit.pc h;split at U
      ·exact ((yy hm _ _).then ih) k E _ x (t.pc fU) hg U
      ·exact ih k E _ x (t.pc fU) hg U
theorem Fv {g:uU} (h:Iq g=true):g.ej= []/\g.pP= []:=by
 unfold Iq at h;split at h
 ·simp at h
 ·split at h
  ·rename_i U;split at h
   ·rename_i Z;exact⟨U,Z⟩
   ·simp at h
  ·simp at h
theorem Oo [bK] {α:Type} {a:Act} {w:World} {g:uU} (hm:g.ej.length=B.m) (c:Code):tz (α:=α) B a w (Va g c):=by
 intro k E s x t hg h;unfold Va at h;split at h
 ·rename_i he;rw [(Fv he).1] at hm;split at h
  ·exact Eb hm.symm _ _ k E s x t hg h
  ·exact sE k E s x t hg h
 ·exact sE k E s x t hg h
theorem Ea [bK] {α:Type} {a:Act} {w:World} {g:uU} (hm:g.ej.length=B.m):tz (α:=α) B a w (UC g):=by
 intro k E s x t hg h;unfold UC at h;split at h
 ·rename_i he;rw [(Fv he).1] at hm;exact D9 hm.symm _ k E s x t hg h
 ·exact sE k E s x t hg h
theorem JY [bK] {g:uU} {rL:Nat->List Oper->Bool} (hg:QZ P g rL) {body:Code} {N:Nat} (W:kJ rL N body=true) {fn:Func} (yQ:g.res=fn.results.toList) (hm:g.ej.length=B.m) (pg:nA g.ko g.ej=true) (K?:g.ko<=900) {F:oZ} {ys:List Int} {fJ:Dm}
 (hj:H_ P body N B (bodyPost P fn (QX B g.lZ g.ej g.ko g.pP ys)) F ys fJ): ∀n:Nat,
 (∀p c fr s lf E a w,pI body p=some (c,fr)->(xO g fJ n p c fr s).leaf E.ρ=some lf->NV F E.ρ ys lf->lM B E s a w->bK.ok E.ρ E.ro w.heap->N<=a.tmps.size->a.defers= []->c.wp P (KE P (bodyPost P fn (QX B g.lZ g.ej g.ko g.pP ys)) fr) a w)/\
 (∀fr e s lf E a w,Gv body fr->(uo g fJ n fr e s).leaf E.ρ=some lf->NV F E.ρ ys lf->lM B E s a w->bK.ok E.ρ E.ro w.heap->N<=a.tmps.size->a.defers= []->KE P (bodyPost P fn (QX B g.lZ g.ej g.ko g.pP ys)) fr (yx e) a w)
 |0=> ⟨fun _ _ _ _ _ _ _ _ _ h=>by simp [xO,T.leaf] at h,fun _ _ _ _ _ _ _ _ h=>by simp [uo,T.leaf] at h⟩
 |n+1=>by
  obtain⟨VV,Gy⟩:=JY hg W yQ hm pg K? hj n
  have leaf: ∀p c fr s lf E a w,pI body p=some (c,fr)->(Va g c s fun s=>(g.ev c s).bind fun (e,s')=>uo g fJ n fr e s').leaf E.ρ=some lf->NV F E.ρ ys lf->lM B E s a w->bK.ok E.ρ E.ro w.heap->N<=a.tmps.size->a.defers= []->c.wp P (KE P (bodyPost P fn (QX B g.lZ g.ej g.ko g.pP ys)) fr) a w:=by intro p c fr s lf E0 a w Y h rT t pS hN DJ;obtain⟨E,s,hE,t,pS,h⟩:=Oo hm c _ E0 s lf t pS h;rw [<- hE] at h rT;obtain⟨⟨e,s'⟩,U,Z⟩:=T.fL h;refine wp_mono (lJ hg.tt hg.call hg.draw c (tn W p Y) E s s' e a w hN (t.fit.fit pS) U) fun x a' w' ⟨hx,ht⟩=>?_;subst hx;obtain⟨E',t',hρ,hg'⟩:=t.then ht;exact Gy fr e s' lf E' a' w' (xf p Y) (by rw [hρ]; exact Z) (by rw [hρ]; exact rT) t' hg' (by rw [ht.size]; exact hN) (by rw [ht.defers,DJ])
  constructor
  ·intro p c fr s lf E a w Y h rT t pS hN DJ;simp only [xO] at h;split at h
   ·rename_i l MC;obtain⟨E1,s1,hE,t,pS,h⟩:=Ea hm _ E s lf t pS h;rw [<- hE] at h rT;obtain⟨b,Zu,vy,_⟩:=hj p l MC;rw [Y] at vy;simp only [aq,au] at vy;obtain⟨rfl,rfl⟩:=vy;obtain⟨s',t',h'⟩:=xC h t;exact O4 (xh hj MC Y (fun _ hx=>hx) (by rw [<- hm]; exact h') rT t' pS hN DJ)
   ·cases c with
    |seq x y=> simp only at h;refine wp_seq ?_;exact VV (0::p) x (.seq (1::p) y::fr) s lf E a w (by simp only [pI,Y]) h rT t pS hN DJ
    |block id b=> simp only at h;refine wp_block ?_;exact VV (0::p) b (.block id::fr) s lf E a w (by simp only [pI,Y]) h rT t pS hN DJ
    |scope b=> simp only at h;refine wp_scope_straight ?_;exact VV (0::p) b (.scope::fr) s lf E a w (by simp only [pI,Y]) h rT t pS hN DJ
    |cond v x y=>
     simp only at h;split at h
     ·rename_i c hv;obtain⟨ef,fU,U⟩:=cI t.fit.pc h;have hvr:=gF t.fit.sr hv;simp only [VR] at hvr;refine wp_cond hvr ?_
      cases Su:c.den E.ρ with
      |true=> rw [Su] at U;simp only at U;exact VV (0::p) x fr _ lf E a w (by simp only [pI,Y]) U rT (t.pc fU) pS hN DJ
      |false=> rw [Su] at U;simp only at U;exact VV (1::p) y fr _ lf E a w (by simp only [pI,Y]) U rT (t.pc fU) pS hN DJ
     grind [T.leaf]
    |_=>simp only at h; exact leaf p _ fr s lf E a w Y h rT t pS hN DJ
  ·intro fr e s lf E a w hf h rT t pS hN DJ
   cases fr with
   |nil=> simp only [uo] at h;exact abe hg yQ hm pg K? h rT t pS DJ
   |cons f fr=>
    cases f with
    |seq p c=>
     simp only [uo] at h;obtain⟨Y,Pn⟩:=hf
     cases e with
     |normal=>exact VV p c fr s lf E a w Y h rT t pS hN DJ
     |exit id=>exact Gy fr (.exit id) s lf E a w Pn h rT t pS hN DJ
     |ret=>exact Gy fr .ret s lf E a w Pn h rT t pS hN DJ
    |block id=>
     simp only [uo] at h;have Pn:Gv body fr:=hf
     cases e with
     |normal=>exact Gy fr .normal s lf E a w Pn h rT t pS hN DJ
     |ret=>exact Gy fr .ret s lf E a w Pn h rT t pS hN DJ
     |exit j=>
      simp only at h;show (if j=id then _ else _);split at h
      ·rename_i Zb;rw [an (aA Zb)];exact Gy fr .normal s lf E a w Pn h rT t pS hN DJ
      ·rename_i Zb;rw [ak (anR Zb)];exact Gy fr (.exit j) s lf E a w Pn h rT t pS hN DJ
    |loop p b=>
     simp only [uo] at h;obtain⟨Y,Pn⟩:=hf
     cases e with
     |normal=>
      simp only at h;split at h
      ·rename_i l MC;obtain⟨E1,s1,hE,t,pS,h⟩:=Ea hm _ E s lf t pS h;rw [<- hE] at h rT;obtain⟨s',t',h'⟩:=xC h t;exact xh hj MC Y (fun _ hx=>hx) (by rw [<- hm]; exact h') rT t' pS hN DJ
      grind [T.leaf]
     |exit id=>exact Gy fr (.exit id) s lf E a w Pn h rT t pS hN DJ
     |ret=>exact Gy fr .ret s lf E a w Pn h rT t pS hN DJ
    |scope=> simp only [uo] at h;exact GK (P:=P) (Gy fr e s lf E a w hf h rT t pS hN DJ)
end
end Go.As
end
section
namespace Go.As
open Go.RowKit
def Ren.bS (r:Ren):List (AV×AV×Nat)->List (AV×AV×Nat)
 |[]=>[]
 |(k,v,n)::l=>(r.av k,r.av v,n)::r.bS l
def Ren.ovs (r:Ren):List (V×List AV)->List (V×List AV)
 |[]=>[]
 |(i,cs)::l=>(r.se i,r.Dj cs)::r.ovs l
def Ren.ob (r:Ren):dO->dO
 | .cells cs e=> .cells (r.Dj cs) e
 | .map es n=> .map (r.bS es) n
 | .kS s p=> .kS s p
 | .vec e t ty ov=> .vec (r.se e) t ty (r.ovs ov)
 | .kO e t=> .kO (r.se e) t
 | .uC e t fw ov=> .uC e t fw ov
noncomputable def kU (r:Ren):List dO->Nat->Hp->Hp
 |[],_,h=>h
 |o::os,i,h=>kU r os (i+1) (h.put (r.id i) (r.ob o))
def HJ (r:Ren):Bool:=r.sh.all fun i=>Nat.beq i 0
def Rx (r:V) (n:Nat):List V:=(List.range n).map (pA r)
noncomputable def Y0 (j:Nat) (c:CS) (lZ:List RK) (ej:List dO) (ko:Nat):List AV->St->T (AV×St):=fun args s=>
 match Nat.beq args.length c.bG.length&&c.fits I! ⟨cw args 0 .nil,s.h,s.pc⟩ (c.lR ⟨cw args 0 .nil,s.h,s.pc⟩)&&HJ (c.lR ⟨cw args 0 .nil,s.h,s.pc⟩) with
 |true=>kB s (.eq (.ap (2*j) (gy (c.lR ⟨cw args 0 .nil,s.h,s.pc⟩).ns)) (.lit 1)) fun s' b=>match b with
  |true=> .ret (match qj lZ (pA (.ap (2*j+1) (gy (c.lR ⟨cw args 0 .nil,s.h,s.pc⟩).ns))) ko with |[v]=>v|vs=> .tuple vs,
   { s' with h:=kU ⟨Rx (.ap (2*j+1) (gy (c.lR ⟨cw args 0 .nil,s.h,s.pc⟩).ns)) ko,(c.lR ⟨cw args 0 .nil,s.h,s.pc⟩).bl,[]⟩ ej 0 s'.h })
  |false=> .fail
 |false=> .fail
noncomputable def ajB (s:St) (t c:Nat):V:=match s.bG.get t with
 |some v=>match v with
  | .int _ e=>e
  | .agg cs=>match fy cs c with
    |some v=>match v with
     | .int _ e=>e
     |_=> .lit 0
    |none=> .lit 0
  |_=> .lit 0
 |none=> .lit 0
noncomputable def Zo (s:St):List (Nat×Nat)->List V->List V
 |[],ns=>ns
 |_::_,[]=>[]
 |(t,c)::l,_::ns=>ajB s t c::Zo s l ns
noncomputable def M_ (s:St) (gh:List (Nat×Nat)) (r:Ren):Ren:={ r with ns:=Zo s gh r.ns }
noncomputable def ajA (s:St) (gh:List (Nat×Nat)):Option V:=match gh with
 |(t,c)::_=>some (ajB s t c)
 |[]=>none
noncomputable def sg (q:V) (iK:Nat) (ns:List V) (c:CS) (bl:List Nat) (s:St):Ren:=⟨(List.range c.k).map fun a=>match Nat.blt a iK with |true=>(match fy ns a with |some e=>e|none=> .lit 0)|false=>pA q (a+1),(List.range c.dB.length).map fun i=>match fy bl i with |some j=>j|none=>s.h.next+(i-bl.length),[]⟩
noncomputable def Zn (g n:V) (s:St) (k:St->T (AV×St)):T (AV×St):=kB s (iP g (.lit 0)) fun s b=>match b with
 |true=>k s
 |false=>kB s (iP g n) fun s b=>match b with
  |true=> .fail
  |false=>k s
noncomputable def ghT (q:V) (iK:Nat) (ns:List V) (g:Option V) (c:CS) (bl:List Nat) (s:St) (k:St->T (AV×St)):T (AV×St):=match g with
 |none=>k s
 |some g=>match c.m with
  | .dD _=>k s
  |_=>match c.bG with
   |[]=>k s
   |(_,v)::_=>match v with
    | .qc _ n _=>Zn g ((sg q iK ns c bl s).se n) s k
    |_=>k s
noncomputable def z? (q:V) (iK:Nat) (ns:List V) (g:Option V) (bl:List Nat):List CS->Nat->St->T (AV×St)
 |[],_,_=> .fail
 |c::l,i,s=>kB s (rO (pA q 0) (.lit (Int.ofNat i))) fun s b=>match b with
  |true=>ghT q iK ns g c bl s fun s=> .ret (BE ((sg q iK ns c bl s).Dj (c.bG.map fun p=>p.2)),
   { s with h:=⟨(kU (sg q iK ns c bl s) c.dB 0 s.h).m,s.h.next+(c.dB.length-bl.length),s.h.res⟩ })
  |false=>z? q iK ns g bl l (i+1) s
noncomputable def Sn (j iK:Nat) (c:CS) (gh:List (Nat×Nat)) (pP:List CS):List AV->St->T (AV×St):=fun args s=>
 match Nat.beq args.length c.bG.length&&c.fits I! ⟨cw args 0 .nil,s.h,s.pc⟩ (M_ s gh (c.lR ⟨cw args 0 .nil,s.h,s.pc⟩))&&HJ (M_ s gh (c.lR ⟨cw args 0 .nil,s.h,s.pc⟩)) with
 |true=>kB s (.eq (.ap (2*j) (gy (M_ s gh (c.lR ⟨cw args 0 .nil,s.h,s.pc⟩)).ns)) (.lit 1)) fun s' b=>match b with
  |true=>z? (.ap (2*j+1) (gy (M_ s gh (c.lR ⟨cw args 0 .nil,s.h,s.pc⟩)).ns)) iK (M_ s gh (c.lR ⟨cw args 0 .nil,s.h,s.pc⟩)).ns (ajA s gh) (M_ s gh (c.lR ⟨cw args 0 .nil,s.h,s.pc⟩)).bl pP 0 s'
  |false=> .fail
 |false=> .fail
section
variable {Eo E2:En} {r:Ren} {h:Array Obj} (Y:r.ns.length<=900) (zk:r.sh= []) (hρ:Eo.ρ=r.env E2.ρ) (hid: ∀i,Eo.dm i->E2.dm (r.id i)/\E2.θ (r.id i)=Eo.θ i/\E2.κ (r.id i)=Eo.κ i) (l7:Eo.ro=E2.ro)
include Y zk hρ hid l7
theorem XR (i:Nat):r.vp i=0:=by unfold Ren.vp; rw [zk]; rfl
theorem eY.back {id off len:Nat} {a:Addr} {cap:Nat} {c:NZ} (W:Eo.dm id) (hc:eY Eo id off len a cap c):eY E2 (r.id id) off len a cap c:=by simp_all [eY]
mutual
theorem VR.back: ∀(x:AV) (u:Value),VR Eo h x u->VR E2 h (r.av x) u
 | .bool b,u,hv=>by simp only [VR,Ren.av] at *; rw [Ren.By Y,<- hρ]; exact hv
 | .int _ e,u,hv=>by simp only [VR,Ren.av] at *; rw [Ren.ep Y,<- hρ]; exact hv
 | .str s,u,hv=>by simp only [VR,Ren.av] at *; exact hv
 | .ptr id off,u,hv=>by
   simp only [VR,Ren.av,XR Y zk hρ hid l7,aL] at *
   grind
 | .vt,u,hv=>by simp only [VR,Ren.av] at *; exact hv
 | .nX cs,u,hv=>by simp only [VR,Ren.av] at *;obtain⟨b,o,us,U,Z,h3,h4,h5⟩:=hv;exact⟨b,o,us,U,by rw [<- l7]; exact Z,cC.back cs us h3,h4,h5⟩
 | .slice id off len c,u,hv=>by simp only [VR,Ren.av,XR Y zk hρ hid l7,aL] at *;obtain⟨U,a,cap,Z,h3,h4⟩:=hv;exact⟨(hid id U).1,a,cap,Z,h3,eY.back Y zk hρ hid l7 U h4⟩
 | .gN,u,hv=>by simp only [VR,Ren.av] at *; exact hv
 | .ro cs n full,u,hv=>by simp only [VR,Ren.av] at *;obtain⟨b,o,cap,us,U,Z,h3,h4,h5,h6,h7⟩:=hv;exact⟨b,o,cap,us,U,Z,h3,by rw [<- l7]; exact h4,cC.back cs us h5,h6,h7⟩
 | .map id,u,hv=>by
   simp only [VR,Ren.av] at *
   grind
 | .tO,u,hv=>by simp only [VR,Ren.av] at *; exact hv
 | .func fn fs cs,u,hv=>by simp only [VR,Ren.av] at *;obtain⟨us,ws,U,Z,h3⟩:=hv;exact⟨us,ws,U,cC.back fs us Z,cC.back cs ws h3⟩
 | .xK,u,hv=>by simp only [VR,Ren.av] at *; exact hv
 | .iface t x,u,hv=>by simp only [VR,Ren.av] at *;obtain⟨y,U,Z⟩:=hv;exact⟨y,U,VR.back x y Z⟩
 | .yH,u,hv=>by simp only [VR,Ren.av] at *; exact hv
 | .agg cs,u,hv=>by simp only [VR,Ren.av] at *;obtain⟨us,U,Z⟩:=hv;exact⟨us,U,cC.back cs us Z⟩
 | .tuple cs,u,hv=>by simp only [VR,Ren.av] at *;obtain⟨us,U,Z⟩:=hv;exact⟨us,U,cC.back cs us Z⟩
 | .L0 _,u,hv=>by simp only [VR] at hv
 | .ya k ks,u,hv=>by
   simp only [VR,Ren.av] at *;rw [hρ,Ren.mu Y J,l7] at hv;rcases hv with hv|⟨b,o,n,cap,U,Z,h3,h4,h5⟩
   ·grind
   ·refine .inr ⟨b,o,n,cap,U,Z,h3,h4,fun i j kd hi hj=>?_⟩;have:=h5 i j kd hi hj
    first
     |exact this
     |(rw [Ren.mu Y J] at this; exact this)
     |(rw [hρ,Ren.mu Y J] at this; exact this)
 | .emp,u,hv=>by simp only [VR,Ren.av] at *; exact hv
 | .eD e t,u,hv=>by simp only [VR,Ren.av] at *; rw [Ren.ep Y,<- hρ,<- l7]; exact hv
 | .kE e,u,hv=>by simp only [VR,Ren.av] at *; rw [Ren.ep Y,<- hρ,<- l7]; exact hv
 | .qc id n t,u,hv=>by simp only [Ren.av,XR Y zk hρ hid l7];simp only [VR] at *;obtain⟨U,k,a,cap,Z,h3,h4,h5⟩:=hv;exact⟨(hid id U).1,k,a,cap,by rw [Ren.ep Y,<- hρ]; exact Z,h3,h4,eY.back Y zk hρ hid l7 U h5⟩
 | .AR id es i off,u,hv=>by simp only [Ren.av,XR Y zk hρ hid l7];simp only [VR] at *;obtain⟨U,k,Z,h3⟩:=hv;obtain⟨g1,g2,_⟩:=hid id U;exact⟨g1,k,by rw [Ren.ep Y,<- hρ]; exact Z,by rw [g2]; exact h3⟩
 | .any,u,_=>by simp only [VR,Ren.av]
 | .yl z t,u,hv=>by simp only [VR,Ren.av] at *; rw [Ren.ep Y,<- hρ,<- l7]; exact hv
 | .vm id lo n t,u,hv=>by simp only [Ren.av,XR Y zk hρ hid l7];simp only [VR] at *;obtain⟨U,l,k,a,cap,Z,h3,h4,h5,h6⟩:=hv;exact⟨(hid id U).1,l,k,a,cap,by rw [Ren.ep Y,<- hρ]; exact Z,by rw [Ren.ep Y,<- hρ]; exact h3,h4,h5,eY.back Y zk hρ hid l7 U h6⟩
theorem cC.back: ∀(xs:List AV) (us:List Value),cC Eo h xs us->cC E2 h (r.Dj xs) us
 |[],us,hv=>by simp only [cC,Ren.Dj] at *; exact hv
 |x::xs,us,hv=>by simp only [cC,Ren.Dj] at *;obtain⟨u,vs,U,Z,h3⟩:=hv;exact⟨u,vs,U,VR.back x u Z,cC.back xs vs h3⟩
end
theorem e9.back: ∀{es:List (AV×AV×Nat)} {bS:List MapEntry},e9 Eo h es bS->e9 E2 h (r.bS es) bS
 |[],_,hv=>by simp only [e9,Ren.bS] at *; exact hv
 |(k,v,b)::es,bS,hv=>by simp only [e9,Ren.bS] at *;obtain⟨e,rr,U,Z,h3,h4,h5⟩:=hv;exact⟨e,rr,U,VR.back Y zk hρ hid l7 k _ Z,VR.back Y zk hρ hid l7 v _ h3,h4,e9.back h5⟩
theorem EI {i:Nat}: ∀{ov:List (V×List AV)},ed E2.ρ i (r.ovs ov)=(ed Eo.ρ i ov).map r.Dj
 |[]=>rfl
 |(j,cs)::l=>by
  simp only [ed,Ren.ovs];rw [Ren.ep Y,<- hρ,EI]
  grind
theorem yn {row:Row} {ov:List (V×List AV)}: ∀(ds:List D) (i:Nat) {us:List Value},cC Eo h (bH Eo.ρ row ov ds i) us->cC E2 h (bH E2.ρ row (r.ovs ov) ds i) us
 |[],_,us,hv=>by simp only [bH,cC] at *; exact hv
 |d::ds,i,us,hv=>by
  simp only [bH] at *;obtain⟨a,b,rfl,U,Z⟩:=hv.split;refine cC.append ?_ (yn ds (i+1) Z);rw [EI Y zk hρ hid l7]
  cases ho:ed Eo.ρ i ov with
  |none=> rw [ho] at U;simp only [Option.map_none];rw [gG] at U ⊢;rw [<- l7];exact U
  |some cs=> rw [ho] at U;exact cC.back Y zk hρ hid l7 cs a U
theorem HF {row:Row}: ∀{ov:List (V×List AV)},tN row ov->tN row (r.ovs ov)
 |[],h=>h
 |(i,cs)::l,h=>by
  intro p hp;simp only [Ren.ovs] at hp;rcases aH.1 hp with rfl|hp
  ·simp only [qN]; exact h (i,cs) ae
  ·exact HF (fun q hq=>h q (by simp [hq])) p hp
theorem OR.back {id:Nat} {o:dO} (hn:nf o=true) (W:Eo.dm id) (ho:OR Eo h id o):OR E2 h (r.id id) (r.ob o):=by
 obtain⟨_,Z,h3⟩:=hid id W
 cases o with
 |uC e t fw ov=>simp [nf] at hn
 |cells cs e=> simp only [OR,Ren.ob] at *;obtain⟨arr,lo,hi,us,q1,q2,q3,q4,q5,q6,q7⟩:=ho;rw [Z,h3];exact⟨arr,lo,hi,us,q1,cC.back Y zk hρ hid l7 cs us q2,q3,by rw [qN]; exact q4,q5,q6,q7⟩
 |map es c=>
  grind [OR,Ren.ob,e9.back]
 |kS s p=>simp only [OR,Ren.ob] at *; rw [Z]; exact ho
 |kO e t=>
  grind [OR,Ren.ob,Ren.ep]
 |vec e t ty ov=>
  simp only [OR,Ren.ob] at *;obtain⟨⟨q0,qw⟩,arr,lo,hi,us,q1,q2,q3,q4,q5,q6,q7⟩:=ho;have he:(r.se e).den E2.ρ=e.den Eo.ρ:=by rw [Ren.ep Y,<- hρ]
  have q0':=HF Y zk hρ hid l7 q0;rw [Z,h3,he];refine⟨⟨q0',qw⟩,arr,lo,hi,us,q1,yn Y zk hρ hid l7 _ _ q2,q3,?_,q5,q6,q7⟩
  grind [cE]
end
theorem yC {r:Ren}: ∀{os:List dO} {i:Nat} {h:Hp},(∀a b,i<=a->a<i+os.length->i<=b->b<i+os.length->r.id a=r.id b->a=b)->
 (∀k o,os[k]?=some o->(kU r os i h).get (r.id (i+k))=some (r.ob o))/\(∀id,(∀k,k<os.length->r.id (i+k)≠id)->(kU r os i h).get id=h.get id)/\(kU r os i h).next=h.next/\(kU r os i h).res=h.res
 |[],i,h,_=> ⟨fun k o hk=>by simp at hk,fun _ _=>rfl,rfl,rfl⟩
 |o::os,i,h,Mz=>by
  obtain⟨U,Z,h3,h4⟩:=yC (r:=r) (os:=os) (i:=i+1) (h:=h.put (r.id i) (r.ob o)) fun a b U Z h3 h4=>Mz a b J (by simp only [aR]; omega) J (by simp only [aR]; omega);refine⟨fun k x hk=>?_,fun id hn=>?_,h3,h4⟩
  ·cases k with
   |zero=>
    simp at hk;subst hk;simp only [kU];show (kU r os (i+1) (h.put (r.id i) (r.ob o))).get (r.id i)=some (r.ob o)
    grind [Hp.bU]
   |succ k=>
    grind [kU]
  ·simp only [kU];rw [Z id fun k hk=>?_,Hp.bU,ak ?_]
   ·have:=hn 0 ae
    grind
   grind
theorem yd (c:CS) (s:St):(c.lR s).ns.length=c.k:=by
 grind [CS.lR,ot]
section
variable {P:Program}
def aef (P:Program) (GB:(Nat->Prop)->Array Obj->Prop) (g:FuncId) (c:CS) (lZ:List RK) (ej:List dO) (ko:Nat) (f:List Int->Option (List Int)):Prop:=
 ∀xs ys,f xs=some ys->∀(E:En) (w:World) (vals:List Value),(∀i x,xs[i]?=some x->E.ρ i=x)->xs.length=c.k->wP E c.st { tmps:=vals.toArray,defers:=[] } w->GB E.ro w.heap->
  Calls P g vals.toArray w (QE ⟨w,E.ro,c.dB.length,E.θ,E.κ⟩ lZ ej ko ys)
theorem YZ [bK] {GB:(Nat->Prop)->Array Obj->Prop} (MB: ∀ρ ro h,bK.ok ρ ro h->GB ro h) {F:oZ} (MA: ∀ρ ro h,bK.ok ρ ro h->Good F ρ) {g:FuncId} {j:Nat} {c:CS} {lZ:List RK} {ej:List dO} {ko:Nat} (pg:nA ko ej=true) (K?:ko<=900) (hom:ej.length=c.dB.length)
 (hs:aef P GB g c lZ ej ko (F j)) (kP: ∀(args:Array Value) (w:World),(callFunc g args).run P w= .ok (.enter g args) w):kQ P g (Y0 j c lZ ej ko):=by
 intro amV s E w vals v s' r hv hp Y;unfold Y0 at Y;split at Y
 ·rename_i jS;simp only [aw] at jS;obtain⟨⟨_,Pm⟩,JR⟩:=jS;have hlen:=yd c ⟨cw amV 0 .nil,s.h,s.pc⟩;generalize hr:c.lR ⟨cw amV 0 .nil,s.h,s.pc⟩ = rn at Y Pm JR hlen
  have f0:Fit E ⟨cw amV 0 .nil,s.h,s.pc⟩ { tmps:=vals.toArray,defers:=[] } w:=by refine⟨r,?_,hp⟩;have:=Ae hv 0;simpa using this
  obtain⟨hle,f1,ho⟩:=Ay OS f0 Pm;obtain⟨ga,fS,q1⟩:=cI hp Y;split at q1
  ·rename_i ht;have hg:=MA _ _ _ r.kj;have hg1:=(hg j (rn.ns.map (V.den E.ρ))).1;have hg2:=(hg j (rn.ns.map (V.den E.ρ))).2;simp only [SB.den,V.den,jR,hg1,beq_iff_eq] at ht
   have CO:(F j (rn.ns.map (V.den E.ρ))).isSome=true:=by
    cases hh:(F j (rn.ns.map (V.den E.ρ))).isSome with
    |true=>rfl
    |false=>rw [hh] at ht; simp at ht
   obtain⟨ys,H4⟩:=ant.1 CO
   have UX:(V.ap (2*j+1) (gy rn.ns)).den E.ρ=mZ ys:=by show E.ρ _=_;rw [jR,hg2,H4];rfl
   have:=bF q1;simp only [au] at this;obtain⟨rfl,rfl⟩:=this;refine⟨rfl,fS,?_⟩;unfold mz oY;rw [kP]
   have nM: ∀i x,(rn.ns.map (V.den E.ρ))[i]?=some x->(E.ic rn).ρ i=x:=by intro i x hi;rw [bp,aZ] at hi;obtain⟨e,he,rfl⟩:=hi;show rn.env E.ρ i=_;unfold Ren.env;rw [du,he]
   refine Calls.mono (hs _ ys H4 (E.ic rn) w vals nM (by simpa using hlen) f1.x (MB _ _ _ f1.rel.kj)) fun e w' ⟨u,he,hb,oh,k1,k2,k3,k4,k5,k6⟩=> ⟨u,he,?_⟩;have tX:=Pm;unfold CS.fits at tX;simp only [aw] at tX;obtain⟨⟨⟨⟨⟨_,nZ⟩,afM⟩,_⟩,UZ⟩,_⟩:=tX;have nZ:=aA nZ
   have UU: ∀i,rn.vp i=0:=by
    intro i;unfold Ren.vp;split
    ·rename_i x hx;rw [du] at hx;unfold HJ at JR;rw [bh] at JR;exact aA (JR x (amW hx))
    ·rfl
   have ud: ∀i,i<c.dB.length->∃o,s.h.get (rn.id i)=some o:=by intro i hi;obtain⟨o',g1,_⟩:=jr UZ (aW hi);rw [aL] at g1;exact⟨o',g1⟩
   have Mz: ∀a b,a<c.dB.length->b<c.dB.length->rn.id a=rn.id b->a=b:=by
    intro a b ha hb he;have hla:a<rn.bl.length:=J
    have hlb:b<rn.bl.length:=J
    unfold Ren.id at he;rw [du,du,aW hla,aW hlb] at he;simp only at he;exact pM afM (i:=a) (j:=b) (x:=rn.bl[a]) (by rw [du,aW hla]) (by rw [du,aW hlb,he])
   generalize hR:(⟨Rx (.ap (2*j+1) (gy rn.ns)) ko,rn.bl,[]⟩ : Ren)=R;have JW: ∀i,R.id i=rn.id i:=by intro i; rw [<- hR]; rfl
   have hRl:R.ns.length=ko:=by rw [<- hR]; simp [Rx]
   obtain⟨p1,p2,p3,p4⟩:=yC (r:=R) (os:=ej) (i:=0) (h:=s.h) fun a b _ Z _ h4 he=>by rw [JW,JW] at he;exact Mz a b J J he
   have hfp: ∀b,(mY.mk w (E.ic rn).ro c.dB.length (E.ic rn).θ (E.ic rn).κ).fp b->∃id o,s.h.get id=some o/\(E.θ id).1=b:=by rintro b ⟨i,hi,he⟩;obtain⟨o,U⟩:=ud i hi;exact⟨_,o,U,he⟩
   have aaT: ∀b,E.ro b->w'.heap[b]?=w.heap[b]?:=by intro b JU;refine hb.nH b (r.su b JU) fun hf=>?_;obtain⟨id,o,U,Z⟩:=hfp b hf;exact (r.live id o U).2.2 (by rw [Z]; exact JU)
   have uZ:fY E w.heap { E with ro:=oh } w'.heap:=⟨rfl,fun _ h=>h,fun _ _=>rfl,fun _ _=>rfl,k1,aaT⟩
   have Pf: ∀id o,(kU R ej 0 s.h).get id=some o->∃o',s.h.get id=some o':=by
    intro id o hg;by_cases hex: ∃k,k<ej.length/\R.id (0+k)=id
    ·obtain⟨k,hk,rfl⟩:=hex;rw [aL,JW];exact ud k J
    ·rw [p2 id fun k hk he=>hex ⟨k,hk,he⟩] at hg;exact⟨o,hg⟩
   have vo:fq E s.h w { E with ro:=oh } (kU R ej 0 s.h) w':=by
    refine⟨rfl,fun _ h=>h,fun _ _=>rfl,fun _ _=>rfl,k1,fun b JU=>(k2 b JU).imp id .inr,by rw [p3]; exact az _,by rw [p4]; exact .inr rfl,fun _ h=> .inl h,hb.os,hb.tape,hb.output,hb.size,fun b nZ hn=>hb.nH b nZ fun hf=>?_,fun id o hg _=>?_,rfl⟩
    ·obtain⟨id,o,U,Z⟩:=hfp b hf;exact hn id o U Z
    ·obtain⟨o',U⟩:=Pf id o hg;exact⟨id,o',U,rfl⟩
   have Sy: ∀i,i<ko->R.env E.ρ i=low ys i:=by
    intro i hi;unfold Ren.env low
    have hn:fy R.ns i=some (pA (.ap (2*j+1) (gy rn.ns)) i):=by rw [<- hR,du];simp [Rx,hi]
    rw [hn];simp only;rw [aoh];simp only [pA,V.den,fX.den,bD];have ai6:(V.ap (2*j+1) (gy rn.ns)).den E.ρ=mZ ys:=UX;simp only [V.den] at ai6;rw [ai6];simp only [mZ,bD,D.W,bE,bp];cases ys[i]?<;>rfl
   have r2:bR { E with ro:=oh } (kU R ej 0 s.h) w':=by
    refine⟨fun id hid=>r.fresh id (by rw [<- p3]; exact hid),fun q hq=>by rw [p3]; exact r.res q (by rw [<- p4]; exact hq),fun id o hg=>?_,fun i1 i2 o1 o2 U Z he=>?_,k3,bK.cx r.kj k1 aaT,r.U0 vo.W vo.size vo.sR vo.own⟩
    ·by_cases hex: ∃k,k<ej.length/\R.id (0+k)=id
     ·obtain⟨k,hk,rfl⟩:=hex;rw [aL];have hx:=aW hk;have:=p1 k _ hx;rw [hg] at this;simp only [aq] at this;subst this;obtain⟨o',U⟩:=ud k J;obtain⟨d1,d2,d3⟩:=r.live _ _ U;refine⟨by rw [JW]; exact d1,?_,?_⟩
      ·have ho2:=k5 k _ hx
       have ho3:=OR.low (K:=ko) (E:=(mY.mk w (E.ic rn).ro c.dB.length (E.ic rn).θ (E.ic rn).κ).out ys oh) (E':={ ρ:=R.env E.ρ,θ:=(E.ic rn).θ,κ:=(E.ic rn).κ,dm:=fun i=>i<c.dB.length,ro:=oh })
        (fun i hi=>Sy i hi) rfl rfl rfl rfl (nz pg hx).2 ho2
       refine OR.back (Eo:={ ρ:=R.env E.ρ,θ:=(E.ic rn).θ,κ:=(E.ic rn).κ,dm:=fun i=>i<c.dB.length,ro:=oh }) (E2:={ E with ro:=oh }) (r:=R) (by rw [hRl]; exact K?) (by rw [<- hR]) rfl (fun i hi=>?_) rfl (nz pg hx).1 (show k<c.dB.length by omega) ho3;obtain⟨o2,Z⟩:=ud i hi;refine⟨by rw [JW]; exact (r.live _ _ Z).1,?_,?_⟩
       ·show E.θ (R.id i)=((E.θ (rn.id i)).1,(E.θ (rn.id i)).2+rn.vp i);rw [JW,UU,bx]
       ·show E.κ (R.id i)=E.κ (rn.id i)-rn.vp i;rw [JW,UU,aoM]
      ·rw [JW];exact k4 k (by show k<c.dB.length; omega)
     ·rw [p2 id fun k hk he=>hex ⟨k,hk,he⟩] at hg;obtain⟨d1,d2,d3⟩:=r.live id o hg
      have aaY:w'.heap[(E.θ id).1]?=w.heap[(E.θ id).1]?:=by refine hb.nH _ (gC r hg) ?_;rintro⟨i,hi,he⟩;obtain⟨o',U⟩:=ud i hi;have:=r.inj _ id o' o U hg he;exact hex ⟨i,by show i<ej.length; rw [hom]; exact hi,by rw [aL,JW]; exact this⟩
      refine⟨d1,d2.cx uZ d1 aaY (r.VZ rfl (fun x hx hn=>hb.nH x hx fun hf=>by obtain⟨id,o,U,Z⟩:=hfp x hf; exact hn id o U Z) _),fun hr=>?_⟩;rcases k2 _ hr with hr|hr
      ·exact d3 hr
      ·have gv:(E.θ id).1<w.heap.size:=gC r hg;have U3:w.heap.size<=(E.θ id).1:=hr;omega
    ·obtain⟨a1,b1⟩:=Pf _ _ U;obtain⟨a2,b2⟩:=Pf _ _ Z;exact r.inj _ _ _ _ b1 b2 he
   refine⟨{ E with ro:=oh },vo,r2,?_⟩;obtain⟨us,fl',sh',c1,rfl⟩:=k6
   have hvr:cC { E with ro:=oh } w'.heap (qj lZ (pA (.ap (2*j+1) (gy rn.ns))) ko) us:=by refine sX sh' c1 fun k n hk=>?_;rw [ann] at hk;exact wY (ys:=ys) UX hk
   have:=Dw hvr;unfold BE at this;exact this
  ·simp [T.leaf] at q1
 ·simp [T.leaf] at Y
theorem CR (s:St): ∀(gh:List (Nat×Nat)) (ns:List V),(Zo s gh ns).length=ns.length
 |[],_=>rfl
 |_::_,[]=>rfl
 |(t,c)::l,_::ns=>by simp only [Zo,aR,CR s l ns]
theorem Zm {g n:V} {ρ:Nat->Int} {s:St} {k:St->T (AV×St)} {r:AV×St} (hp:bY ρ s.pc) (h:(Zn g n s k).leaf ρ=some r): ∃pc,bY ρ pc/\(k { s with pc:=pc }).leaf ρ=some r:=by
 unfold Zn at h;obtain⟨ga,fS,U⟩:=cI hp h;split at U
 ·grind
 ·obtain⟨ky,kf,Z⟩:=cI (s:={ s with pc:=ga }) fS U
  grind [T.leaf]
theorem af9 {q:V} {iK:Nat} {ns:List V} {g:Option V} {c:CS} {bl:List Nat} {ρ:Nat->Int} {s:St} {k:St->T (AV×St)} {r:AV×St} (hp:bY ρ s.pc) (h:(ghT q iK ns g c bl s k).leaf ρ=some r): ∃pc,bY ρ pc/\(k { s with pc:=pc }).leaf ρ=some r:=by
 unfold ghT at h;split at h
 ·exact⟨s.pc,hp,h⟩
 ·split at h
  ·exact⟨s.pc,hp,h⟩
  ·split at h
   ·exact⟨s.pc,hp,h⟩
   ·split at h
    ·exact Zm hp h
    ·exact⟨s.pc,hp,h⟩
theorem TB {q:V} {iK:Nat} {ns:List V} {g:Option V} {bl:List Nat} {ρ:Nat->Int} {v:AV} {s':St}: ∀{l:List CS} {k:Nat} {s:St},bY ρ s.pc->(z? q iK ns g bl l k s).leaf ρ=some (v,s')->
 ∃i c ef,l[i-k]?=some c/\k<=i/\(pA q 0).den ρ=(i:Int)/\bY ρ ef/\v=BE ((sg q iK ns c bl s).Dj (c.bG.map fun p=>p.2))/\s'= { s with h:=⟨(kU (sg q iK ns c bl s) c.dB 0 s.h).m,s.h.next+(c.dB.length-bl.length),s.h.res⟩,pc:=ef }
 |[],k,s,_,h=>by simp [z?,T.leaf] at h
 |c::l,k,s,hp,h=>by
  simp only [z?] at h;obtain⟨ef,fU,U⟩:=cI hp h;split at U
  ·rename_i hb;rw [hJ,beq_iff_eq] at hb;obtain⟨ky,kf,Z⟩:=af9 (s:={ s with pc:=ef }) fU U;have:=bF Z;simp only [au] at this;exact⟨k,c,ky,ae,az _,hb,kf,this.1.symm,this.2.symm⟩
  ·obtain⟨i,c',ky,q1,q2,q3,q4,q5,q6⟩:=TB (s:={ s with pc:=ef }) fU U;refine⟨i,c',ky,?_,J,q3,q4,q5,q6⟩
   grind
def yM:List (Nat×AV)->Nat->Bool
 |[],_=>true
 |(t,_)::l,i=>Nat.beq t i&&yM l (i+1)
theorem Cu: ∀{l:List (Nat×AV)} {i t:Nat} {tr:Tr AV},yM l i=true->t<i->(og l tr).get t=tr.get t
 |[],_,_,_,_,_=>rfl
 |(j,v)::l,i,t,tr,h,ht=>by simp only [yM,aw] at h;have hj:=aA h.1;simp only [og];rw [Cu h.2 J,Tr.bU,ak J]
theorem zw: ∀{l:List (Nat×AV)} {i:Nat} {tr:Tr AV},yM l i=true->∀k v,(l.map fun p=>p.2)[k]?=some v->(og l tr).get (i+k)=some v
 |[],_,_,_,k,v,hk=>by simp at hk
 |(j,x)::l,i,tr,h,k,v,hk=>by
  simp only [yM,aw] at h;have hj:=aA h.1;subst hj;simp only [og]
  cases k with
  |zero=>
   grind [Cu,Tr.bU]
  |succ k=>
   have:=zw (tr:=tr.put j (some x)) h.2 k v (by simpa using hk)
   grind
theorem cC.of {E:En} {h:Array Obj}: ∀{vs:List AV} {us:List Value},us.length=vs.length->(∀(k:Nat) (v:AV),vs[k]?=some v->∃u,us[k]?=some u/\VR E h v u)->cC E h vs us
 |[],us,Y,_=>by rw [iG]; exact am5 Y
 |v::vs,[],Y,_=>by simp at Y
 |v::vs,u::us,Y,hh=>by
  rw [bW];refine⟨u,us,rfl,?_,cC.of (by simpa using Y) fun k x hk=>?_⟩
  ·obtain⟨y,U,Z⟩:=hh 0 v rfl
   grind
  ·exact hh (k+1) x (by simpa using hk)
def aee (P:Program) (GB:(Nat->Prop)->Array Obj->Prop) (g:FuncId) (c:CS) (pP:List CS) (f:List Int->Option (List Int)):Prop:=
 ∀xs ys,f xs=some ys->∀(E:En) (w:World) (vals:List Value),(∀i x,xs[i]?=some x->E.ρ i=x)->xs.length=c.k->wP E c.st { tmps:=vals.toArray,defers:=[] } w->GB E.ro w.heap->
  Calls P g vals.toArray w (QR ⟨w,E.ro,c.dB.length,E.θ,E.κ⟩ pP ys)
def Hn:List CS->Bool
 |[]=>true
 |c::l=>wH c.k c&&yM c.bG 0&&Nat.ble c.k 900&&(nfs c.dB&&Hn l)
theorem Hm: ∀{l:List CS},Hn l=true->∀{i:Nat} {c:CS},l[i]?=some c->wH c.k c=true/\yM c.bG 0=true/\c.k<=900/\nfs c.dB=true
 |[],_,i,c,h=>by simp at h
 |c0::l,hs,i,c,h=>by
  simp only [Hn,aw] at hs
  cases i with
  |zero=>simp at h; subst h; exact⟨hs.1.1.1,hs.1.1.2,ane hs.1.2,hs.2.1⟩
  |succ i=>exact Hm hs.2.2 (by simpa using h)
theorem Mt [bK] {GB:(Nat->Prop)->Array Obj->Prop} (MB: ∀ρ ro h,bK.ok ρ ro h->GB ro h) {F:oZ} (MA: ∀ρ ro h,bK.ok ρ ro h->Good F ρ) {g:FuncId} {j:Nat} {c:CS} {gh:List (Nat×Nat)} {iK:Nat} {pP:List CS} (hrp:Hn pP=true) (alA: ∀xs ys,F j xs=some ys->∀a y,a<iK->ys[a+1]?=some y->y=low xs a)
 (hs:aee P GB g c pP (F j)) (kP: ∀(args:Array Value) (w:World),(callFunc g args).run P w= .ok (.enter g args) w):kQ P g (Sn j iK c gh pP):=by
 intro amV s E w vals v s' r hv hp Y;unfold Sn at Y;split at Y
 ·rename_i jS;simp only [aw] at jS;obtain⟨⟨_,Pm⟩,JR⟩:=jS;have hlen:=yd c ⟨cw amV 0 .nil,s.h,s.pc⟩
  have acV:(M_ s gh (c.lR ⟨cw amV 0 .nil,s.h,s.pc⟩)).ns.length=c.k:=by show (Zo s gh _).length=c.k;rw [CR,hlen]
  generalize hr:M_ s gh (c.lR ⟨cw amV 0 .nil,s.h,s.pc⟩)=rn at Y Pm acV JR
  have f0:Fit E ⟨cw amV 0 .nil,s.h,s.pc⟩ { tmps:=vals.toArray,defers:=[] } w:=by refine⟨r,?_,hp⟩;have:=Ae hv 0;simpa using this
  obtain⟨hle,f1,ho⟩:=Ay OS f0 Pm;obtain⟨ga,fS,q1⟩:=cI hp Y;split at q1
  ·rename_i ht;have hg:=MA _ _ _ r.kj;have hg1:=(hg j (rn.ns.map (V.den E.ρ))).1;have hg2:=(hg j (rn.ns.map (V.den E.ρ))).2;simp only [SB.den,V.den,jR,hg1,beq_iff_eq] at ht
   have CO:(F j (rn.ns.map (V.den E.ρ))).isSome=true:=by
    cases hh:(F j (rn.ns.map (V.den E.ρ))).isSome with
    |true=>rfl
    |false=>rw [hh] at ht; simp at ht
   obtain⟨ys,H4⟩:=ant.1 CO
   have UX:(V.ap (2*j+1) (gy rn.ns)).den E.ρ=mZ ys:=by show E.ρ _=_;rw [jR,hg2,H4];rfl
   obtain⟨i,c',ky,a1,_,a3,a4,rfl,rfl⟩:=TB (s:={ s with pc:=ga }) fS q1;rw [aoM] at a1;refine⟨rfl,a4,?_⟩;unfold mz oY;rw [kP]
   have nM: ∀i x,(rn.ns.map (V.den E.ρ))[i]?=some x->(E.ic rn).ρ i=x:=by intro i x hi;rw [bp,aZ] at hi;obtain⟨e,he,rfl⟩:=hi;show rn.env E.ρ i=_;unfold Ren.env;rw [du,he]
   refine Calls.mono (hs _ ys H4 (E.ic rn) w vals nM (by simpa using acV) f1.x (MB _ _ _ f1.rel.kj)) fun e w' ⟨us,i2,c2,E',he,hb,b1,b2,b3,b4,b5,b6,b7,b8,abE,b9⟩=> ⟨Ut us,he,?_⟩
   have hi:i2=i:=by have:=wY UX b2;rw [a3] at this;omega
   subst hi;rw [b1] at a1;simp only [aq] at a1;subst a1;obtain⟨k1,k2,k3,k9⟩:=Hm hrp b1;have tX:=Pm;unfold CS.fits at tX;simp only [aw] at tX;obtain⟨⟨⟨⟨⟨_,nZ⟩,afM⟩,_⟩,UZ⟩,_⟩:=tX;have nZ:=aA nZ
   have UU: ∀i,rn.vp i=0:=by
    intro i;unfold Ren.vp;split
    ·rename_i x hx;rw [du] at hx;unfold HJ at JR;rw [bh] at JR;exact aA (JR x (amW hx))
    ·rfl
   have ud: ∀i,i<c.dB.length->∃o,s.h.get (rn.id i)=some o:=by intro i hi;obtain⟨o',g1,_⟩:=jr UZ (aW hi);rw [aL] at g1;exact⟨o',g1⟩
   have Mz: ∀a b,a<c.dB.length->b<c.dB.length->rn.id a=rn.id b->a=b:=by
    intro a b ha hb he;have hla:a<rn.bl.length:=J
    have hlb:b<rn.bl.length:=J
    unfold Ren.id at he;rw [du,du,aW hla,aW hlb] at he;simp only at he;exact pM afM (i:=a) (j:=b) (x:=rn.bl[a]) (by rw [du,aW hla]) (by rw [du,aW hlb,he])
   have Fg: ∀id,E.dm id->id<s.h.next:=by
    intro id W;rcases bg id s.h.next with h|h
    ·exact h
    ·exact absurd W (r.fresh id h)
   have H8: ∀i,i<c.dB.length->rn.id i<s.h.next:=by intro i hi;obtain⟨o,U⟩:=ud i hi;exact Fg _ (r.live _ _ U).1
   have hθr: ∀i,(E.ic rn).θ i=E.θ (rn.id i):=by intro i;show ((E.θ (rn.id i)).1,(E.θ (rn.id i)).2+rn.vp i)=_;rw [UU,bx]
   have hκr: ∀i,(E.ic rn).κ i=E.κ (rn.id i):=by intro i;show E.κ (rn.id i)-rn.vp i=_;rw [UU,aoM]
   have hm2:c.dB.length<=c2.dB.length:=by
    rcases anC c.dB.length with h|h
    ·omega
    ·have:=(abE (c.dB.length-1) (by show c.dB.length-1<c.dB.length; omega)).1;omega
   have hfp: ∀b,(mY.mk w (E.ic rn).ro c.dB.length (E.ic rn).θ (E.ic rn).κ).fp b->∃id o,s.h.get id=some o/\(E.θ id).1=b:=by rintro b ⟨i,hi,he⟩;obtain⟨o,U⟩:=ud i hi;refine⟨_,o,U,?_⟩;have xm:((E.ic rn).θ i).1=b:=he;rw [hθr] at xm;exact xm
   have aaT: ∀b,E.ro b->w'.heap[b]?=w.heap[b]?:=by intro b JU;refine hb.nH b (r.su b JU) fun hf=>?_;obtain⟨id,o,U,Z⟩:=hfp b hf;exact (r.live id o U).2.2 (by rw [Z]; exact JU)
   generalize hR:sg (.ap (2*j+1) (gy rn.ns)) iK rn.ns c2 rn.bl { s with pc:=ga }=R
   have GQ: ∀i,i<c.dB.length->R.id i=rn.id i:=by
    intro i hi;have hla:i<rn.bl.length:=J
    rw [<- hR];unfold sg Ren.id;simp only [du,bp,an1 (show i<c2.dB.length by omega),am4,aW hla]
   have Pr: ∀i,i<c2.dB.length->c.dB.length<=i->R.id i=s.h.next+(i-c.dB.length):=by
    intro i hi U3;have hla:rn.bl.length<=i:=J
    rw [<- hR];unfold sg Ren.id;simp only [du,bp,an1 hi,am4,anD hla];rw [nZ]
   have aju: ∀a b,a<c2.dB.length->b<c2.dB.length->R.id a=R.id b->a=b:=by
    intro a b ha hb he;rcases bg a c.dB.length with U|U<;>rcases bg b c.dB.length with Z|Z
    ·rw [GQ a U,GQ b Z] at he;exact Mz a b U Z he
    ·rw [GQ a U,Pr b hb Z] at he;have:=H8 a U;omega
    ·rw [Pr a ha U,GQ b Z] at he;have:=H8 b Z;omega
    ·rw [Pr a ha U,Pr b hb Z] at he;omega
   have hRl:R.ns.length=c2.k:=by rw [<- hR]; simp [sg]
   have ajt:R.sh= []:=by rw [<- hR]; rfl
   have Sy: ∀a,a<c2.k->R.env E.ρ a=E'.ρ a:=by
    intro a ha;unfold Ren.env
    have hn:fy R.ns a=some (match Nat.blt a iK with |true=>(match fy rn.ns a with |some e=>e|none=> .lit 0)|false=>pA (.ap (2*j+1) (gy rn.ns)) (a+1)):=by rw [<- hR,du];simp [sg,ha]
    rw [hn];simp only;have hy:ys[a+1]?=some ys[a+1]:=aW J;rw [b4 a _ hy];split
    ·rename_i hb;have gv:a<iK:=Nat.lt_of_succ_le (by simpa [Nat.blt] using hb);rw [alA _ _ H4 a _ gv hy];unfold low;rw [aoh,bp,du];cases rn.ns[a]?<;>rfl
    ·exact wY UX hy
   have alz: ∀id o,c2.st.h.get id=some o->id<c2.dB.length/\c2.dB[id]?=some o:=by
    intro id o ho;have:(pj c2.dB 0 .nil).get id=some o:=ho;rw [jZ] at this;split at this
    ·exact⟨J,this⟩
    ·simp [Tr.get] at this
   have Fc: ∀id o,c2.dB[id]?=some o->c2.st.h.get id=some o:=by intro id o ho;show (pj c2.dB 0 .nil).get id=_;have gv:=(bj.1 ho).1;rw [jZ,an J];exact ho
   have aji: ∀i,E'.dm i->i<c2.dB.length:=by
    intro i W;rcases bg i c2.dB.length with h|h
    ·exact h
    ·exact absurd W (b6.fresh i h)
   obtain⟨p1,p2,p3,p4⟩:=yC (r:=R) (os:=c2.dB) (i:=0) (h:=s.h) fun a b _ Z _ h4 he=>aju a b J J he;generalize hH2:(⟨(kU R c2.dB 0 s.h).m,s.h.next+(c2.dB.length-rn.bl.length),s.h.res⟩ : Hp)=H2;have ajw: ∀id,H2.get id=(kU R c2.dB 0 s.h).get id:=by intro id; rw [<- hH2]; rfl
   have aaZ:H2.next=s.h.next+(c2.dB.length-c.dB.length):=by rw [<- hH2,nZ]
   have ajv:H2.res=s.h.res:=by rw [<- hH2]
   have ali: ∀k o,c2.dB[k]?=some o->H2.get (R.id k)=some (R.ob o):=by intro k o hk;have:=p1 k o hk;rw [aL] at this;rw [ajw]; exact this
   have hold: ∀id,(∀k,k<c2.dB.length->R.id k≠id)->H2.get id=s.h.get id:=by intro id hid;rw [ajw];exact p2 id fun k hk he=>by rw [aL] at he; exact hid k hk he
   have qo: ∀id o,H2.get id=some o->(∃k o',id=R.id k/\c2.dB[k]?=some o'/\o=R.ob o')\/(s.h.get id=some o/\∀k,k<c2.dB.length->R.id k≠id):=by
    intro id o hg;by_cases hex: ∃k,k<c2.dB.length/\R.id k=id
    ·obtain⟨k,hk,rfl⟩:=hex;have hx:=aW hk;have:=ali k _ hx;rw [hg] at this;simp only [aq] at this;exact .inl ⟨k,_,rfl,hx,this⟩
    ·have gb: ∀k,k<c2.dB.length->R.id k≠id:=fun k hk he=>hex ⟨k,hk,he⟩;rw [hold id gb] at hg;exact .inr ⟨hg,gb⟩
   let E2:En:={ ρ:=E.ρ,θ:=fun id=>if id<s.h.next then E.θ id else E'.θ (id-s.h.next+c.dB.length),κ:=fun id=>if id<s.h.next then E.κ id else E'.κ (id-s.h.next+c.dB.length),dm:=fun id=>E.dm id\/(s.h.next<=id/\id<s.h.next+(c2.dB.length-c.dB.length)),ro:=E'.ro,W:=E.W };have hθo: ∀id,id<s.h.next->E2.θ id=E.θ id:=fun id h=>by show (if id<s.h.next then _ else _)=_; rw [an h]
   have hκo: ∀id,id<s.h.next->E2.κ id=E.κ id:=fun id h=>by show (if id<s.h.next then _ else _)=_; rw [an h]
   have hθn: ∀k,k<c2.dB.length->E2.θ (R.id k)=E'.θ k:=by
    intro k hk;rcases bg k c.dB.length with h|h
    ·rw [GQ k h,hθo _ (H8 k h),<- hθr,(abE k h).2.2.1]
    ·rw [Pr k hk h];show (if s.h.next+(k-c.dB.length)<s.h.next then _ else _)=_;rw [ak J,aoL,Nat.sub_add_cancel h]
   have hκn: ∀k,k<c2.dB.length->E2.κ (R.id k)=E'.κ k:=by
    intro k hk;rcases bg k c.dB.length with h|h
    ·rw [GQ k h,hκo _ (H8 k h),<- hκr,(abE k h).2.2.2]
    ·rw [Pr k hk h];show (if s.h.next+(k-c.dB.length)<s.h.next then _ else _)=_;rw [ak J,aoL,Nat.sub_add_cancel h]
   have ajk: ∀k,k<c2.dB.length->E2.dm (R.id k):=by
    intro k hk;rcases bg k c.dB.length with h|h
    ·obtain⟨o,U⟩:=ud k h;rw [GQ k h];exact .inl (r.live _ _ U).1
    ·rw [Pr k hk h];exact .inr ⟨J,J⟩
   have uZ:fY E w.heap E2 w'.heap:=⟨rfl,fun _ h=> .inl h,fun id h=>hθo id (Fg id h),fun id h=>hκo id (Fg id h),b7,aaT⟩
   have Y6: ∀i,E'.dm i->E2.dm (R.id i)/\E2.θ (R.id i)=E'.θ i/\E2.κ (R.id i)=E'.κ i:=by intro i W;have hi:=aji i W;exact⟨ajk i hi,hθn i hi,hκn i hi⟩
   unfold wH at k1;simp only [aw] at k1;obtain⟨⟨ks,ko⟩,_⟩:=k1
   have vo:fq E s.h w E2 H2 w':=by
    refine⟨rfl,fun _ h=> .inl h,fun id h=>hθo id (Fg id h),fun id h=>hκo id (Fg id h),b7,fun b JU=>(b8 b JU).imp id .inr,by rw [aaZ]; omega,by rw [ajv]; exact .inr rfl,fun id h=>?_,hb.os,hb.tape,hb.output,hb.size,fun b afO hn=>hb.nH b afO fun hf=>?_,fun id o hg gv=>?_,rfl⟩
    ·rcases h with h|h
     ·exact .inl h
     ·exact .inr (.inl ⟨h.1,by rw [aaZ]; exact h.2⟩)
    ·obtain⟨id,o,U,Z⟩:=hfp b hf;exact hn id o U Z
    ·rcases qo id o hg with ⟨k,o',rfl,hk,_⟩|⟨U,_⟩
     ·have Pl:=(bj.1 hk).1;rcases bg k c.dB.length with h|h
      ·obtain⟨o2,Z⟩:=ud k h;exact⟨_,o2,Z,by rw [GQ k h,hθo _ (H8 k h)]⟩
      ·rw [hθn k Pl] at gv;have hh:w.heap.size<=(E'.θ k).1:=b9 k o' (Fc k o' hk) h;omega
     ·exact⟨id,o,U,(by rw [hθo id (Fg id (r.live _ _ U).1)])⟩
   have r2:bR E2 H2 w':=by
    refine⟨fun id hid=>?_,fun q hq=>?_,fun id o hg=>?_,fun i1 i2 o1 o2 U Z he=>?_,b6.su,bK.cx r.kj b7 uZ.Cy,r.U0 vo.W vo.size vo.sR vo.own⟩
    ·rw [aaZ] at hid;rintro (h|h)
     ·exact r.fresh id J h
     ·omega
    ·rw [ajv] at hq;obtain⟨g1,g2⟩:=r.res q hq;refine⟨by rw [aaZ]; omega,?_⟩;rintro (h|h)
     ·exact g2 h
     ·omega
    ·rcases qo id o hg with ⟨k,o',rfl,hk,rfl⟩|⟨Z,gb⟩
     ·have Pl:=(bj.1 hk).1;obtain⟨g1,g2,g3⟩:=b6.live k o' (Fc k o' hk);refine⟨ajk k Pl,?_,by rw [hθn k Pl]; exact g3⟩;have ho3:=OR.low (K:=c2.k) (E:=E') (E':={ E' with ρ:=R.env E.ρ }) (fun a ha=>Sy a ha) rfl rfl rfl rfl (vR ko hk) g2;exact OR.back (Eo:={ E' with ρ:=R.env E.ρ }) (E2:=E2) (r:=R) (by rw [hRl]; exact k3) ajt rfl (fun i W=>Y6 i W) rfl (id:=k) (Jy k9 hk) g1 ho3
     ·obtain⟨g1,g2,g3⟩:=r.live id o Z;have U:=Fg id g1;refine⟨.inl g1,g2.cx uZ g1 (hb.nH _ (gC r Z) ?_) (r.VZ rfl (fun x hx hn=>hb.nH x hx fun hf=>by obtain⟨id,o,U,Z⟩:=hfp x hf; exact hn id o U Z) _),?_⟩
      ·rintro⟨i,hi,he⟩;obtain⟨o',h3⟩:=ud i hi;have xm:((E.ic rn).θ i).1=(E.θ id).1:=he;rw [hθr] at xm;have:=r.inj _ id o' o h3 Z xm;have hi':i<c.dB.length:=hi;exact gb i J (by rw [GQ i hi']; exact this)
      ·rw [hθo id U];intro hr;rcases b8 _ hr with hr|hr
       ·exact g3 hr
       ·have gv:(E.θ id).1<w.heap.size:=gC r Z;have U3:w.heap.size<=(E.θ id).1:=hr;omega
    ·have mix: ∀(k:Nat) (o':dO) (id:Nat) (o:dO),c2.dB[k]?=some o'->s.h.get id=some o->(∀k,k<c2.dB.length->R.id k≠id)->(E'.θ k).1=(E.θ id).1->False:=by
      intro k o' id o hk Z gb he;have Pl:=(bj.1 hk).1;rcases bg k c.dB.length with h|h
      ·obtain⟨o3,h3⟩:=ud k h;have hb3:E'.θ k=(E.ic rn).θ k:=(abE k h).2.2.1;rw [hb3,hθr] at he;have:=r.inj _ id o3 o h3 Z he;exact gb k Pl (by rw [GQ k h]; exact this)
      ·have h3:=gC r Z;have h4:w.heap.size<=(E'.θ k).1:=b9 k o' (Fc k o' hk) h;omega
     rcases qo i1 o1 U with ⟨m1,y1,rfl,z1,_⟩|⟨x2,x3⟩
     ·have hm1:=(bj.1 z1).1;rcases qo i2 o2 Z with ⟨m2,y2,rfl,z2,_⟩|⟨x4,x5⟩
      ·have hm2:=(bj.1 z2).1;rw [hθn m1 hm1,hθn m2 hm2] at he;have:=b6.inj _ _ _ _ (Fc m1 y1 z1) (Fc m2 y2 z2) he;rw [this]
      ·rw [hθn m1 hm1,hθo _ (Fg _ (r.live _ _ x4).1)] at he;exact (mix m1 y1 i2 o2 z1 x4 x5 he).elim
     ·rcases qo i2 o2 Z with ⟨m2,y2,rfl,z2,_⟩|⟨x4,x5⟩
      ·have hm2:=(bj.1 z2).1;rw [hθn m2 hm2,hθo _ (Fg _ (r.live _ _ x2).1)] at he;exact (mix m2 y2 i1 o1 z2 x2 x3 he.symm).elim
      ·rw [hθo _ (Fg _ (r.live _ _ x2).1),hθo _ (Fg _ (r.live _ _ x4).1)] at he;exact r.inj _ _ _ _ x2 x4 he
   refine⟨E2,vo,r2,?_⟩
   have Lb:cC E' w'.heap (c2.bG.map fun p=>p.2) us:=by refine cC.of (by rw [b5]; simp) fun k x hk=>?_;have:=zw (tr:=.nil) k2 k x hk;rw [aL] at this;obtain⟨u,U,Z⟩:=b6.sr k x this;exact⟨u,by simpa using U,Z⟩
   have ajd:mM c2.k (c2.bG.map fun p=>p.2)=true:=by
    have: ∀{l:List (Nat×AV)},sK c2.k l=true->mM c2.k (l.map fun p=>p.2)=true:=by
     intro l
     induction l with
     |nil=>intro _; rfl
     |cons p l ih=> intro h;simp only [sK,aw] at h;simp only [aK,mM,aw];exact⟨h.1,ih h.2⟩
    exact this ks
   have ak8:=cC.low (K:=c2.k) (E:=E') (E':={ E' with ρ:=R.env E.ρ }) (fun a ha=>Sy a ha) rfl rfl rfl rfl _ _ ajd Lb;have ak7:=cC.back (Eo:={ E' with ρ:=R.env E.ρ }) (E2:=E2) (r:=R) (by rw [hRl]; exact k3) ajt rfl (fun i W=>Y6 i W) rfl _ _ ak8;exact Dw ak7
  ·simp [T.leaf] at q1
 ·simp [T.leaf] at Y
end
end Go.As
end
section
namespace Go.As
open Go.RowKit
structure NW where
 ok:(Nat->Prop)->Array Obj->Prop
 cx: ∀{ro oh:Nat->Prop} {h h':Array Obj},ok ro h->(∀b,ro b->oh b)->(∀b,ro b->h'[b]?=h[b]?)->ok oh h'
@[reducible] def NW.kj (G:NW) (F:oZ):bK where
 ok ρ ro h:=G.ok ro h/\Good F ρ
 cx U Z h3:=⟨G.cx U.1 Z h3,U.2⟩
 ic U Z:=⟨U.1,U.2.ic Z⟩
structure Bl where
 g:Nat
 Gm:List RK
 lZ:List RK
 fJ:Dm
 pos:Option (List Nat×CS)
 pat:Option (CS×List dO×Nat):=none
 pP:List CS:=[]
 gh:List (Nat×Nat):=[]
 wh:List Nat:=[]
 iK:Nat:=0
 tst:List (Nat×Nat):=[]
 fz:List (Nat×Nat×Nat):=[]
 Zv:List FH:=[]
def Bl.ej (e:Bl):List dO:=match e.pat with
 |none=>[]
 |some (_,o,_)=>o
def Bl.ko (e:Bl):Nat:=match e.pat with
 |none=>0
 |some (_,_,k)=>k
structure Sys where
 P:Program
 G:NW
 tt:TT
 ft:Nat->Option Func
 rL:Nat->Nat->List Oper->Bool
 draw:eu->Nat->Nat->List Oper->St->T St
 yb:Nat->Option (List AV->St->T (AV×St))
 lf:Nat
 depth:Nat
 Dd:Nat->List Nat
 bS:Nat->Option Bl
noncomputable section
def aaz (c:CS) (args:List AV) (s:St):Bool:=match quick (cw args 0 .nil) c.bG with
 |false=>false
 |true=>Nat.beq args.length c.bG.length&&c.fits I! ⟨cw args 0 .nil,s.h,s.pc⟩ (c.lR ⟨cw args 0 .nil,s.h,s.pc⟩)&&HJ (c.lR ⟨cw args 0 .nil,s.h,s.pc⟩)
def Ri (s:St):List Nat->Bool
 |[]=>true
 |t::l=>match Nat.ble 1000 t with
  |true=>match s.bG.get (t-1000) with
   |some _=>Ri s l
   |none=>false
  |false=>match s.bG.get t with
   |some _=>false
   |none=>Ri s l
def ajx (s:St):List (Nat×Nat)->Bool
 |[]=>true
 |(t,_)::l=>match s.bG.get t with
  |some _=>ajx s l
  |none=>false
def LW (c:CS) (gh:List (Nat×Nat)) (wh:List Nat) (args:List AV) (s:St):Bool:=match quick (cw args 0 .nil) c.bG with
 |false=>false
 |true=>Ri s wh&&ajx s gh&&Nat.beq args.length c.bG.length&&c.fits I! ⟨cw args 0 .nil,s.h,s.pc⟩ (M_ s gh (c.lR ⟨cw args 0 .nil,s.h,s.pc⟩))&&HJ (M_ s gh (c.lR ⟨cw args 0 .nil,s.h,s.pc⟩))
def JZ:Nat->List AV->Nat->List (Nat×Nat×Nat)
 |_,[],_=>[]
 |i,v::l,f=>match v with
  | .eD _ t=>(i,f,t)::JZ i l (f+1)
  |_=>JZ i l (f+1)
def DM:List (Nat×AV)->List (Nat×Nat×Nat)
 |[]=>[]
 |(i,v)::l=>match v with
  | .agg cs=>JZ i cs 0++DM l
  |_=>DM l
def aka (args:List AV) (p:Nat×Nat×Nat):Bool:=match fy args p.1 with
 |some v=>match v with
  | .agg xs=>match fy xs p.2.1 with
    |some _=>true
    |none=>false
  |_=>false
 |none=>false
def Pv (s:St):List (Nat×Nat)->Bool
 |[]=>true
 |(t,c)::l=>match s.bG.get t with
  |some v=>match v with
   | .int _ _=>Pv s l
   | .agg cs=>match fy cs c with
     |some x=>match x with
      | .int _ _=>Pv s l
      |_=>false
     |none=>false
   |_=>false
  |none=>false
def ajD (c:CS) (gh:List (Nat×Nat)) (wh:List Nat) (args:List AV) (s:St):Bool:=match gh with
 |[]=>false
 |_=>Ri s wh&&Pv s gh&&match DM c.bG with
  |[]=>false
  |fz=>fz.all (aka args)
def Sys.CP (S:Sys):List Nat->List AV->St->T (AV×St)
 |[],_,_=> .fail
 |j::l,args,s=>match S.bS j with
  |none=> .fail
  |some e=>match e.pat with
   |none=>Y2 j e.Gm e.lZ args s
   |some (c,ej,ko)=>match e.pP with
    |[]=>match aaz c args s with
     |true=>Y0 j c e.lZ ej ko args s
     |false=>S.CP l args s
    |r::rs=>match LW c e.gh e.wh args s with
     |true=>Sn j e.iK c e.gh (r::rs) args s
     |false=>match ajD c e.gh e.wh args s with
      |true=>MH (DM c.bG) args s fun aec s'=>match LW c e.gh e.wh aec s' with
       |true=>Sn j e.iK c e.gh (r::rs) aec s'
       |false=>S.CP l args s
      |false=>S.CP l args s
def Sys.hook (S:Sys) (g:Nat):Option (List AV->St->T (AV×St)):=match S.Dd g with
 |[]=>S.yb g
 |j::l=>some (match S.yb g with
  |none=>S.CP (j::l)
  |some h=>orElse h (S.CP (j::l)))
def Sys.call (S:Sys):eu:=Ko S.tt S.ft S.hook S.draw S.lf S.depth
def Sys.cfg (S:Sys) (e:Bl) (fn:Func):uU:=⟨S.tt,S.call,S.draw S.call e.g,S.lf,fn.results.toList,e.lZ,e.ej,e.ko,e.pP,e.iK,e.fz,e.Zv⟩
def oy (S:Sys) (e:Bl):T Lf:=match S.ft e.g with
 |none=> .fail
 |some fn=>match fn.body with
  |none=> .fail
  |some body=>match e.pos with
   |none=>match e.pat with
    |none=>xO (S.cfg e fn) e.fJ 1000 [] body [] ⟨cw (qj e.Gm .dD 0) 0 .nil,Hp.zero,[]⟩
    |some (c,_,_)=>xO (S.cfg e fn) e.fJ 1000 [] body [] c.st
   |some (p,c)=>match pI body p with
    |some (b,fr)=>match b with
     | .loop b=>Ok (fun s=>xO (S.cfg e fn) e.fJ 1000 (0::p) b (.loop p b::fr) s) e.tst c.st
     |_=> .fail
    |none=> .fail
def Sys.tree (S:Sys) (j:Nat):T Lf:=match S.bS j with
 |none=> .fail
 |some e=>oy S e
end
def X_ (S:Sys) (e:Bl) (body:Code):Prop:= ∀p l,e.fJ p=some l->(∃b fr,pI body p=some (.loop b,fr))/\∀j c,(j,c)∈l->S.bS j=some { e with pos:=some (p,c) }/\wH c.k c=true/\c.k<=900/\e.iK<=c.k
structure Gp (S:Sys):Prop where
 tt:eJ S.P S.tt
 ft:VI S.P S.rL S.ft
 draw: ∀(I:bK) call,@iT I S.P call->∀g,@wQ I S.P (S.rL g) (S.draw call g)
 yb: ∀(I:bK),(∀ρ ro h,I.ok ρ ro h->S.G.ok ro h)->∀g h,S.yb g=some h->@kQ I S.P g h
 run: ∀g j,j∈S.Dd g->∀(args:Array Value) (w:World),(callFunc g args).run S.P w= .ok (.enter g args) w
 num: ∀g j e,j∈S.Dd g->S.bS j=some e->e.g=g/\e.pos=none/\(match e.pat with
  |none=>(pE e.Gm).length<=900/\e.pP= []
  |some (c,ej,_)=>wH c.k c=true/\c.k<=900/\ej.length=c.dB.length/\(e.pP≠[]->Hn e.pP=true)/\nfs c.dB=true)
 outs: ∀j e,S.bS j=some e->nA e.ko e.ej=true/\e.ko<=900/\e.iK<=900
 bS: ∀j e,S.bS j=some e->∀fn body,S.ft e.g=some fn->fn.body=some body->X_ S e body
section
variable {S:Sys}
def aeg (S:Sys) (n:Nat):Prop:= ∀g j e,j∈S.Dd g->S.bS j=some e->match e.pat with
 |none=>B' S.P S.G.ok g e.Gm e.lZ (eW S.tree n j)
 |some (c,ej,ko)=>match e.pP with
  |[]=>aef S.P S.G.ok g c e.lZ ej ko (eW S.tree n j)
  |r::rs=>aee S.P S.G.ok g c (r::rs) (eW S.tree n j)
def aeh (S:Sys) (n:Nat):Prop:= ∀j e p c,S.bS j=some e->e.pos=some (p,c)->wH c.k c=true->c.k<=900->∀fn body b fr,S.ft e.g=some fn->fn.body=some body->pI body p=some (.loop b,fr)->
 ∀(B:mY) (E:En) (a:Act) (w:World) (xs ys:List Int),e.ej.length=B.m->eW S.tree n j xs=some ys->(∀i x,xs[i]?=some x->E.ρ i=x)->xs.length=c.k->lM B E c.st a w->S.G.ok E.ro w.heap->fn.ntmps<=a.tmps.size->a.defers= []->
  Gu S.P b (KE S.P (bodyPost S.P fn (QX B e.lZ e.ej e.ko e.pP ys)) fr) a w
def LfG (iK:Nat) (fJ:Dm):Lf->Prop
 | .out es=> ∀a e,a<iK->es[a+1]?=some e->e= .dD a
 | .jump j es=>(∃p l c,fJ p=some l/\(j,c)∈l/\es.length=c.k)/\∀a e,a<iK->es[a]?=some e->e= .dD a
theorem Il: ∀{n i:Nat} {ns:List V} {a:Nat} {e:V},a<n->(CU n i ns)[a]?=some e->e= .dD (i+a)
 |0,_,_,a,_,h,_=>by omega
 |n+1,i,[],a,e,_,h=>by simp [CU] at h
 |n+1,i,x::ns,0,e,_,h=>by simp [CU] at h; rw [<- h]; rfl
 |n+1,i,x::ns,a+1,e,ha,h=>by
  simp only [CU,aN] at h;rw [Il (n:=n) J h]
  grind
theorem MN {iK:Nat} {r:Ren} {a:Nat} {e:V} (ha:a<iK) (h:(r8 iK r).ns[a]?=some e):e= .dD a:=by
 unfold r8 at h;split at h
 ·omega
 ·have:=Il ha h
  grind
theorem ZJ {n m iK:Nat} {s:St} {ρ:Nat->Int} {lf:Lf} {fJ:Dm} {l:List CS} {k:Nat} (h:(M7 n m iK s l k).leaf ρ=some lf):LfG iK fJ lf:=by
 obtain⟨i,c,_,_,_,rfl,_⟩:=DV h;intro a e ha he
 grind [MN]
theorem tR {m iK:Nat} {s:St} {ρ:Nat->Int} {lf:Lf} {fJ:Dm} {p:List Nat} {l0:List (Nat×CS)} (hp:fJ p=some l0): ∀{l:List (Nat×CS)},(∀x∈l,x∈l0)->(rS m iK s l).leaf ρ=some lf->LfG iK fJ lf
 |[],_,h=>by simp [rS,T.leaf] at h
 |(j,c)::l,oI,h=>by
  simp only [rS] at h;split at h
  ·exact tR hp (fun x hx=>oI x (by simp [hx])) h
  ·split at h
   ·have:=bF h;subst this;exact⟨⟨p,l0,c,hp,oI _ ae,by rw [wy,uf]⟩,fun a e ha he=>MN ha he⟩
   ·exact tR hp (fun x hx=>oI x (by simp [hx])) h
theorem rM {α:Type} {k:St->T α} {ρ:Nat->Int} {x:α}: ∀{ts:List Nat} {s:St},(wJ k ts s).leaf ρ=some x->∃s',(k s').leaf ρ=some x
 |[],s,h=> ⟨s,h⟩
 |i::ts,s,h=>by
  simp only [wJ] at h;split at h
  ·obtain⟨pc,b,U⟩:=iZ h;exact rM U
  ·exact rM h
theorem Bp {α:Type} {k:St->T α} {ρ:Nat->Int} {x:α}: ∀{ts:List (Nat×Nat)} {s:St},(Ok k ts s).leaf ρ=some x->∃s',(k s').leaf ρ=some x
 |[],s,h=> ⟨s,h⟩
 |(t,g)::ts,s,h=>by
  simp only [Ok] at h;split at h
  ·obtain⟨pc,b,U⟩:=iZ h;exact Bp U
  ·exact Bp h
theorem Ih {α:Type} {ρ:Nat->Int} {v:AV} {s:St} {k:AV->St->T α} {x:α} (h:(Px v s k).leaf ρ=some x): ∃v s,(k v s).leaf ρ=some x:=by
 unfold Px at h;split at h
 ·split at h
  ·unfold yE at h;obtain⟨_,b1,h⟩:=iZ h
   cases b1 with
   |true=>simp [T.leaf] at h
   |false=>
    obtain⟨_,b2,h⟩:=iZ h
    cases b2 with
    |true=>simp [T.leaf] at h
    |false=>
     obtain⟨_,b3,h⟩:=iZ h
     cases b3 with
     |true=>simp [T.leaf] at h
     |false=>exact⟨_,_,h⟩
  grind
 grind
theorem Fp {α:Type} {ρ:Nat->Int} {x:α}: ∀{vs:List AV} {s:St} {k:List AV->St->T α},(Ig vs s k).leaf ρ=some x->∃vs s,(k vs s).leaf ρ=some x
 |[],s,k,h=> ⟨_,_,h⟩
 |v::vs,s,k,h=>by
  simp only [Ig] at h;obtain⟨_,_,h⟩:=Ih h;obtain⟨_,_,h⟩:=Fp h
  grind
theorem EH {α:Type} {ρ:Nat->Int} {x:α} {t:Nat}: ∀{ov:List (V×List AV)} {e:V} {s:St} {k:V->St->T α},(HB t ov e s k).leaf ρ=some x->∃e s,(k e s).leaf ρ=some x
 |[],e,s,k,h=> ⟨_,_,h⟩
 |(j,cs)::ov,e,s,k,h=>by
  simp only [HB] at h;obtain⟨_,_,h⟩:=EH h
  grind [Fp,T.leaf]
theorem U7 {α:Type} {ρ:Nat->Int} {v:AV} {s:St} {k:AV->St->T α} {x:α} (h:(Pw v s k).leaf ρ=some x): ∃v s,(k v s).leaf ρ=some x:=by
 grind [Pw,EH,T.leaf,Ih]
theorem Ie {α:Type} {ρ:Nat->Int} {x:α} {k:List AV->St->T α}: ∀{fz:List (Nat×Nat×Nat)} {vs:List AV} {s:St},(MH fz vs s k).leaf ρ=some x->∃vs s,(k vs s).leaf ρ=some x
 |[],vs,s,h=> ⟨_,_,h⟩
 |(i,f,t)::l,vs,s,h=>by
  simp only [MH] at h;split at h
  ·split at h
   ·obtain⟨_,_,h⟩:=U7 h;split at h
    ·exact Ie h
    grind [T.leaf]
   grind [T.leaf]
  grind [T.leaf]
theorem ZK {g:uU} {fJ:Dm} {e:Ex} {s:St} {ρ:Nat->Int} {lf:Lf} (hr:g.pP≠[]) (h:(ZL g e s).leaf ρ=some lf):LfG g.iK fJ lf:=by
 unfold ZL at h
 grind [T.leaf,Ie,ZJ]
theorem SD {g:uU} {fJ:Dm} {ρ:Nat->Int} (hr:g.pP≠[]): ∀n:Nat,
 (∀p c fr s lf,(xO g fJ n p c fr s).leaf ρ=some lf->LfG g.iK fJ lf)/\
 (∀fr e s lf,(uo g fJ n fr e s).leaf ρ=some lf->LfG g.iK fJ lf)
 |0=> ⟨fun _ _ _ _ _ h=>by simp [xO,T.leaf] at h,fun _ _ _ _ h=>by simp [uo,T.leaf] at h⟩
 |n+1=>by
  obtain⟨VV,Gy⟩:=SD hr n
  have ai8:Iq g=false:=by
   cases ho:Iq g with
   |false=>rfl
   |true=>exact absurd (Fv ho).2 hr
  have hfo: ∀(c:Code) (s:St) (k:St->T Lf),Va g c s k=k s:=fun c s k=>by unfold Va; rw [ai8]
  have hpo: ∀(s:St) (k:St->T Lf),UC g s k=k s:=fun s k=>by unfold UC; rw [ai8]
  have lfc: ∀(c:Code) fr s lf,((g.ev c s).bind fun (e,s')=>uo g fJ n fr e s').leaf ρ=some lf->LfG g.iK fJ lf:=by intro c fr s lf h;obtain⟨⟨e,s'⟩,_,Z⟩:=T.fL h;exact Gy _ _ _ _ Z
  constructor
  ·intro p c fr s lf h;unfold xO at h;split at h
   ·rename_i l Y;rw [hpo] at h;obtain⟨s',U⟩:=rM h;exact tR Y (fun _ h=>h) U
   ·split at h
    ·grind
    ·grind
    ·grind
    ·split at h
     ·obtain⟨pc,b,U⟩:=iZ h
      grind
     grind [T.leaf]
    ·rw [hfo] at h;exact lfc _ _ _ _ h
  ·intro fr e s lf h;unfold uo at h;split at h
   ·exact ZK hr h
   ·grind
   ·grind
   ·split at h
    ·split at h
     ·rename_i l Y;rw [hpo] at h;obtain⟨s',U⟩:=rM h;exact tR Y (fun _ h=>h) U
     grind [T.leaf]
    grind
   grind
theorem C1 {e:Bl} {ρ:Nat->Int} {lf:Lf} (hr:e.pP≠[]) (h:(oy S e).leaf ρ=some lf): ∃fn body,S.ft e.g=some fn/\fn.body=some body/\LfG e.iK e.fJ lf:=by
 unfold oy at h;split at h
 ·simp [T.leaf] at h
 ·rename_i fn vz;split at h
  ·simp [T.leaf] at h
  ·rename_i body hb;refine⟨fn,body,vz,hb,?_⟩;have key: ∀n p c fr s,(xO (S.cfg e fn) e.fJ n p c fr s).leaf ρ=some lf->LfG e.iK e.fJ lf:=fun n p c fr s h=>(SD (g:=S.cfg e fn) hr n).1 _ _ _ _ _ h;split at h
   ·grind
   ·split at h
    ·split at h
     ·obtain⟨s',U⟩:=Bp h
      grind
     ·simp [T.leaf] at h
    ·simp [T.leaf] at h
theorem Jh (hs:Gp S): ∀(n j:Nat) (e:Bl) (xs ys:List Int),S.bS j=some e->e.pP≠[]->eW S.tree n j xs=some ys->∀a y,a<e.iK->ys[a+1]?=some y->y=low xs a
 |0,_,_,_,_,_,_,h=>by simp [eW] at h
 |n+1,j,e,xs,ys,he,hr,h=>by
  intro a y ha hy;obtain⟨_,_,hg⟩:=hs.outs j e he;have H6:S.tree j=oy S e:=by unfold Sys.tree; rw [he]
  simp only [eW,H6] at h;split at h
  ·grind
  ·rename_i es Y;obtain⟨_,_,_,_,rT⟩:=C1 hr Y;simp only [aq] at h;subst h;rw [bp,aZ] at hy;obtain⟨x,hx,rfl⟩:=hy;rw [rT a x ha hx];show cY _ _ a=_
   grind [tm]
  ·rename_i j' es Y;obtain⟨fn,body,vz,hb,⟨p,l,c,hp,hc,hlen⟩,rT⟩:=C1 hr Y;obtain⟨_,hh⟩:=hs.bS j e he fn body vz hb p l hp;obtain⟨q1,_,_,q4⟩:=hh j' c hc;have:=Jh hs n j' _ _ ys q1 hr h a y ha hy;rw [this];have V1:a<es.length:=J
   have hx:=aW V1;unfold low;rw [aoh,bp,hx];show (es[a]).den _=_;rw [rT a _ ha hx];show cY _ _ a=_
   grind [tm]
theorem mz.mono {P:Program} {g:FuncId} {vals:Array Value} {w:World} {R R':Value->World->Prop} (h:mz P g vals w R) (k: ∀u w',R u w'->R' u w'):mz P g vals w R':=by
 unfold mz at h ⊢;unfold oY at h ⊢;split at h
 ·grind
 ·exact Calls.mono h fun e w' ⟨u,he,hr⟩=> ⟨u,he,k _ _ hr⟩
 grind
theorem abC (hs:Gp S) {n:Nat} (h:aeg S n):@iT (S.G.kj (eW S.tree n)) S.P S.call:=by
 letI I:=S.G.kj (eW S.tree n);have a1: ∀ρ ro h,I.ok ρ ro h->S.G.ok ro h:=fun _ _ _ h=>h.1;have a2: ∀ρ ro h,I.ok ρ ro h->Good (eW S.tree n) ρ:=fun _ _ _ h=>h.2;refine AN hs.tt hs.ft (hook:=S.hook) ?_ (fun call hc g=>hs.draw I call hc g) S.lf S.depth
 have hL: ∀g l,(∀j∈l,j∈S.Dd g)->@kQ I S.P g (S.CP l):=by
  intro g l
  induction l with
  |nil=>
   intro _ amV s E w vals v s' r hv hp Y
   grind [Sys.CP,T.leaf]
  |cons j l ih=>
   intro oI amV s E w vals v s' r hv hp Y;have hj:=oI j ae;simp only [Sys.CP] at Y;split at Y
   ·grind [T.leaf]
   ·rename_i e he;have vY:=h g j e hj he;obtain⟨_,_,Fb⟩:=hs.num g j e hj he;obtain⟨ho1,ho2,_⟩:=hs.outs j e he
    cases tY:e.pat with
    |none=> rw [tY] at Y vY;exact @Y1 S.P I S.G.ok a1 (eW S.tree n) a2 g j e.Gm e.lZ vY (hs.run g j hj) amV s E w vals v s' r hv hp Y
    |some q=>
     obtain⟨c,ej,ko⟩:=q;rw [tY] at Y vY Fb;simp only at Y vY Fb;unfold Bl.ej Bl.ko at ho1;unfold Bl.ko at ho2;rw [tY] at ho1 ho2
     cases BR:e.pP with
     |nil=>
      rw [BR] at Y vY;simp only at Y vY;split at Y
      ·exact @YZ S.P I S.G.ok a1 (eW S.tree n) a2 g j c e.lZ ej ko ho1 ho2 Fb.2.2.1 vY (hs.run g j hj) amV s E w vals v s' r hv hp Y
      ·exact ih (fun j hj=>oI j (by simp [hj])) amV s E w vals v s' r hv hp Y
     |cons r0 rs=>
      rw [BR] at Y vY;simp only at Y vY;have hrp:=Fb.2.2.2.1 (by rw [BR]; simp);rw [BR] at hrp;split at Y
      ·exact @Mt S.P I S.G.ok a1 (eW S.tree n) a2 g j c e.gh e.iK (r0::rs) hrp (fun xs ys h=>Jh hs n j e xs ys he (by rw [BR]; simp) h) vY (hs.run g j hj) amV s E w vals v s' r hv hp Y
      ·split at Y
       ·obtain⟨as1,U,ga,E1,fS,f,hv1,Y⟩:=J4 rfl r hp hv Y;split at Y
        ·rw [<- f.ρ] at Y fS;have:=@Mt S.P I S.G.ok a1 (eW S.tree n) a2 g j c e.gh e.iK (r0::rs) hrp (fun xs ys h=>Jh hs n j e xs ys he (by rw [BR]; simp) h) vY (hs.run g j hj) as1 { s with h:=U,pc:=ga } E1 w vals v s' f.rel hv1 fS Y;obtain⟨k1,k2,k3⟩:=this;rw [f.ρ] at k2;exact⟨k1,k2,mz.mono k3 fun u w' ⟨E2,q1,q2,q3⟩=> ⟨E2,f.dY.trans q1,q2,q3⟩⟩
        ·exact ih (fun j hj=>oI j (by simp [hj])) amV s E w vals v s' r hv hp Y
       ·exact ih (fun j hj=>oI j (by simp [hj])) amV s E w vals v s' r hv hp Y
 intro g f hf;unfold Sys.hook at hf;split at hf
 ·exact hs.yb I a1 g f hf
 ·rename_i j l hj;simp only [aq] at hf;subst hf;have Z:=hL g (j::l) (by rw [hj]; exact fun _ h=>h);split
  ·exact Z
  ·rename_i h0 hh;exact w7 (hs.yb I a1 g h0 hh) Z
theorem O8 (hs:Gp S) {n:Nat} (h:aeh S n) {j:Nat} {e:Bl} (he:S.bS j=some e) {fn:Func} {body:Code} (vz:S.ft e.g=some fn) (hb:fn.body=some body) (B:mY) (hm:e.ej.length=B.m) (ys:List Int) :
 @H_ (S.G.kj (eW S.tree n)) S.P body fn.ntmps B (bodyPost S.P fn (QX B e.lZ e.ej e.ko e.pP ys)) (eW S.tree n) ys e.fJ:=by
 intro p l hp;obtain⟨⟨b,fr,Y⟩,hh⟩:=hs.bS j e he fn body vz hb p l hp;refine⟨b,fr,Y,fun j' c hc E a w t hg ⟨xs,U,Z,h3,h4⟩ hN W=>?_⟩;obtain⟨q1,q2,q3,_⟩:=hh j' c hc;exact h j' { e with pos:=some (p,c) } p c q1 rfl q2 q3 fn body b fr vz hb Y B E a w xs ys hm h4 U Z t hg.1 hN W
theorem YC {F:oZ} {E:En} {xs:List Int} {k:Nat} (h: ∀i x,xs[i]?=some x->E.ρ i=x) (hk:xs.length=k) (h9:k<=900): ∀i,i<k->cY F (low xs) i=E.ρ i:=by
 intro i hi
 grind [tm,low]
theorem JH {tree:Nat->T Lf} {n j:Nat} {xs ys:List Int} (h:eW tree (n+1) j xs=some ys): ∃lf,(tree j).leaf (cY (eW tree n) (low xs))=some lf/\NV (eW tree n) (cY (eW tree n) (low xs)) ys lf:=by
 simp only [eW] at h;split at h
 ·grind
 ·rename_i es Y;simp only [aq] at h;exact⟨_,Y,h⟩
 ·rename_i j' es Y;exact⟨_,Y,h⟩
theorem QE.spec {w:World} {ro:Nat->Prop} {θ:Nat->Nat×Nat} {κ:Nat->Nat} {lZ:List RK} {ys:List Int} {e:Ending} {w':World} (h:QE ⟨w,ro,0,θ,κ⟩ lZ [] 0 ys e w') :
 ∃u,e= .returned u/\Below w.heap.size w w'/\∃oh:Nat->Prop,(∀b,ro b->oh b)/\(∀b,oh b->ro b\/w.heap.size<=b)/\(∀b,oh b->b<w'.heap.size)/\abP lZ ys oh w'.heap u:=by
 obtain⟨u,q1,q2,oh,q3,q4,q5,_,_,q6⟩:=h;exact⟨u,q1,⟨q2.os,q2.tape,q2.output,q2.size,fun k hk=>q2.nH k hk fun⟨i,hi,_⟩=>absurd hi (by show ¬i<0; omega)⟩,oh,q3,q4,q5,q6⟩
theorem Bel.refl {B:mY}:Bel B B.w0:=⟨rfl,rfl,rfl,az _,fun _ _ _=>rfl⟩
theorem wP.grow {E:En} {s:St} {w:World} {vals:List Value} (f:wP E s { tmps:=vals.toArray,defers:=[] } w) (n:Nat):wP E s { tmps:=vals.toArray++Array.replicate n undef,defers:=[] } w:=by
 refine⟨f.fresh,f.res,f.live,f.inj,f.su,fun t v ht=>?_,f.pc,f.hid⟩;obtain⟨u,U,Z⟩:=f.sr t v ht
 grind
theorem wP.hd0 {E:En} {s:St} {a:Act} {w:World} (f:wP E s a w) (hn: ∀id o,s.h.get id=some o->nf o=true):wP { E with W:=fun _=>none } s a w:=by
 have k:fY E w.heap { E with W:=fun _=>none } w.heap:=⟨rfl,fun _ h=>h,fun _ _=>rfl,fun _ _=>rfl,fun _ h=>h,fun _ _=>rfl⟩;refine⟨f.fresh,f.res,fun id o ho=>?_,f.inj,f.su,fun t v ht=>?_,f.pc,fun b x hb=>by simp at hb⟩
 ·obtain⟨U,Z,h3⟩:=f.live id o ho;exact⟨U,Z.acL k U rfl (hn id o ho),h3⟩
 ·obtain⟨u,U,Z⟩:=f.sr t v ht;exact⟨u,U,VR.cx k _ _ Z⟩
theorem XH (hs:Gp S): ∀n:Nat,aeg S n/\aeh S n
 |0=> ⟨fun g j e _ _=>by
  cases e.pat with
  |none=>exact fun xs ys h=>by simp [eW] at h
  |some q=>
   obtain⟨c,ej,ko⟩:=q
   cases e.pP with
   |nil=>exact fun xs ys h=>by simp [eW] at h
   |cons r rs=>exact fun xs ys h=>by simp [eW] at h,fun j e p c _ _ _ _ fn body b fr _ _ _ B E a w xs ys _ h=>by simp [eW] at h⟩
 |n+1=>by
  obtain⟨VV,Gy⟩:=XH hs n;letI I:=S.G.kj (eW S.tree n);have acY:=abC hs VV;have v_: ∀(e:Bl) (fn:Func),QZ S.P (S.cfg e fn) (S.rL e.g):=fun e fn=> ⟨hs.tt,acY,hs.draw I S.call acY e.g⟩;constructor
  ·intro g j e hn he;obtain⟨hg,ml,Fb⟩:=hs.num g j e hn he;obtain⟨pg,K?,_⟩:=hs.outs j e he;have H6:S.tree j=oy S e:=by unfold Sys.tree; rw [he]
   cases tY:e.pat with
   |none=>
    rw [tY] at Fb;simp only at Fb ⊢;intro xs ys hx ro w vals fl l7 MB sh hc;obtain⟨lf,U,Z⟩:=JH hx;rw [H6] at U;unfold oy at U
    cases vz:S.ft e.g with
    |none=>rw [vz] at U; simp [T.leaf] at U
    |some fn=>
     rw [vz] at U
     cases hb:fn.body with
     |none=>simp only [hb] at U; simp [T.leaf] at U
     |some body=>
      simp only [hb,ml,tY] at U;obtain⟨hf,_,W⟩:=hs.ft e.g fn vz;rw [hg] at hf;have nJ:=W body hb;have hlx:=hc.length.1;have GA:e.ej= []:=by unfold Bl.ej; rw [tY]
      have Y9:e.ko=0:=by unfold Bl.ko; rw [tY]
      have hvr:cC (En.zero (cY (eW S.tree n) (low xs)) ro) w.heap (qj e.Gm .dD 0) vals:=by
       refine sX sh hc fun k x hk=>?_;have Pl:=(bj.1 hk).1;rw [aL];show cY _ _ k=x
       grind [tm,low]
      have pS:I.ok (cY (eW S.tree n) (low xs)) ro w.heap:=⟨MB,lK _ _⟩;let B:mY:=⟨w,ro,0,fun _=>(0,0),fun _=>0⟩
      have t0:lM B (En.zero (cY (eW S.tree n) (low xs)) ro) ⟨cw (qj e.Gm .dD 0) 0 .nil,Hp.zero,[]⟩ { tmps:=vals.toArray++Array.replicate (fn.ntmps-vals.toArray.size) undef,defers:=[] } w:=by
       have fit:Fit (En.zero (cY (eW S.tree n) (low xs)) ro) ⟨cw (qj e.Gm .dD 0) 0 .nil,Hp.zero,[]⟩ { tmps:=vals.toArray++Array.replicate (fn.ntmps-vals.toArray.size) undef,defers:=[] } w:=
        ⟨Lm _ ro w l7 pS,Ae hvr _,by intro c b h; simp at h⟩
       exact⟨fit.x,fun _ h=>h,fun _ h=> .inl h,Bel.refl,fun id o h=>by simp [Hp.zero,Hp.get,Tr.get] at h,fun i hi=>absurd hi (by show ¬i<0; omega),fun b x hb=>by simp [En.zero] at hb⟩
      refine Calls.mono (calls_of_wp (R:=QX B e.lZ e.ej e.ko e.pP ys) hf hb ?_) fun e' w' hq=>QE.spec (w:=w) (ro:=ro) (θ:=fun _=>(0,0)) (κ:=fun _=>0) (by rw [GA,Y9,Fb.2] at hq; exact hq);exact (JY (B:=B) (v_ e fn) nJ rfl (by show e.ej.length=0; rw [GA]; rfl) pg K? (O8 hs Gy he vz hb B (by show e.ej.length=0; rw [GA]; rfl) ys) 1000).1 [] body [] _ lf _ _ w rfl U Z t0 pS (by simp; omega) rfl
   |some q=>
    obtain⟨c,ej,ko⟩:=q;rw [tY] at Fb;simp only at Fb ⊢;obtain⟨ajm,hc9,hom,hrp,hnf⟩:=Fb
    have main: ∀xs ys,eW S.tree (n+1) j xs=some ys->∀(E:En) (w:World) (vals:List Value),(∀i x,xs[i]?=some x->E.ρ i=x)->xs.length=c.k->wP E c.st { tmps:=vals.toArray,defers:=[] } w->S.G.ok E.ro w.heap->
     Calls S.P g vals.toArray w (QX ⟨w,E.ro,c.dB.length,E.θ,E.κ⟩ e.lZ ej ko e.pP ys):=?_
    ·cases BR:e.pP with
     |nil=> simp only;intro xs ys hx E w vals nM hlen fx MB;have:=main xs ys hx E w vals nM hlen fx MB;rw [BR] at this;exact this
     |cons r0 rs=> simp only;intro xs ys hx E w vals nM hlen fx MB;have:=main xs ys hx E w vals nM hlen fx MB;rw [BR] at this;exact this
    intro xs ys hx E0 w vals nM hlen fx0 MB
    have fx:=fx0.hd0 fun id o ho=>by
     have:(pj c.dB 0 .nil).get id=some o:=ho;rw [jZ] at this;split at this
     ·exact Jy hnf this
     ·simp [Tr.get] at this
    have hE: ∃E:En,E= { E0 with W:=fun _=>none }:=⟨_,rfl⟩;obtain⟨E,hE⟩:=hE;rw [<- hE] at fx;have nM: ∀i x,xs[i]?=some x->E.ρ i=x:=by rw [hE]; exact nM
    have MB:S.G.ok E.ro w.heap:=by rw [hE]; exact MB
    have hEd:E.W=fun _=>none:=by rw [hE]
    suffices Calls S.P g vals.toArray w (QX ⟨w,E.ro,c.dB.length,E.θ,E.κ⟩ e.lZ ej ko e.pP ys) by rw [hE] at this; exact this
    obtain⟨lf,U,Z⟩:=JH hx;rw [H6] at U;unfold oy at U
    cases vz:S.ft e.g with
    |none=>rw [vz] at U; simp [T.leaf] at U
    |some fn=>
     rw [vz] at U
     cases hb:fn.body with
     |none=>simp only [hb] at U; simp [T.leaf] at U
     |some body=>
      simp only [hb,ml,tY] at U;obtain⟨hf,_,W⟩:=hs.ft e.g fn vz;rw [hg] at hf;have nJ:=W body hb;have GA:e.ej=ej:=by unfold Bl.ej; rw [tY]
      have Y9:e.ko=ko:=by unfold Bl.ko; rw [tY]
      let B:mY:=⟨w,E.ro,c.dB.length,E.θ,E.κ⟩
      have aly: ∀id o,c.st.h.get id=some o->id<c.dB.length:=by
       intro id o ho;have:(pj c.dB 0 .nil).get id=some o:=ho
       grind [jZ,Tr.get]
      have als: ∀id,id<c.dB.length->∃o,c.st.h.get id=some o:=by
       intro id hid;refine⟨c.dB[id],?_⟩;show (pj c.dB 0 .nil).get id=_
       grind [jZ]
      have t1:lM B E c.st { tmps:=vals.toArray++Array.replicate (fn.ntmps-vals.toArray.size) undef,defers:=[] } w:=by refine⟨fx.grow _,fun _ h=>h,fun _ h=> .inl h,Bel.refl,fun id o h=> .inr ⟨id,aly id o h,rfl⟩,fun i hi=>?_,fun b x hb=>by rw [hEd] at hb; simp at hb⟩;obtain⟨o,ho⟩:=als i hi;exact⟨(fx.live i o ho).1,rfl,rfl⟩
      have t0:=t1.low (ρ':=cY (eW S.tree n) (low xs)) ajm (YC nM hlen hc9);have pS:I.ok (cY (eW S.tree n) (low xs)) E.ro w.heap:=⟨MB,lK _ _⟩;have hm:e.ej.length=B.m:=by rw [GA]; exact hom
      have hw:=(JY (B:=B) (v_ e fn) nJ rfl hm pg K? (O8 hs Gy he vz hb B hm ys) 1000).1 [] body [] _ lf { E with ρ:=cY (eW S.tree n) (low xs) } _ w rfl U Z t0 pS (by simp; omega) rfl;have hw':=calls_of_wp (R:=QX B e.lZ e.ej e.ko e.pP ys) hf hb hw
      grind
  ·intro j e p c he ml alq h9 fn body b fr vz hb Y B E a w xs ys hm hx nM hlen t MB hN DJ;obtain⟨pg,K?,_⟩:=hs.outs j e he;obtain⟨lf,U,Z⟩:=JH hx;have H6:S.tree j=oy S e:=by unfold Sys.tree; rw [he]
   rw [H6] at U;unfold oy at U;simp only [vz,hb,ml,Y] at U;obtain⟨hf,_,W⟩:=hs.ft e.g fn vz;have nJ:=W body hb;have t':=t.low (ρ':=cY (eW S.tree n) (low xs)) alq (YC nM hlen h9);have pS:I.ok (cY (eW S.tree n) (low xs)) E.ro w.heap:=⟨MB,lK _ _⟩;refine O3 ?_;obtain⟨s2,t2,Sz⟩:=I2 (E:={ E with ρ:=cY (eW S.tree n) (low xs) }) U t';exact (JY (B:=B) (v_ e fn) nJ rfl hm pg K? (O8 hs Gy he vz hb B hm ys) 1000).1 (0::p) b (.loop p b::fr) s2 lf { E with ρ:=cY (eW S.tree n) (low xs) } a w (by simp only [pI,Y]) Sz Z t2 pS hN DJ
theorem XG (hs:Gp S) {g j:Nat} {e:Bl} (hn:j∈S.Dd g) (he:S.bS j=some e) (hp:e.pat=none) (n:Nat):B' S.P S.G.ok g e.Gm e.lZ (eW S.tree n j):=by
 have:=(XH hs n).1 g j e hn he
 grind
end
end Go.As
end
section
namespace Go.As
open Go.RowKit
def CV:List (Nat×Nat)->Nat->Option Nat
 |[],_=>none
 |(t,k)::l,x=>match Nat.beq t x with
  |true=>some k
  |false=>CV l x
def LY (l:List (Nat×Nat)) (tt:TT):TT:=fun t=>match tt t with
 |some i=>some { i with own:=CV l t }
 |none=>none
section
variable {P:Program}
theorem aaA {l:List (Nat×Nat)} {tt:TT} (h:eJ P tt):eJ P (LY l tt):=by
 intro t i hi;unfold LY at hi;split at hi
 ·rename_i j hj;simp only [aq] at hi;subst hi;obtain⟨U,Z⟩:=h t j hj;exact⟨U,Z⟩
 grind
theorem O6 (l:List (Nat×Nat)) (tt:TT):kindOf (LY l tt)=kindOf tt:=by
 funext op;cases op
 case convert t u x=>
  simp only [kindOf,LY]
  cases ht:tt t with
  |none=>rfl
  |some i=>
   grind
 all_goals rfl
theorem HX (l:List (Nat×Nat)) (tt:TT) (all:List Oper) (ms:List Nat): ∀(os:List Oper) (i n:Nat),items (LY l tt) all ms os i n=items tt all ms os i n
 |[],_,_=>rfl
 |o::os,i,n=>by simp only [items,O6,HX l tt all ms os]
theorem XN (l:List (Nat×Nat)) (tt:TT) (all:List Oper):stat (LY l tt) all=stat tt all:=by
 unfold stat
 simp only [HX]
theorem u? (l:List (Nat×Nat)) (tt:TT) (H:Nat->Nat->Option Bb):KR (LY l tt) H=KR tt H:=by funext g id all;unfold KR;simp only [wa,XN]
end
structure FE where
 no:Nat
 g:Nat
 Gm:List RK
 lZ:List RK
 pat:Option (CS×List dO×Nat):=none
 pP:List CS:=[]
 gh:List (Nat×Nat):=[]
 wh:List Nat:=[]
 iK:Nat:=0
 tst:List (Nat×Nat):=[]
 fz:List (Nat×Nat×Nat):=[]
 Zv:List FH:=[]
 loops:List (List Nat×CS):=[]
def idxs (p:List Nat):List (List Nat×CS)->Nat->List (Nat×CS)
 |[],_=>[]
 |(q,c)::l,j=>match im q p with
  |true=>(j,c)::idxs p l (j+1)
  |false=>idxs p l (j+1)
def FE.fJ (f:FE):Dm:=fun p=>match idxs p f.loops (f.no+1) with
 |[]=>none
 |x::l=>some (x::l)
def FE.ent (f:FE):Bl:=⟨f.g,f.Gm,f.lZ,f.fJ,none,f.pat,f.pP,f.gh,f.wh,f.iK,f.tst,f.fz,f.Zv⟩
def vi (t:Nat->Option FE) (j:Nat):Option Bl:=match t (j / 50) with
 |none=>none
 |some f=>match j % 50 with
  |0=>some f.ent
  |i+1=>match fy f.loops i with
   |some x=>some { f.ent with pos:=some x }
   |none=>none
def YR:Option (Code×List FrE)->Bool
 |some (c,_)=>match c with
  | .loop _=>true
  |_=>false
 |none=>false
def JD (iK:Nat) (body:Code) (x:List Nat×CS):Bool:=YR (pI body x.1)&&wH x.2.k x.2&&Nat.ble x.2.k 900&&Nat.ble iK x.2.k
def aiL {α:Type}:List α->Bool
 |[]=>true
 |_=>false
def Zy (ft:Nat->Option Func) (k:Nat) (f:FE):Bool:=Nat.beq f.no (50*k)&&Nat.blt f.loops.length 50&&Nat.ble f.iK 900&&
 (match f.pat with
  |none=>Nat.ble (pE f.Gm).length 900&&aiL f.pP
  |some (c,ej,ko)=>wH c.k c&&Nat.ble c.k 900&&Nat.beq ej.length c.dB.length&&Hn f.pP&&nA ko ej&&Nat.ble ko 900&&nfs c.dB)&&
 (match ft f.g with
  |some fn=>match fn.body with
   |some body=>f.loops.all (JD f.iK body)
   |none=>false
  |none=>false)
def L3 (ft:Nat->Option Func) (t:Nat->Option FE) (g:Nat) (l:List Nat):Bool:=
 l.all fun j=>Nat.beq (j % 50) 0&&match t (j / 50) with
  |some f=>Nat.beq f.g g&&(match ft g with
   |some fn=>fn.body.isSome
   |none=>false)
  |none=>false
theorem FR: ∀{a b:List Nat},im a b=true->a=b
 |[],[],_=>rfl
 |[],_::_,h=>by simp [im] at h
 |_::_,[],h=>by simp [im] at h
 |a::x,b::y,h=>by
  simp only [im] at h;split at h
  ·rename_i U;rw [aA U,FR h]
  grind
theorem Af {p:List Nat}: ∀{l:List (List Nat×CS)} {n j:Nat} {c:CS},(j,c)∈idxs p l n->∃i,l[i]?=some (p,c)/\j=n+i
 |[],n,j,c,h=>by simp [idxs] at h
 |(q,c0)::l,n,j,c,h=>by
  simp only [idxs] at h;split at h
  ·rename_i hq;rcases aH.1 h with h|h
   ·simp only [au] at h;obtain⟨rfl,rfl⟩:=h;exact⟨0,by rw [FR hq]; rfl,rfl⟩
   ·obtain⟨i,U,Z⟩:=Af h;exact⟨i+1,by simpa using U,J⟩
  ·obtain⟨i,U,Z⟩:=Af h;exact⟨i+1,by simpa using U,J⟩
structure Vy where
 P:Program
 G:NW
 tt:TT
 ft:Nat->Option Func
 rL:Nat->Nat->List Oper->Bool
 draw:eu->Nat->Nat->List Oper->St->T St
 yb:Nat->Option (List AV->St->T (AV×St))
 t:Nat->Option FE
 Dd:Nat->List Nat
noncomputable def Vy.sys (S:Vy):Sys:=⟨S.P,S.G,S.tt,S.ft,S.rL,S.draw,S.yb,40,60,S.Dd,vi S.t⟩
theorem FT {t:Nat->Option FE} {j:Nat} {e:Bl} (h:vi t j=some e): ∃f pos,t (j / 50)=some f/\e= { f.ent with pos:=pos }:=by
 unfold vi at h;split at h
 ·grind
 ·rename_i f hf;split at h
  ·simp only [aq] at h;exact⟨f,none,hf,h.symm⟩
  grind
theorem Y? {S:Vy} (U:eJ S.P S.tt) (Z:VI S.P S.rL S.ft) (h3: ∀(I:bK) call,@iT I S.P call->∀g,@wQ I S.P (S.rL g) (S.draw call g)) (h4: ∀(I:bK),(∀ρ ro h,I.ok ρ ro h->S.G.ok ro h)->∀g h,S.yb g=some h->@kQ I S.P g h)
 (h5: ∀k f,S.t k=some f->Zy S.ft k f=true) (h6: ∀g,L3 S.ft S.t g (S.Dd g)=true):Gp S.sys where
 tt:=U
 ft:=Z
 draw:=h3
 yb:=h4
 run:=by
  intro g j hj args w;have hn:=h6 g;unfold L3 at hn;have:=bh.1 hn j hj;simp only [aw] at this;obtain⟨_,h⟩:=this;split at h
  ·simp only [aw] at h;obtain⟨_,h⟩:=h;split at h
   ·rename_i fn vz;obtain⟨q1,q2,_⟩:=Z g fn vz;obtain⟨c,hb⟩:=ant.1 h;unfold callFunc;simp [Vy.sys,q1,hb,by simpa using q2]
   ·simp at h
  ·simp at h
 num:=by
  intro g j e hj he;have hn:=h6 g;unfold L3 at hn;have:=bh.1 hn j hj;simp only [aw] at this;obtain⟨hm,h⟩:=this;have hm:=aA hm;have xm:vi S.t j=some e:=he;unfold vi at xm;split at h
  ·rename_i f hf;rw [hf,hm] at xm;simp only [aq] at xm;subst xm;simp only [aw] at h;have pf:=h5 _ _ hf;unfold Zy at pf;simp only [aw] at pf;obtain⟨⟨_,hp⟩,_⟩:=pf;refine⟨aA h.1,rfl,?_⟩
   show (match f.pat with
    |none=>_
    |some (c,ej,_)=>_)
   cases tY:f.pat with
   |none=>
    rw [tY] at hp;simp only [aw] at hp;refine⟨ane hp.1,?_⟩;show f.pP= []
    cases hr:f.pP with
    |nil=>rfl
    |cons a l=>rw [hr] at hp; simp [aiL] at hp
   |some q=> obtain⟨c,ej,ko⟩:=q;rw [tY] at hp;simp only [aw] at hp;obtain⟨⟨⟨⟨⟨⟨p1,p2⟩,p3⟩,p4⟩,_⟩,_⟩,p7⟩:=hp;exact⟨p1,ane p2,aA p3,fun _=>p4,p7⟩
  ·simp at h
 outs:=by
  intro j e he;obtain⟨f,pos,hf,rfl⟩:=FT he;have pf:=h5 _ _ hf;unfold Zy at pf;simp only [aw] at pf;obtain⟨⟨⟨_,hg⟩,hp⟩,_⟩:=pf;refine⟨?_,?_,ane hg⟩
  ·unfold Bl.ej Bl.ko;show nA (match f.pat with |none=>0|some (_,_,k)=>k) (match f.pat with |none=>[]|some (_,o,_)=>o)=true
   cases tY:f.pat with
   |none=>rfl
   |some q=> obtain⟨c,ej,ko⟩:=q;rw [tY] at hp;simp only [aw] at hp;exact hp.1.1.2
  ·unfold Bl.ko;show (match f.pat with |none=>0|some (_,_,k)=>k)<=900
   cases tY:f.pat with
   |none=>exact ans _
   |some q=> obtain⟨c,ej,ko⟩:=q;rw [tY] at hp;simp only [aw] at hp;exact ane hp.1.2
 bS:=by
  intro j e he fn body vz hb;obtain⟨f,pos,hf,rfl⟩:=FT he;have pf:=h5 _ _ hf;unfold Zy at pf;simp only [aw] at pf;obtain⟨⟨⟨⟨uc,hlen⟩,_⟩,_⟩,Y⟩:=pf;have uc:=aA uc;have hlen:f.loops.length<50:=Nat.lt_of_succ_le (by simpa [Nat.blt] using hlen);have alC:S.ft f.g=some fn:=vz;rw [alC] at Y;simp only [hb] at Y;intro p l hp;have fU:f.fJ p=some l:=hp
  have hl0:l=idxs p f.loops (f.no+1)/\l≠[]:=by
   unfold FE.fJ at fU;split at fU
   ·simp at fU
   ·rename_i x l' hx;simp only [aq] at fU;rw [hx,fU];exact⟨rfl,by rw [<- fU]; simp⟩
  have hY: ∀i c,f.loops[i]?=some (p,c)->JD f.iK body (p,c)=true:=fun i c hi=>bh.1 Y _ (amW hi);constructor
  ·obtain⟨Al,hl2⟩:=hl0
   cases hc:l with
   |nil=>exact absurd hc hl2
   |cons x l'=>
    obtain⟨j',c⟩:=x;have:(j',c)∈idxs p f.loops (f.no+1):=by rw [<- Al,hc]; simp
    obtain⟨i,hi,_⟩:=Af this;have:=hY i c hi;unfold JD at this;simp only [aw] at this;have hi:=this.1.1.1;unfold YR at hi;split at hi
    ·rename_i c' fr heq;split at hi
     ·rename_i b;exact⟨b,fr,heq⟩
     ·simp at hi
    ·simp at hi
  ·intro j' c hc;rw [hl0.1] at hc;obtain⟨i,hi,rfl⟩:=Af hc;have dK:=(bj.1 hi).1;have:=hY i c hi;unfold JD at this;simp only [aw] at this;obtain⟨⟨⟨_,q1⟩,q2⟩,q3⟩:=this;refine⟨?_,q1,ane q2,ane q3⟩;show vi S.t (f.no+1+i)=_;have W:(f.no+1+i) / 50=j / 50:=by rw [uc]; omega
   have hm:(f.no+1+i) % 50=i+1:=by rw [uc]; omega
   unfold vi;rw [W,hf,hm];simp only;rw [du,hi]
end Go.As
end
section
namespace Go.As
open Go.RowKit
def u8L (l:List Int):List AV:=l.map fun n=> .int .u8 (.lit n)
noncomputable section
def a0 (j:Nat) (l:List V):V:=.ap (2*j) (gy l)
def a1 (j:Nat) (l:List V):V:=.ap (2*j+1) (gy l)
def rr (j:Nat) (l:List V) (i:Nat):V:=pA (.ap (2*j+1) (gy l)) i
def nm (x:V):V:=.op .num x (.lit 0)
def mk (x:V):V:=.op .mk x (.lit 0)
def ln (x:V):V:=.op .len x (.lit 0)
def ce (j:Nat) (x:V):V:=.op (.cell j) x (.lit 0)
def el (x y:V):V:=.op .at x y
def cn (x y:V):V:=.op .cons x y
def wr (x:V):V:=.wrap .i64 x
def sp (c:SB) (a b:T Lf):T Lf:=.split c a b
def ou (l:List V):T Lf:=.ret (.out l)
def ju (j:Nat) (l:List V):T Lf:=.ret (.jump j l)
def fl:T Lf:=.fail
end
end Go.As
end
section
namespace Go.As
open Go.RowKit
def xI (kn:List (Nat×V)):V->Bool
 | .ap f a=>xI kn a&&kn.any fun p=>Nat.beq f (2*p.1+1)&&fv a p.2
 | .op _ a b=>xI kn a&&xI kn b
 | .add a b=>xI kn a&&xI kn b
 | .sub a b=>xI kn a&&xI kn b
 | .mul a b=>xI kn a&&xI kn b
 | .quo a b=>xI kn a&&xI kn b
 | .rem a b=>xI kn a&&xI kn b
 | .wrap _ a=>xI kn a
 | .ya _ _=>false
 | .lit _=>true
 | .eD _=>true
 | .dD i=>Nat.blt i 900
def I? (kn:List (Nat×V)):SB->Bool
 | .lit _=>true
 | .lt a b=>xI kn a&&xI kn b
 | .le a b=>xI kn a&&xI kn b
 | .eq a b=>xI kn a&&xI kn b
 | .not a=>I? kn a
 | .and a b=>I? kn a&&I? kn b
def Cj:SB->Option (Nat×V)
 | .eq x y=>match x with
   | .ap f a=>match y with
     | .lit n=>match vV n 1&&Nat.beq (f % 2) 0 with
       |true=>some (f / 2,a)
       |false=>none
     |_=>none
   |_=>none
 |_=>none
def afw:T Lf->Bool
 | .fail=>true
 |_=>false
def Yj (kn:List (Nat×V)):List V->Bool
 |[]=>true
 |e::l=>xI kn e&&Yj kn l
def N5 (kn:List (Nat×V)):T Lf->Bool
 | .fail=>true
 | .ret l=>match l with
   | .out es=>Yj kn es
   | .jump _ es=>Yj kn es
 | .split c x y=>match Cj c with
   |some p=>xI kn p.2&&N5 (p::kn) x&&afw y
   |none=>I? kn c&&N5 kn x&&N5 kn y
inductive RS where
 |no
 |out (ys:List Int)
 |jump (j:Nat) (xs:List Int)
noncomputable def dY (ρ:Nat->Int):T Lf->RS
 | .fail=> .no
 | .ret l=>match l with
   | .out es=> .out (es.map (V.den ρ))
   | .jump j es=> .jump j (es.map (V.den ρ))
 | .split c x y=>if c.den ρ=true then dY ρ x else dY ρ y
theorem zF {tree:Nat->T Lf} {n j:Nat} {xs:List Int}:eW tree (n+1) j xs=match dY (cY (eW tree n) (low xs)) (tree j) with
 | .no=>none
 | .out ys=>some ys
 | .jump j' xs'=>eW tree n j' xs':=by
 have: ∀t:T Lf,(match t.leaf (cY (eW tree n) (low xs)) with
  |none=>none
  |some (.out es)=>some (es.map (V.den (cY (eW tree n) (low xs))))
  |some (.jump j' es)=>eW tree n j' (es.map (V.den (cY (eW tree n) (low xs)))))=match dY (cY (eW tree n) (low xs)) t with
  | .no=>none
  | .out ys=>some ys
  | .jump j' xs'=>eW tree n j' xs':=by
  intro t
  induction t with
  |fail=>rfl
  |ret l=>cases l<;>rfl
  |split c x y ihx ihy=>
   grind [T.leaf,dY]
 exact this (tree j)
def Fle (F F':oZ):Prop:= ∀j xs ys,F j xs=some ys->F' j xs=some ys
def Kn (F F':oZ) (lo:Nat->Int) (kn:List (Nat×V)):Prop:= ∀p∈kn,p.2.den (cY F lo)=p.2.den (cY F' lo)/\∃xs ys,p.2.den (cY F lo)=mZ xs/\F p.1 xs=some ys
theorem Ix {F:oZ} {lo:Nat->Int} {j:Nat} {z:Int} (h:cY F lo (jN (2*j) z)=1): ∃xs ys,z=mZ xs/\F j xs=some ys:=by
 have U:=wM (2*j) z;unfold cY at h;rw [ak J] at h;split at h
 ·rename_i hp;obtain⟨q1,q2⟩:=tv hp.choose_spec;have q1:hp.choose.1=j:=J
  split at h
  ·rename_i hs;obtain⟨ys,hy⟩:=ant.1 hs
   grind
  ·omega
 ·split at h
  ·rename_i hp;have:=(tv hp.choose_spec).1;omega
  ·omega
section
variable {F F':oZ} {lo:Nat->Int}
theorem gm (hF:Fle F F') {kn:List (Nat×V)} (hk:Kn F F' lo kn): ∀{e:V},xI kn e=true->e.den (cY F lo)=e.den (cY F' lo)
 | .ap f a,h=>by simp only [xI,aw] at h;have ha:=gm hF hk h.1;obtain⟨p,hp,hq⟩:=aoJ.1 h.2;simp only [aw] at hq;have U:=aA hq.1;have Z:=cR _ _ hq.2;subst Z;obtain⟨k1,xs,ys,k2,k3⟩:=hk p hp;simp only [V.den];rw [<- k1,k2,U,(lK F lo p.1 xs).2,(lK F' lo p.1 xs).2,k3,hF _ _ _ k3]
 | .op o a b,h=>by simp only [xI,aw] at h; simp only [V.den,gm hF hk h.1,gm hF hk h.2]
 | .add a b,h=>by simp only [xI,aw] at h; simp only [V.den,gm hF hk h.1,gm hF hk h.2]
 | .sub a b,h=>by simp only [xI,aw] at h; simp only [V.den,gm hF hk h.1,gm hF hk h.2]
 | .mul a b,h=>by simp only [xI,aw] at h; simp only [V.den,gm hF hk h.1,gm hF hk h.2]
 | .quo a b,h=>by simp only [xI,aw] at h; simp only [V.den,gm hF hk h.1,gm hF hk h.2]
 | .rem a b,h=>by simp only [xI,aw] at h; simp only [V.den,gm hF hk h.1,gm hF hk h.2]
 | .wrap k a,h=>by simp only [xI] at h; simp only [V.den,gm hF hk h]
 | .ya _ _,h=>by simp [xI] at h
 | .lit _,_=>rfl
 | .eD _,_=>rfl
 | .dD i,h=>by simp_all [xI,V.den,tm]
theorem zT (hF:Fle F F') {kn:List (Nat×V)} (hk:Kn F F' lo kn): ∀{c:SB},I? kn c=true->c.den (cY F lo)=c.den (cY F' lo)
 | .lit _,_=>rfl
 | .lt a b,h=>by simp only [I?,aw] at h; simp only [SB.den,gm hF hk h.1,gm hF hk h.2]
 | .le a b,h=>by simp only [I?,aw] at h; simp only [SB.den,gm hF hk h.1,gm hF hk h.2]
 | .eq a b,h=>by simp only [I?,aw] at h; simp only [SB.den,gm hF hk h.1,gm hF hk h.2]
 | .not a,h=>by simp only [I?] at h; simp only [SB.den,zT hF hk h]
 | .and a b,h=>by simp only [I?,aw] at h; simp only [SB.den,zT hF hk h.1,zT hF hk h.2]
theorem vQ (hF:Fle F F') {kn:List (Nat×V)} (hk:Kn F F' lo kn): ∀{es:List V},Yj kn es=true->es.map (V.den (cY F lo))=es.map (V.den (cY F' lo))
 |[],_=>rfl
 |e::l,h=>by simp only [Yj,aw] at h;simp only [aK,gm hF hk h.1,vQ hF hk h.2]
theorem C4 {c:SB} {p:Nat×V} (h:Cj c=some p):c= .eq (.ap (2*p.1) p.2) (.lit 1):=by
 cases c with
 |eq x y=>
  cases x with
  |ap f a=>
   cases y with
   |lit n=>
    simp only [Cj] at h;split at h
    ·rename_i hb;simp only [aq] at h;simp only [aw] at hb;have U:=xj hb.1;have Z:=aA hb.2
     grind
    grind
   |_=>simp [Cj] at h
  |_=>simp [Cj] at h
 |_=>simp [Cj] at h
theorem zu (hF:Fle F F'): ∀{t:T Lf} {kn:List (Nat×V)},Kn F F' lo kn->N5 kn t=true->dY (cY F lo) t≠.no->dY (cY F' lo) t=dY (cY F lo) t
 | .fail,_,_,_,h=>absurd rfl h
 | .ret (.out es),_,hk,ho,_=>by simp only [N5] at ho; simp only [dY,vQ hF hk ho]
 | .ret (.jump j es),_,hk,ho,_=>by simp only [N5] at ho; simp only [dY,vQ hF hk ho]
 | .split c x y,kn,hk,ho,h=>by
   simp only [N5] at ho;split at ho
   ·rename_i p hp;simp only [aw] at ho;obtain⟨⟨U,Z⟩,h3⟩:=ho;have hc:=C4 hp;subst hc
    have hy:y= .fail:=by
     grind [afw]
    subst hy;have W:=gm hF hk U;simp only [dY,SB.den,V.den] at h ⊢;by_cases h4:cY F lo (jN (2*p.1) (p.2.den (cY F lo)))=1
    ·obtain⟨xs,ys,e1,e2⟩:=Ix h4;have e3:=hF _ _ _ e2
     have h5:cY F' lo (jN (2*p.1) (p.2.den (cY F' lo)))=1:=by rw [<- W,e1,(lK F' lo p.1 xs).1,e3];rfl
     have c4:(cY F lo (jN (2*p.1) (p.2.den (cY F lo))) == 1)=true:=by rw [h4]; rfl
     have c5:(cY F' lo (jN (2*p.1) (p.2.den (cY F' lo))) == 1)=true:=by rw [h5]; rfl
     simp only [c4,c5,if_true] at h ⊢;refine zu hF (kn:=p::kn) ?_ Z h;intro q hq;rcases aH.1 hq with rfl|hq
     ·grind
     ·exact hk q hq
    grind
   ·simp only [aw] at ho;obtain⟨⟨U,Z⟩,h3⟩:=ho;have hc:=zT hF hk U;simp only [dY] at h ⊢;rw [<- hc];by_cases h4:c.den (cY F lo)=true
    ·rw [an h4] at h ⊢;rw [an h4];exact zu hF hk Z h
    ·rw [ak h4] at h ⊢;rw [ak h4];exact zu hF hk h3 h
end
section
variable {tree:Nat->T Lf} (pf: ∀j,N5 [] (tree j)=true)
include pf
theorem Hk {n:Nat} {F':oZ} (hF:Fle (eW tree n) F') {j:Nat} {xs ys:List Int} (h:eW tree (n+1) j xs=some ys) :
 (match dY (cY F' (low xs)) (tree j) with
 | .no=>none
 | .out ys=>some ys
 | .jump j' xs'=>F' j' xs')=some ys:=by
 rw [zF] at h
 have gb:dY (cY (eW tree n) (low xs)) (tree j)≠.no:=by
  intro he
  grind
 rw [zu hF (kn:=[]) (by intro p hp; simp at hp) (pf j) gb];split at h
 ·grind
 ·rename_i heq; exact h
 ·rename_i heq; exact hF _ _ _ h
theorem Hl: ∀n,Fle (eW tree n) (eW tree (n+1))
 |0=>fun j xs ys h=>by simp [eW] at h
 |n+1=>fun j xs ys h=>by rw [zF (n:=n+1)];exact Hk pf (Hl n) h
theorem zG {n m:Nat} (h:n<=m):Fle (eW tree n) (eW tree m):=by
 induction h with
 |refl=>exact fun _ _ _ h=>h
 |step _ ih=>exact fun j xs ys h=>Hl pf _ _ _ _ (ih _ _ _ h)
end
open Classical in
noncomputable def pJ (tree:Nat->T Lf):oZ:=fun j xs=>if h: ∃n ys,eW tree n j xs=some ys then some h.choose_spec.choose else none
section
variable {tree:Nat->T Lf} (pf: ∀j,N5 [] (tree j)=true)
include pf
theorem O5 {n j:Nat} {xs ys:List Int} (h:eW tree n j xs=some ys):pJ tree j xs=some ys:=by
 unfold pJ;have he: ∃n ys,eW tree n j xs=some ys:=⟨n,ys,h⟩;rw [dif_pos he];have Z:=he.choose_spec.choose_spec;have h3:=zG pf (Nat.le_max_left n he.choose) _ _ _ h;have h4:=zG pf (Nat.le_max_right n he.choose) _ _ _ Z
 grind
omit pf in
theorem JG {j:Nat} {xs ys:List Int} (h:pJ tree j xs=some ys): ∃n,eW tree n j xs=some ys:=by
 unfold pJ at h;split at h
 all_goals grind
theorem EW (n:Nat):Fle (eW tree n) (pJ tree):=fun _ _ _ h=>O5 pf h
def KnS (tree:Nat->T Lf) (n0:Nat) (lo:Nat->Int) (kn:List (Nat×V)):Prop:= ∀m,n0<=m->Kn (eW tree m) (pJ tree) lo kn
theorem vH {lo:Nat->Int}: ∀{t:T Lf} {kn:List (Nat×V)} (n0:Nat),KnS tree n0 lo kn->N5 kn t=true->dY (cY (pJ tree) lo) t≠.no->∃n,∀m,n<=m->dY (cY (eW tree m) lo) t=dY (cY (pJ tree) lo) t
 | .fail,_,_,_,_,h=>absurd rfl h
 | .ret (.out es),_,n0,hk,ho,_=> ⟨n0,fun m hm=>by simp only [N5] at ho; simp only [dY,vQ (EW pf m) (hk m hm) ho]⟩
 | .ret (.jump j es),_,n0,hk,ho,_=> ⟨n0,fun m hm=>by simp only [N5] at ho; simp only [dY,vQ (EW pf m) (hk m hm) ho]⟩
 | .split c x y,kn,n0,hk,ho,h=>by
   simp only [N5] at ho;split at ho
   ·rename_i p hp;simp only [aw] at ho;obtain⟨⟨U,Z⟩,h3⟩:=ho;have hc:=C4 hp;subst hc
    have hy:y= .fail:=by
     grind [afw]
    subst hy;have W: ∀m,n0<=m->p.2.den (cY (eW tree m) lo)=p.2.den (cY (pJ tree) lo):=fun m hm=>gm (EW pf m) (hk m hm) U;simp only [dY,SB.den,V.den] at h ⊢;by_cases h4:cY (pJ tree) lo (jN (2*p.1) (p.2.den (cY (pJ tree) lo)))=1
    ·have c4:(cY (pJ tree) lo (jN (2*p.1) (p.2.den (cY (pJ tree) lo))) == 1)=true:=by rw [h4]; rfl
     obtain⟨xs,ys,e1,e2⟩:=Ix h4;obtain⟨n1,e3⟩:=JG e2;simp only [c4,if_true] at h ⊢
     have Bg:KnS tree (max n0 n1) lo (p::kn):=by
      intro m hm q hq;rcases aH.1 hq with rfl|hq
      ·refine⟨W m J,xs,ys,by rw [W m J]; exact e1,zG pf (show n1<=m by omega) _ _ _ e3⟩
      ·exact hk m J q hq
     obtain⟨n2,h5⟩:=vH (max n0 n1) Bg Z h;refine⟨max (max n0 n1) n2,fun m hm=>?_⟩
     have c5:(cY (eW tree m) lo (jN (2*p.1) (p.2.den (cY (eW tree m) lo))) == 1)=true:=by rw [W m J,e1,(lK (eW tree m) lo p.1 xs).1,zG pf (show n1<=m by omega) _ _ _ e3];rfl
     grind
    grind
   ·simp only [aw] at ho;obtain⟨⟨U,Z⟩,h3⟩:=ho;have hc: ∀m,n0<=m->c.den (cY (eW tree m) lo)=c.den (cY (pJ tree) lo):=fun m hm=>zT (EW pf m) (hk m hm) U;simp only [dY] at h ⊢;by_cases h4:c.den (cY (pJ tree) lo)=true
    ·rw [an h4] at h;obtain⟨n2,h5⟩:=vH n0 hk Z h;refine⟨max n0 n2,fun m hm=>?_⟩
     grind
    ·rw [ak h4] at h;obtain⟨n2,h5⟩:=vH n0 hk h3 h;refine⟨max n0 n2,fun m hm=>?_⟩
     grind
noncomputable def fin (F:oZ):RS->Option (List Int)
 | .no=>none
 | .out ys=>some ys
 | .jump j xs=>F j xs
theorem afr (j:Nat) (xs:List Int):pJ tree j xs=fin (pJ tree) (dY (cY (pJ tree) (low xs)) (tree j)):=by
 cases h:pJ tree j xs with
 |some ys=>
  obtain⟨n,hn⟩:=JG h
  cases n with
  |zero=>simp [eW] at hn
  |succ n=> have:=Hk pf (EW pf n) hn;rw [<- this];cases dY (cY (pJ tree) (low xs)) (tree j)<;>rfl
 |none=>
  cases hs:dY (cY (pJ tree) (low xs)) (tree j) with
  |no=>rfl
  |out ys=>
   exfalso;obtain⟨n,hn⟩:=vH pf (lo:=low xs) (t:=tree j) (kn:=[]) 0 (by intro m _ p hp; simp at hp) (pf j) (by rw [hs]; simp);have:eW tree (n+1) j xs=some ys:=by rw [zF,hn n (az _),hs]
   grind [O5]
  |jump j' xs'=>
   show none=pJ tree j' xs'
   cases Z:pJ tree j' xs' with
   |none=>rfl
   |some ys=>
    exfalso;obtain⟨n,hn⟩:=vH pf (lo:=low xs) (t:=tree j) (kn:=[]) 0 (by intro m _ p hp; simp at hp) (pf j) (by rw [hs]; simp);obtain⟨n2,h3⟩:=JG Z
    have:eW tree (max n n2+1) j xs=some ys:=by rw [zF,hn _ (Nat.le_max_left _ _),hs];exact zG pf (Nat.le_max_right n n2) _ _ _ h3
    grind [O5]
end
theorem T4 {S:Vy} {j:Nat} (h:vi S.t j=none):N5 [] (S.sys.tree j)=true:=by
 have:S.sys.tree j= .fail:=by unfold Sys.tree;show (match vi S.t j with |none=>T.fail|some e=>oy S.sys e)=_;rw [h]
 rw [this];rfl
def YV (j:Nat):List Nat->Bool
 |[]=>false
 |i::l=>match Nat.beq i j with
  |true=>true
  |false=>YV j l
theorem Mn {j:Nat}: ∀{l:List Nat},YV j l=true->j∈l
 |[],h=>by simp [YV] at h
 |i::l,h=>by
  simp only [YV] at h;split at h
  ·rename_i hb;rw [aA hb];simp
  ·exact an2 _ (Mn h)
def ad8 (t:Nat->Option FE) (N:Nat) (l:List Nat):Bool:=(List.range N).all fun k=>match t k with
 |none=>true
 |some f=>(List.range (f.loops.length+1)).all fun i=>YV (50*k+i) l
theorem cov {t:Nat->Option FE} {N:Nat} {l:List Nat} (h:ad8 t N l=true) (hN: ∀k,N<=k->t k=none) {j:Nat} {e:Bl} (he:vi t j=some e):j∈l:=by
 unfold vi at he;split at he
 ·grind
 ·rename_i f hf
  have hk:j / 50<N:=by
   grind
  have:=bh.1 h _ (anc.2 hk);rw [hf] at this
  have hm:j % 50<f.loops.length+1:=by
   split at he
   ·omega
   ·rename_i i hi;split at he
    ·rename_i x hx;rw [du] at hx
     grind
    grind
  have:=Mn (bh.1 this _ (anc.2 hm))
  grind
theorem YH {α:Type} {n:Nat} {t:Tr α} {k:Nat} (h:n<=k):HV n t k=none:=by unfold HV;rw [an0 h]
section
variable {F:oZ} {lo:Nat->Int} {ρ:Nat->Int} {xs:List Int}
theorem eh (c:SB) (a b:T Lf):dY ρ (sp c a b)=if c.den ρ=true then dY ρ a else dY ρ b:=rfl
theorem iO (l:List V):dY ρ (ou l)= .out (l.map (V.den ρ)):=rfl
theorem lY (j:Nat) (l:List V):dY ρ (ju j l)= .jump j (l.map (V.den ρ)):=rfl
theorem tI:dY ρ fl= .no:=rfl
theorem bQ {i:Nat} (h:i<900):(V.dD i).den (cY F lo)=lo i:=tm h
theorem bM (x:Int):low (x::xs) 0=x:=rfl
theorem bN (x:Int) (i:Nat):low (x::xs) (i+1)=low xs i:=rfl
theorem cU (n:Int):(V.lit n).den ρ=n:=rfl
theorem gO (d:D):(V.eD d).den ρ=enc d:=rfl
theorem den_add (a b:V):(V.add a b).den ρ=a.den ρ+b.den ρ:=rfl
theorem aby (a b:V):(V.sub a b).den ρ=a.den ρ-b.den ρ:=rfl
theorem wF (a:V):(wr a).den ρ=IntKind.i64.wrap (a.den ρ):=rfl
theorem Cg (a:V):(nm a).den ρ=(dec (a.den ρ)).n:=rfl
theorem F0 (a:V):(mk a).den ρ=enc (.i (a.den ρ)):=rfl
theorem gp (a:V):(ln a).den ρ=((dec (a.den ρ)).l.length:Int):=rfl
theorem q_ (j:Nat) (a:V):(ce j a).den ρ=enc ((dec (a.den ρ)).W j):=rfl
theorem Ch (a b:V):(el a b).den ρ=enc ((dec (a.den ρ)).at (b.den ρ)):=rfl
theorem F1 (a b:V):(cn a b).den ρ=enc (.p (dec (a.den ρ)) (dec (b.den ρ))):=rfl
theorem FZ (o:fX) (a b:V):(V.op o a b).den ρ=o.den (a.den ρ) (b.den ρ):=rfl
theorem gA (j:Nat) (l:List V):(a0 j l).den (cY F lo)=if (F j (l.map (V.den (cY F lo)))).isSome=true then 1 else 0:=by unfold a0;show cY F lo (jN (2*j) ((gy l).den (cY F lo)))=_;rw [jR,(lK F lo j _).1]
theorem fW (j:Nat) (l:List V) (i:Nat):(rr j l i).den (cY F lo)=low ((F j (l.map (V.den (cY F lo)))).getD []) i:=by unfold rr pA;show (dec (enc ((dec (cY F lo (jN (2*j+1) ((gy l).den (cY F lo))))).W i))).n=_;rw [jR,(lK F lo j _).2,bD];simp only [mZ,bD,D.W,bE,bp];unfold low;rw [aoh];cases ((F j (l.map (V.den (cY F lo)))).getD [])[i]?<;>rfl
theorem gE (a b:V):((SB.eq a b).den ρ=true)=(a.den ρ=b.den ρ):=by simp [SB.den]
theorem lO (a b:V):((SB.lt a b).den ρ=true)=(a.den ρ<b.den ρ):=by simp [SB.den]
theorem eF (a:SB):((SB.not a).den ρ=true)= ¬(a.den ρ=true):=by simp [SB.den]
end
def dV:IntKind->Int->Prop
 | .i64,n=> -9223372036854775808<=n/\n<=9223372036854775807
 | .u8,n=>0<=n/\n<=255
 |_,_=>True
def tu:Nat->Nat
 |0=>8
 |1=>8
 |2=>16
 |3=>56
 |4=>64
 |5=>64
 |6=>56
 |7=>80
 |8=>64
 |9=>40
 |10=>24
 |11=>24
 |12=>16
 |13=>40
 |14=>1
 |15=>24
 |16=>48
 |_=>1
theorem w_ (t:Nat):1<=tu t:=by
 unfold tu
 grind
inductive Wd:CK->D->Prop where
 |int (k:IntKind) (n:Int) (h:dV k n):Wd (.int k) (.i n)
 |bool (b:Bool):Wd .bool (.i (if b then 1 else 0))
 |str (s:ByteArray) (h:s.size<=140737488351232):Wd .str (uN s)
 |nil (t:Nat):Wd (.sl t) (.i 1)
 |xc (t:Nat):Wd (.sl t) (.i 2)
 |one (t:Nat) (c:CK) (ds:List D) (hr:rowOf t= .one c) (hn:ds≠[]) (hm:ds.length*tu t<=140737488351232) (h: ∀d∈ds,Wd c d):Wd (.sl t) (dL ds)
 |many (t:Nat) (cs:List CK) (rows:List (List D)) (hr:rowOf t= .many cs) (hn:rows≠[]) (hm:rows.length*tu t<=140737488351232) (Y: ∀r∈rows,r.length=cs.length)
  (h: ∀r∈rows,∀(j:Nat) (d:D) (c:CK),r[j]?=some d->cs[j]?=some c->Wd c d):Wd (.sl t) (dL (rows.map dL))
def Sh (d:D):Prop:=d= .i 1\/d= .i 2\/(d=dL d.l/\d.l≠[])
theorem Wd.sh {t:Nat} {d:D} (h:Wd (.sl t) d):Sh d:=by
 cases h with
 |nil=>exact .inl rfl
 |xc=>exact .inr (.inl rfl)
 |one _ c ds hr hn hm h=>exact .inr (.inr ⟨by rw [bE],by rw [bE]; exact hn⟩)
 |many _ cs rows hr hn hm Y h=>exact .inr (.inr ⟨by rw [bE],by rw [bE]; simpa using hn⟩)
theorem Wd.i {k:IntKind} {d:D} (h:Wd (.int k) d): ∃n,d= .i n/\dV k n:=by
 cases h with
 |int _ n h=>exact⟨n,rfl,h⟩
theorem Wd.b {d:D} (h:Wd .bool d):d= .i 0\/d= .i 1:=by
 cases h with
 |bool b=>cases b<;>simp
theorem Wd.s {d:D} (h:Wd .str d): ∃s,d=uN s:=by
 cases h with
 |str s=>exact⟨s,rfl⟩
theorem Wd.room {t:Nat} {d:D} (h:Wd (.sl t) d):d.l.length*tu t<=140737488351232:=by
 cases h with
 |nil=>simp [D.l]
 |xc=>simp [D.l]
 |one _ c ds hr hn hm h=>rw [bE]; exact hm
 |many _ cs rows hr hn hm Y h=>rw [bE,bw]; exact hm
theorem Wd.len {t:Nat} {d:D} (h:Wd (.sl t) d):d.l.length<=140737488351232:=
 bq (Nat.le_mul_of_pos_right _ (w_ t)) h.room
theorem Wd.el1 {t:Nat} {c:CK} {d:D} (h:Wd (.sl t) d) (hr:rowOf t= .one c): ∀x∈d.l,Wd c x:=by
 cases h with
 |nil=>intro x hx; simp [D.l] at hx
 |xc=>intro x hx; simp [D.l] at hx
 |one _ c' ds Ms hn hm h=>
  rw [hr] at Ms;simp only [Row.one.injEq] at Ms;subst Ms;intro x hx;rw [bE] at hx
  grind
 |many _ cs rows Ms hn hm Y h=>rw [hr] at Ms; simp at Ms
theorem Wd.elN {t:Nat} {cs:List CK} {d:D} (h:Wd (.sl t) d) (hr:rowOf t= .many cs): ∀x∈d.l,∃r,x=dL r/\r.length=cs.length/\∀(j:Nat) (y:D) (c:CK),r[j]?=some y->cs[j]?=some c->Wd c y:=by
 cases h with
 |nil=>intro x hx; simp [D.l] at hx
 |xc=>intro x hx; simp [D.l] at hx
 |one _ c' ds Ms hn hm h=>rw [hr] at Ms; simp at Ms
 |many _ mB rows Ms hn hm Y h=>
  rw [hr] at Ms;simp only [Row.many.injEq] at Ms;subst Ms;intro x hx;rw [bE] at hx
  grind
def isDecl (x:D):Prop:= ∃(k n ln:Int) (s s':ByteArray),x=dL [.i k,uN s,.i n,uN s',.i ln]/\dV .u8 k/\dV .i64 n/\dV .i64 ln
def xi (x:D):Prop:= ∃(o c d g:Int) (r v:D),x=dL [.i o,.i c,.i d,.i g,r,v]/\dV .i64 o/\dV .i64 c/\(d=0\/d=1)/\dV .i64 g/\Wd (.sl 0) r/\Wd (.sl 0) v
theorem alO {α:Type} {r:List α} (h:r.length=5): ∃a b c d e,r= [a,b,c,d,e]:=by
 match r,h with
 |[a,b,c,d,e],_=>exact⟨a,b,c,d,e,rfl⟩
theorem six {α:Type} {r:List α} (h:r.length=6): ∃a b c d e f,r= [a,b,c,d,e,f]:=by
 match r,h with
 |[a,b,c,d,e,f],_=>exact⟨a,b,c,d,e,f,rfl⟩
theorem Wd.decl {d:D} (h:Wd (.sl 3) d): ∀x∈d.l,isDecl x:=by intro x hx;obtain⟨r,rfl,Y,hc⟩:=h.elN (cs:=[.int .u8,.str,.int .i64,.str,.int .i64]) rfl x hx;obtain⟨a,b,c,d,e,rfl⟩:=alO Y;obtain⟨k,rfl,hk⟩:=(hc 0 _ _ rfl rfl).i;obtain⟨s,rfl⟩:=(hc 1 _ _ rfl rfl).s;obtain⟨n,rfl,hn⟩:=(hc 2 _ _ rfl rfl).i;obtain⟨s',rfl⟩:=(hc 3 _ _ rfl rfl).s;obtain⟨ln,rfl,Pk⟩:=(hc 4 _ _ rfl rfl).i;exact⟨k,n,ln,s,s',rfl,hk,hn,Pk⟩
theorem Wd.mO {d:D} (h:Wd (.sl 7) d): ∀x∈d.l,xi x:=by
 intro x hx;obtain⟨r,rfl,Y,hc⟩:=h.elN (cs:=[.int .i64,.int .i64,.bool,.int .i64,.sl 0,.sl 0]) rfl x hx;obtain⟨a,b,c,d,e,f,rfl⟩:=six Y;obtain⟨o,rfl,ho⟩:=(hc 0 _ _ rfl rfl).i;obtain⟨k,rfl,hk⟩:=(hc 1 _ _ rfl rfl).i;obtain⟨g,rfl,hg⟩:=(hc 3 _ _ rfl rfl).i;rcases (hc 2 _ _ rfl rfl).b with rfl|rfl
 ·exact⟨o,k,0,g,e,f,rfl,ho,hk,.inl rfl,hg,hc 4 _ _ rfl rfl,hc 5 _ _ rfl rfl⟩
 ·exact⟨o,k,1,g,e,f,rfl,ho,hk,.inr rfl,hg,hc 4 _ _ rfl rfl,hc 5 _ _ rfl rfl⟩
theorem me {z:Int} (U: -9223372036854775808<=z) (Z:z<=9223372036854775807):IntKind.i64.wrap z=z:=IntWalk.i64_in z ⟨U,Z⟩
theorem bO {n:Nat} (h:n<9223372036854775807):IntKind.i64.wrap ((n:Int)+1)=((n+1:Nat):Int):=by rw [me J J]; omega
theorem nI (n:Int):(D.i n).n=n:=rfl
theorem l_p (a b:D):(D.p a b).l=a::b.l:=rfl
theorem jn (n:Int):(D.i n).l= []:=rfl
theorem eT (l:List D) (j:Nat):(dL l).W j=(l[j]?).getD (.i 0):=by unfold D.W; rw [bE]
theorem j5 (d:D) (i:Nat):d.at (i:Int)=(d.l[i]?).getD (.i 0):=rfl
theorem bT {d:D} {i:Nat} (h:i<d.l.length):d.at (i:Int)=d.l[i]:=by rw [j5,aW h];rfl
end Go.As
end
section
namespace Go.As
open Go Go.RowKit
theorem add_add (a:Addr) (m n:Nat):(a.add m).add n=a.add (m+n):=by
 unfold Addr.add;by_cases U:m=0
 ·subst U; simp
 ·by_cases Z:n=0
  ·subst Z; simp
  ·simp [U,Z,am0]
def lP (i:Nat):List CK:=match rowOf i with
 | .one c=>[c]
 | .many cs=>cs
def Fu (F:TypeId->Option (List CK)) (P:Program):List Field->Nat->Nat->Option (List CK)
 |[],o,tot=>if o=tot then some [] else none
 |f::fs,o,tot=>match F f.type with
  |none=>none
  |some cs=>if f.offset=o/\P.cellsOf f.type=cs.length then (match Fu F P fs (o+cs.length) tot with
   |none=>none
   |some l=>some (cs++l)) else none
def te (P:Program) (own:TypeId->Option Nat):Nat->TypeId->Option (List CK)
 |0,_=>none
 |n+1,t=>match P.underlying t with
  |some .bool=>some [.bool]
  |some (.int k)=>some [.int k]
  |some .string=>some [.str]
  |some (.slice _)=>match own t with
   |some i=>some [.sl i]
   |none=>none
  |some (.struct fs)=>Fu (te P own n) P fs.toList 0 (P.cellsOf t)
  |some (.array m e)=>match te P own n e with
   |some cs=>if P.cellsOf e=cs.length/\P.cellsOf t=m*cs.length then some (List.replicate m cs).flatten else none
   |none=>none
  |_=>none
def G! (P:Program) (own:TypeId->Option Nat):Prop:= ∀t i,own t=some i->∃e n,P.underlying t=some (.slice e)/\te P own n e=some (lP i)/\P.cellsOf e=(lP i).length/\tu i<=P.bytesOf e/\0<(lP i).length
inductive Rs (ro:Nat->Prop) (h:Array Obj):List CK->List D->List Value->Prop where
 |nil:Rs ro h [] [] []
 |cons {c:CK} {d:D} {v:Value} {cs:List CK} {ds:List D} {vs:List Value} (r:Rd ro h c d v) (w:Wd c d) (t:Rs ro h cs ds vs):Rs ro h (c::cs) (d::ds) (v::vs)
section
variable {ro:Nat->Prop} {h:Array Obj}
theorem Rs.append {cs mB:List CK} {ds ds':List D} {vs N2:List Value} (a:Rs ro h cs ds vs) (b:Rs ro h mB ds' N2):Rs ro h (cs++mB) (ds++ds') (vs++N2):=by
 induction a with
 |nil=>exact b
 |cons r w _ ih=>exact .cons r w ih
theorem Rs.len {cs:List CK} {ds:List D} {vs:List Value} (a:Rs ro h cs ds vs):ds.length=cs.length/\vs.length=cs.length:=by
 induction a with
 |nil=>exact⟨rfl,rfl⟩
 |cons r w _ ih=>exact⟨by simp [ih.1],by simp [ih.2]⟩
theorem Rs.at {cs:List CK} {ds:List D} {vs:List Value} (a:Rs ro h cs ds vs): ∀{j:Nat} {d:D} {c:CK},ds[j]?=some d->cs[j]?=some c->∃v,vs[j]?=some v/\Rd ro h c d v/\Wd c d:=by
 induction a with
 |nil=>intro j d c U _; simp at U
 |cons r w _ ih=>
  intro j d c U Z
  cases j with
  |zero=> simp only [aM,aq] at U Z;subst U Z;exact⟨_,rfl,r,w⟩
  |succ j=> simp only [aN] at U Z;obtain⟨v,h3,h4⟩:=ih U Z;exact⟨v,by simpa using h3,h4⟩
end
theorem abJ {l:List Nat} {m:Nat} (h:l.all (·<=m)=true): ∀x∈l,x<=m:=fun x hx=>by simpa using bh.1 h x hx
theorem OV {l:List Nat} {m:Nat} (h: ∀x∈l,x<=m):l.all (·<=m)=true:=bh.2 fun x hx=>by simpa using h x hx
theorem abI {l l':List Nat} {m:Nat} (h:l.all (·<=m)=true) (s: ∀x∈l',x∈l):l'.all (·<=m)=true:=OV fun x hx=>abJ h x (s x hx)
theorem vC {H:Type} {P:Program} {e:TypeId}: ∀{l:List (DataW H)} {d:DataW H},d∈l->∀x∈d.weights P e,x∈DataW.weightsAll P e l
 |[],_,h,_,_=>by simp at h
 |d'::l,d,h,x,hx=>by
  simp only [DataW.weightsAll,am2];rcases aH.1 h with rfl|h
  ·exact .inl hx
  ·exact .inr (vC h x hx)
section
variable {P:Program} {own:TypeId->Option Nat} (ok:G! P own) {H:Type} {en:TypeId×Value->H} {Z':World}
abbrev N4 (Z':World):Nat->Prop:=fun b=>b<Z'.heap.size
theorem Tu {b o:Nat} {v:Value} (h:Z'.cell? ⟨b,o,none⟩ = some v):b<Z'.heap.size:=by
 rw [oU] at h;unfold kH at h;split at h
 ·rename_i hb;exact (anf.1 hb).1
 ·simp at h
def Reads (P:Program) (own:TypeId->Option Nat) (en:TypeId×Value->H) (Z':World) (fuel:Nat):Prop:=
 ∀(t:TypeId) (n:Nat) (GU:List CK) (cs:List Value) (x:DataW H×List MemPlace),te P own n t=some GU->DataW.trod en P Z' 0 (fun _=>true) true fuel t cs=some x->(x.1.weights P t).all (·<=reachBytes)=true->∃ds,Rs (N4 Z') Z'.heap GU ds cs
theorem CB {fuel:Nat} (ih:Reads P own en Z' fuel) {n:Nat} {cs:List Value} {tot:Nat} (Y:cs.length=tot): ∀(fs:List Field) (o:Nat) (GU:List CK) (xs:List (DataW H×List MemPlace)),Fu (te P own n) P fs o tot=some GU->xs.length=fs.length->
 (∀(i:Nat) (f:Field),fs[i]?=some f->DataW.trod en P Z' 0 (fun _=>true) true fuel f.type ((cs.drop f.offset).take (P.cellsOf f.type))=xs[i]?)->
 (DataW.weightsEach P (fs.map (·.type)) (xs.map (·.1))).all (·<=reachBytes)=true->∃ds,Rs (N4 Z') Z'.heap GU ds (cs.drop o)
 |[],o,GU,xs,hf,_,_,_=>by
  simp only [Fu] at hf;split at hf
  ·rename_i ho;simp only [aq] at hf;subst hf;rw [aoi J];exact⟨[],.nil⟩
  ·simp at hf
 |f::fs,o,GU,[],_,hx,_,_=>by simp at hx
 |f::fs,o,GU,x::xs,hf,hx,ht,hw=>by
  simp only [Fu] at hf;split at hf
  ·simp at hf
  ·rename_i c1 U;split at hf
   ·rename_i ho;split at hf
    ·simp at hf
    ·rename_i l hl2;simp only [aq] at hf;subst hf;have h0:=ht 0 f rfl;rw [ho.1,ho.2] at h0;simp only [aK,DataW.weightsEach,aoj,aw] at hw;obtain⟨ds,r1⟩:=ih f.type n c1 _ x U h0 hw.1;obtain⟨ds',r2⟩:=CB ih Y fs (o+c1.length) l xs hl2 (by simpa using hx) (fun i g hg=>ht (i+1) g (by simpa using hg)) hw.2;refine⟨ds++ds',?_⟩
     have e:cs.drop o=(cs.drop o).take c1.length++cs.drop (o+c1.length):=by rw [<- aoK,anb]
     rw [e];exact r1.append r2
   ·simp at hf
include ok in
theorem LN {fuel:Nat} (ih:Reads P own en Z' fuel) {t e:TypeId} {i:Nat} (ht:P.underlying t=some (.slice e)) (ho:own t=some i) {cs:List Value} {x:DataW H×List MemPlace} (hx:DataW.trod en P Z' 0 (fun _=>true) true (fuel+1) t cs=some x) (hw:(x.1.weights P t).all (·<=reachBytes)=true) :
 ∃d v,cs= [v]/\Rd (N4 Z') Z'.heap (.sl i) d v/\Wd (.sl i) d:=by
 obtain⟨e',nf,ht',hfl,hce,hby,ml⟩:=ok t i ho;rw [ht] at ht';simp only [aq,TypeDesc.slice.injEq] at ht';subst ht';rcases DataW.trod_slice ht hx with ⟨rfl,rfl⟩|⟨a,len,cap,elems,rest,n,hn,rfl,rfl,_,hlc,_,hlen,hel,_,_⟩
 ·exact⟨.i 1,_,rfl,.nil i,.nil i⟩
 ·simp only [Nat.succ.injEq] at hn;subst hn;rcases anC len with h0|h0
  ·subst h0;exact⟨.i 2,_,rfl,.xc i a cap,.xc i⟩
  ·simp only [DataW.weights,ht,List.all_cons,aoj,aw,decide_eq_true_eq,bw] at hw
   have row: ∀k,k<len->∃cs ds,Z'.cells? 0 (a.add (k*(lP i).length)) (lP i).length=some cs/\Rs (N4 Z') Z'.heap (lP i) ds cs:=by intro k hk;have he:=hel k hk;rw [aW J,hce,an6] at he;obtain⟨cs,U,Z⟩:=he;obtain⟨ds,hr⟩:=ih e nf (lP i) cs _ hfl Z (abI hw.2.1 (vC (List.mem_map_of_mem (aF _))));exact⟨cs,ds,U,hr⟩
   obtain⟨b,o,spot⟩:=a
   have ai3:spot=none:=by obtain⟨cs,ds,U,hr⟩:=row 0 h0;obtain⟨_,h4,h5⟩:=World.cells?_some U;have:=h5 0 ml;rw [aW J] at this;simpa [Addr.add] using World.cell?_spot this
   subst ai3
   have cell: ∀k,k<len->∃ds vs,Rs (N4 Z') Z'.heap (lP i) ds vs/\∀j,j<(lP i).length->kH Z'.heap b (o+k*(lP i).length+j)=vs[j]?:=by
    intro k hk;obtain⟨cs,ds,U,hr⟩:=row k hk;obtain⟨_,h4,h5⟩:=World.cells?_some U;refine⟨ds,cs,hr,fun j hj=>?_⟩;have:=h5 j hj;rw [add_add] at this;have e2:(Addr.mk b o none).add (k*(lP i).length+j)=⟨b,o+k*(lP i).length+j,none⟩:=by simp [Addr.add,am0]
    rw [e2,oU] at this;exact this
   have hb:b<Z'.heap.size:=by obtain⟨ds,vs,hr,hc⟩:=cell 0 h0;have:=hc 0 ml;rw [aW (by rw [hr.len.2]; exact ml),<- oU] at this;exact Tu this
   have acU:len*tu i<=140737488351232:=by
    have U:(elems.length+rest.length)*P.bytesOf e<=reachBytes:=hw.1
    have Z:len*tu i<=(elems.length+rest.length)*P.bytesOf e:=aoq J hby
    have h3:reachBytes=140737488351232:=rfl;omega
   classical
   let ds:Nat->List D:=fun k=>if h:k<len then (cell k h).choose else [];let vs:Nat->List Value:=fun k=>if h:k<len then (cell k h).choose_spec.choose else []
   have spec: ∀k,k<len->Rs (N4 Z') Z'.heap (lP i) (ds k) (vs k)/\∀j,j<(lP i).length->kH Z'.heap b (o+k*(lP i).length+j)=(vs k)[j]?:=by intro k hk;have e1:ds k=(cell k hk).choose:=dif_pos hk;have e2:vs k=(cell k hk).choose_spec.choose:=dif_pos hk;rw [e1,e2];exact (cell k hk).choose_spec.choose_spec
   have get: ∀{k:Nat} {r:List D},((List.range len).map ds)[k]?=some r->k<len/\r=ds k:=by
    intro k r hk;rw [bp] at hk
    have GC:k<len:=by
     rcases bg k len with h|h
     ·exact h
     ·rw [anD (by simpa using h)] at hk; simp at hk
    rw [an1 GC] at hk;simp only [am4,aq] at hk;exact⟨GC,hk.symm⟩
   cases gS:rowOf i with
   |one c=>
    have My:lP i= [c]:=by unfold lP; rw [gS]
    have ajC: ∀{k:Nat} {d:D},((List.range len).map fun k=>(ds k).headD (.i 0))[k]?=some d->k<len/\d=(ds k).headD (.i 0):=by
     intro k d hk;rw [bp] at hk
     have GC:k<len:=by
      rcases bg k len with h|h
      ·exact h
      ·rw [anD (by simpa using h)] at hk; simp at hk
     rw [an1 GC] at hk;simp only [am4,aq] at hk;exact⟨GC,hk.symm⟩
    have sp1: ∀k,k<len->∃d v,ds k= [d]/\kH Z'.heap b (o+k)=some v/\Rd (N4 Z') Z'.heap c d v/\Wd c d:=by
     intro k hk;obtain⟨hr,hc⟩:=spec k hk;rw [My] at hr hc
     match VZ:ds k,hvk:vs k,hr with
     |[d],[v],.cons r w .nil=> have:=hc 0 ae;rw [hvk] at this;exact⟨d,v,rfl,by simpa using this,r,w⟩
    have e:len=((List.range len).map fun k=>(ds k).headD (.i 0)).length:=ae
    have r:=Rd.one (ro:=N4 Z') (h:=Z'.heap) i c b o cap ((List.range len).map fun k=>(ds k).headD (.i 0)) (fun k=>(vs k).headD undef) gS (by rw [<- e]; exact hlc) hb
     (fun k d W=>by
      obtain⟨hk,rfl⟩:=ajC W;obtain⟨hr,hc⟩:=spec k hk;rw [My] at hr hc;have:=hc 0 ae
      match VZ:ds k,hvk:vs k,hr with
      |[d],[v],.cons r w .nil=>
       rw [hvk] at this
       simpa using this)
     (fun k d W=>by
      obtain⟨hk,rfl⟩:=ajC W;obtain⟨hr,hc⟩:=spec k hk;rw [My] at hr
      match VZ:ds k,hvk:vs k,hr with
      |[d],[v],.cons r w .nil=>exact r)
    rw [<- e] at r;refine⟨_,_,rfl,r,.one i c _ gS (fun h=>by have:=congrArg List.length h; simp at this; omega) (by rw [<- e]; exact acU) fun d W=>?_⟩;obtain⟨k,hk,rfl⟩:=bd.1 W;obtain⟨d,v,U,_,_,w⟩:=sp1 k (by simpa using hk);rw [U];exact w
   |many GU=>
    have My:lP i=GU:=by unfold lP; rw [gS]
    have e:len=((List.range len).map ds).length:=ae
    have hlr: ∀r∈(List.range len).map ds,r.length=GU.length:=by intro r hr;obtain⟨k,hk,rfl⟩:=bd.1 hr;have:=(spec k (by simpa using hk)).1.len.1;rw [My] at this;exact this
    have r:=Rd.many (ro:=N4 Z') (h:=Z'.heap) i GU b o cap ((List.range len).map ds) (fun k j=>((vs k)[j]?).getD undef) gS (by rw [<- e]; exact hlc) hb hlr
     (fun k r j d hr hj=>by
      obtain⟨hk,rfl⟩:=get hr;obtain⟨Pg,hc⟩:=spec k hk;rw [My] at Pg hc
      have Zb:j<GU.length:=by have:=(bj.1 hj).1;rw [Pg.len.1] at this;exact this
      rw [hc j Zb,aW (by rw [Pg.len.2]; exact Zb)]
      rfl)
     (fun k r j d c hr hj hcj=>by
      obtain⟨hk,rfl⟩:=get hr;obtain⟨Pg,hc⟩:=spec k hk;rw [My] at Pg;obtain⟨v,U,Z,_⟩:=Pg.at hj hcj;show Rd (N4 Z') Z'.heap c d (((vs k)[j]?).getD undef);rw [U]
      exact Z)
    rw [<- e] at r;refine⟨_,_,rfl,r,.many i GU _ gS (fun h=>by have:=congrArg List.length h; simp at this; omega) (by rw [<- e]; exact acU) hlr fun r hr j d c hj hcj=>?_⟩;obtain⟨k,hk,rfl⟩:=bd.1 hr;have Pg:=(spec k (by simpa using hk)).1;rw [My] at Pg;obtain⟨v,_,_,h3⟩:=Pg.at hj hcj;exact h3
theorem Ew {fuel:Nat} (ih:Reads P own en Z' fuel) {n:Nat} {cs:List Value} {e:TypeId} {c1:List CK} (U:te P own n e=some c1): ∀(xs:List (DataW H×List MemPlace)) (i:Nat),cs.length=(i+xs.length)*c1.length->
 (∀(j:Nat),j<xs.length->DataW.trod en P Z' 0 (fun _=>true) true fuel e ((cs.drop ((i+j)*c1.length)).take c1.length)=xs[j]?)->
 (DataW.weightsAll P e (xs.map (·.1))).all (·<=reachBytes)=true->∃ds,Rs (N4 Z') Z'.heap (List.replicate xs.length c1).flatten ds (cs.drop (i*c1.length))
 |[],i,Y,_,_=>by rw [aoi (by rw [Y]; simp)];exact⟨[],.nil⟩
 |x::xs,i,Y,ht,hw=>by
  have h0:=ht 0 ae;rw [bx] at h0;simp only [aK,DataW.weightsAll,aoj,aw] at hw;obtain⟨ds,r1⟩:=ih e n c1 _ x U h0 hw.1
  obtain⟨ds',r2⟩:=Ew ih U xs (i+1) (by rw [Y,aR]; congr 1; omega) (fun j hj=>by
   have:=ht (j+1) (by simpa using hj);rw [show i+1+j=i+(j+1) by omega]
   simpa using this) hw.2
  refine⟨ds++ds',?_⟩
  have e1:cs.drop (i*c1.length)=(cs.drop (i*c1.length)).take c1.length++cs.drop ((i+1)*c1.length):=by rw [Nat.succ_mul,<- aoK,anb]
  rw [e1,aR,aoA,List.flatten_cons];exact r1.append r2
include ok in
theorem Jk: ∀fuel:Nat,Reads P own en Z' fuel
 |0=>fun t n GU cs x _ hx _=>by simp [DataW.trod] at hx
 |fuel+1=>fun t n GU cs x hf hx hw=>by
  cases n with
  |zero=>simp [te] at hf
  |succ n=>
   unfold te at hf;split at hf
   ·rename_i ht;simp only [aq] at hf;subst hf;obtain⟨b,rfl,_⟩:=DataW.trod_bool ht hx;exact⟨_,.cons (.bool b) (.bool b) .nil⟩
   ·rename_i k ht;simp only [aq] at hf;subst hf;obtain⟨z,rfl,_,xL⟩:=DataW.trod_int ht hx;refine⟨_,.cons (.int k z) (.int k z ?_) .nil⟩;simp only [Lit.wf,aw,decide_eq_true_eq] at xL;cases k<;>first |exact xL|trivial
   ·rename_i ht;simp only [aq] at hf;subst hf;obtain⟨s,rfl,rfl,_⟩:=DataW.trod_string ht hx;refine⟨_,.cons (.str s) (.str s ?_) .nil⟩;simp only [DataW.weights,List.all_cons,List.all_nil,Bool.and_true,decide_eq_true_eq] at hw;exact hw
   ·rename_i e ht;split at hf
    ·rename_i i ho;simp only [aq] at hf;subst hf;obtain⟨d,v,rfl,r,w⟩:=LN ok (Jk fuel) ht ho hx hw;exact⟨_,.cons r w .nil⟩
    ·simp at hf
   ·rename_i fs ht;obtain⟨xs,m,hm,rfl,Y,hxl,nM⟩:=DataW.trod_struct ht hx;simp only [Nat.succ.injEq] at hm;subst hm
    have hw':(DataW.weightsEach P (fs.toList.map (·.type)) (xs.map (·.1))).all (·<=reachBytes)=true:=by simp only [DataW.weights,ht] at hw;exact hw
    have:=CB (Jk fuel) Y fs.toList 0 GU xs hf (by simpa using hxl) (fun i f hi=>nM i f (by simpa using hi)) hw';simpa using this
   ·rename_i m e ht;split at hf
    ·rename_i c1 U;split at hf
     ·rename_i hce;simp only [aq] at hf;subst hf;obtain⟨xs,m',hm,rfl,Y,hxl,nM⟩:=DataW.trod_array ht hx;simp only [Nat.succ.injEq] at hm;subst hm;subst hxl
      have hw':(DataW.weightsAll P e (xs.map (·.1))).all (·<=reachBytes)=true:=by simp only [DataW.weights,ht] at hw;exact hw
      rw [hce.2] at Y
      have:=Ew (Jk fuel) U xs 0 (by rw [Y,aL]) (fun j hj=>by
       rw [aL];have:=nM j hj;rw [hce.1] at this
       exact this) hw'
      simpa using this
     ·simp at hf
    ·simp at hf
   ·simp at hf
end
end Go.As
end

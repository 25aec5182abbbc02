import Derived.Test.YtmnjojaejpcggaaGreatDoorCards
import Derived.Test.YtmnjojaejpcggaaGreatDoorTie
import Derived.ProofKit
import Derived.Deep.DeepHandedRow
import Derived.LaidLaws
import Derived.Test.YtmnjojaejpcggaaGreatDoorAsZT2
set_option linter.unusedSectionVars false
set_option linter.unusedVariables false
set_option linter.unusedSimpArgs false
section
namespace Go.As
noncomputable section
open Go.RowKit
def Ae:List AV->St->T (AV×St):=fun args s=>match args with
 |[.nC e,.int .u8 (.lit (.ofNat c))]=>if c<256 then .ret (.int .i64 (.op .cnt e (.lit (Int.ofNat c))),s) else .fail
 |args=>Jf args s
def Ad:List AV->St->T (AV×St):=fun args s=>match args with
 |[.nC e,.int .u8 (.lit (.ofNat c))]=>if c<256 then .ret (.int .i64 (.op .idx e (.lit (Int.ofNat c))),s) else .fail
 |args=>Je args s
def sU:List AV->St->T (AV×St):=fun args s=>match args with
 |[.str b,.nC e]=>if b.length<4294967281 then .ret (.bool (.not (.eq (.op .con (.dat (oW b)) e) (.lit 0))),s) else .fail
 |args=>Af args s
theorem afT {x:UInt8} {c:Nat} (hc:c<256):(D.i (x.toNat:Int)= .i (c:Int))↔x=UInt8.ofNat c:=by
 simp only [D.i.injEq,aIN];constructor
 ·intro h;rw [<- h];simp
 ·intro h;rw [h,aIr];omega
theorem afV {c:Nat} (hc:c<256): ∀l:List UInt8,(Lib.countByte l (UInt8.ofNat c):Int)=asB (l.map fun b=> .i (b.toNat:Int)) (c:Int)
 |[]=>rfl
 |x::xs=>by
  have ih:=afV hc xs;unfold Lib.countByte at *;rw [List.count_cons,aHo];simp only [asB];rw [<- ih];by_cases h:x=UInt8.ofNat c
  ·rw [aHd ((afT hc).2 h),aHd (by simpa using h)];omega
  ·rw [aHc (fun q=>h ((afT hc).1 q)),aHc (by simpa using h)];omega
theorem Yb {c:Nat} (hc:c<256): ∀(l:List UInt8) (i:Nat),(Lib.indexByte l (UInt8.ofNat c)= -1->xK (c:Int) (l.map fun b=> .i (b.toNat:Int)) (i:Int)= -1)/\(Lib.indexByte l (UInt8.ofNat c)≠-1->xK (c:Int) (l.map fun b=> .i (b.toNat:Int)) (i:Int)=(i:Int)+Lib.indexByte l (UInt8.ofNat c))
 |[],i=> ⟨fun _=>rfl,fun h=>absurd rfl h⟩
 |x::xs,i=>by
  obtain⟨ih1,ih2⟩:=Yb hc xs (i+1);have hge:=Lib.indexByte_ge xs (UInt8.ofNat c);have hcast:(((i+1:Nat):Int))=(i:Int)+1:=by omega
  rw [hcast] at ih1 ih2
  have key:Lib.indexByte (x::xs) (UInt8.ofNat c)=if x=UInt8.ofNat c then 0 else if Lib.indexByte xs (UInt8.ofNat c)= -1 then -1 else Lib.indexByte xs (UInt8.ofNat c)+1:=by simp only [Lib.indexByte,beq_iff_eq]
  have key2:xK (c:Int) ((x::xs).map fun b=> .i (b.toNat:Int)) (i:Int)=if (x.toNat:Int)=(c:Int) then (i:Int) else xK (c:Int) (xs.map fun b=> .i (b.toNat:Int)) ((i:Int)+1):=rfl;by_cases h:x=UInt8.ofNat c
  ·have h':=(afT hc).2 h;simp only [D.i.injEq] at h';rw [key,key2,aHd h,aHd h'];exact⟨fun q=>by omega,fun _=>by omega⟩
  ·have h': ¬(x.toNat:Int)=(c:Int):=fun q=>h ((afT hc).1 (by rw [q]));rw [key,key2,aHc h,aHc h'];by_cases hi:Lib.indexByte xs (UInt8.ofNat c)= -1
   ·rw [aHd hi];exact⟨fun _=>ih1 hi,fun q=>absurd rfl q⟩
   ·rw [aHc hi];exact⟨fun q=>by omega,fun _=>by rw [ih2 hi]; omega⟩
theorem axO {c:Nat} (hc:c<256) (l:List UInt8):O7 (l.map fun b=> .i (b.toNat:Int)) (c:Int)=Lib.indexByte l (UInt8.ofNat c):=by
 obtain⟨h1,h2⟩:=Yb hc l 0;unfold O7;by_cases h:Lib.indexByte l (UInt8.ofNat c)= -1
 ·have:=h1 h;rw [h]; exact this
 ·have:=h2 h;rw [show ((0:Nat):Int)=0 from rfl,Int.zero_add] at this;exact this
theorem afS: ∀(c s:List UInt8),Jr (c.map fun b=> .i (b.toNat:Int)) (s.map fun b=> .i (b.toNat:Int))=c.isPrefixOf s
 |[],s=>by simp [Jr]
 |_::_,[]=>rfl
 |a::x,b::y=>by simp only [aHo,Jr,List.isPrefixOf,afS x y];congr 1;rw [aHY,decide_eq_true_eq,beq_iff_eq];simp only [D.i.injEq,aIN];exact UInt8.toNat_inj
theorem afU (c:List UInt8): ∀s:List UInt8,Hr (s.map fun b=> .i (b.toNat:Int)) (c.map fun b=> .i (b.toNat:Int))=Lib.contains s c
 |[]=>by cases c<;>simp [Hr,Jr,Lib.contains,Lib.index]
 |b::bs=>by
  have ih:=afU c bs;have hp:=afS c (b::bs);simp only [aHo] at hp;unfold Lib.contains at *;simp only [aHo,Lib.index,Hr];rw [hp,ih];have hge:=index_ge c bs
  have key:(0<=(if c.isPrefixOf (b::bs)=true then (0:Int) else if (Lib.index bs c == -1)=true then -1 else Lib.index bs c+1))↔(c.isPrefixOf (b::bs)=true\/0<=Lib.index bs c):=by
   by_cases hq:c.isPrefixOf (b::bs)=true
   ·simp [hq]
   ·by_cases h1:Lib.index bs c= -1
    ·simp [hq,h1]
    ·simp only [beq_iff_eq,hq,h1,if_false,false_or,aHv];omega
  rw [aHY,aIh,decide_eq_true_eq];exact key.symm.trans decide_eq_true_iff.symm
section
variable {P:Program}
theorem aiK [Glob] {g:FuncId} {fn:Func} (hf:P.funcs[g]?=some fn) (hname:(fn.name == "runtime.NumGoroutine")=false) (hb:fn.body.isNone=true) (hn:Extern.findNext fn=none) (he:Extern.find fn=some Extern.BytealgCount.count):nK P g Ae:=by
 intro aHb s E w vals u s' r hv hp hl;unfold Ae at hl;split at hl
 ·rename_i e c;split at hl
  ·rename_i hc;have:=aF hl;simp only [aHf] at this;obtain⟨rfl,rfl⟩:=this;simp only [bT,VR,SE.den] at hv;obtain⟨u1,r1,rfl,hrd,u2,r2,rfl,rfl,rfl⟩:=hv;obtain⟨st,rfl,hd⟩:=hrd.string;refine⟨rfl,hp,?_⟩;unfold uY uX;rw [DZ hf hname hb hn he (Lib.run_countString st (Int.ofNat c) w)];refine⟨E,Stp.refl _ _ _,r,?_⟩;simp only [VR,SE.den,jC.den];have:(Int.ofNat c).toNat.toUInt8=UInt8.ofNat c:=rfl;rw [this,afV hc,hd];unfold Bd wK;rw [aA];rfl
  ·simp [T.leaf] at hl
 ·exact asE hf hname hb hn he _ _ _ _ _ _ _ r hv hp hl
theorem ahQ [Glob] {g:FuncId} {fn:Func} (hf:P.funcs[g]?=some fn) (hname:(fn.name == "runtime.NumGoroutine")=false) (hb:fn.body.isNone=true) (hn:Extern.findNext fn=none) (he:Extern.find fn=some Extern.BytealgIndexByte.indexByte):nK P g Ad:=by
 intro aHb s E w vals u s' r hv hp hl;unfold Ad at hl;split at hl
 ·rename_i e c;split at hl
  ·rename_i hc;have:=aF hl;simp only [aHf] at this;obtain⟨rfl,rfl⟩:=this;simp only [bT,VR,SE.den] at hv;obtain⟨u1,r1,rfl,hrd,u2,r2,rfl,rfl,rfl⟩:=hv;obtain⟨st,rfl,hd⟩:=hrd.string;refine⟨rfl,hp,?_⟩;unfold uY uX;rw [DZ hf hname hb hn he (Lib.run_indexByteString st (Int.ofNat c) w)];refine⟨E,Stp.refl _ _ _,r,?_⟩;simp only [VR,SE.den,jC.den];have:(Int.ofNat c).toNat.toUInt8=UInt8.ofNat c:=rfl;rw [this,<- axO hc,hd];unfold Bd wK;rw [aA];rfl
  ·simp [T.leaf] at hl
 ·exact anT hf hname hb hn he _ _ _ _ _ _ _ r hv hp hl
theorem VT [Glob] {g:FuncId} (hg: ∀(ρ:Nat->Int) (ro:Nat->Prop) (w:World),Glob.ok ρ ro w.heap->∀s sub:ByteArray,s.size<4294967281->Calls P g #[.string s,.string sub] w fun e w'=>e= .returned (.bool (Lib.contains s.data.toList sub.data.toList))/\w'=w)
 (hrun: ∀(args:Array Value) (w:World),(callFunc g args).run P w= .ok (.enter g args) w):nK P g sU:=by
 intro aHb s E w vals u s' r hv hp hl;unfold sU at hl;split at hl
 ·rename_i b e;split at hl
  ·rename_i hlen;have:=aF hl;simp only [aHf] at this;obtain⟨rfl,rfl⟩:=this;simp only [bT,VR] at hv;obtain⟨u1,r1,rfl,⟨rfl,hbb⟩,u2,r2,rfl,hrd,rfl⟩:=hv;obtain⟨st,rfl,hd⟩:=hrd.string;refine⟨rfl,hp,?_⟩;unfold uY uX;rw [hrun];refine Calls.mono (hg E.ρ E.ro w r.glob (dH b) st (by simpa [dH,ByteArray.size] using hlen)) fun e' w' ⟨he,hw⟩=>?_;subst hw;refine⟨_,he,E,Stp.refl _ _ _,r,?_⟩;simp only [VR,SB.den,SE.den,jC.den,aC];have h2:(dH b).data.toList=b.map UInt8.ofNat:=by simp [dH]
   rw [h2,hd,Hq b hbb];unfold Bd wK;rw [aA,aA,afU];cases Lib.contains (b.map UInt8.ofNat) st.data.toList<;>rfl
  ·simp [T.leaf] at hl
 ·exact Ye hg hrun _ _ _ _ _ _ _ r hv hp hl
end
end
end Go.As
end
section
namespace Go.As
noncomputable section
open Go.RowKit
mutual
def kN (h:Hp):AV->AV->Bool
 | .bool (.lit a),v=>match v with
   | .bool (.lit b)=>a == b
   |_=>false
 | .int k (.lit a),v=>match v with
   | .int k' (.lit b)=>decide (k=k')&&decide (a=b)
   |_=>false
 | .str s,v=>match v with
   | .str t=>jT s t
   |_=>false
 | .aY,v=>match v with
   | .aY=>true
   |_=>false
 | .agg ks,v=>match v with
   | .agg cs=>Nat.beq ks.length cs.length&&zV h ks cs
   |_=>false
 | .ro ks n false,v=>match v with
   | .slice id off len _=>match Nat.beq n len with
     |true=>match n with
      |0=>false
      |_=>match h.get id with
       |some (.cells cs _)=>match fZ off cs with
        |some l=>zV h ks l
        |none=>false
       |_=>false
     |false=>false
   | .ro cs m _=>Nat.beq n m&&zV h ks cs
   |_=>false
 |_,_=>false
def zV (h:Hp):List AV->List AV->Bool
 |[],_=>true
 |k::ks,l=>match l with
  |v::vs=>match kN h k v with
   |true=>zV h ks vs
   |false=>false
  |[]=>false
end
def Sv (h:Hp) (aHb:List AV):List (List AV×AV)->Option AV
 |[]=>none
 |(k,v)::l=>match Nat.beq k.length aHb.length with
  |true=>match zV h k aHb with
   |true=>some v
   |false=>Sv h aHb l
  |false=>Sv h aHb l
def adV (tbl:List (List AV×AV)):List AV->St->T (AV×St):=fun aHb s=>match Sv s.h aHb tbl with
 |some v=> .ret (v,s)
 |none=> .fail
def U7 (key:List AV) (v:AV) (f:List AV->St->T (AV×St)):Bool:=
 kH v&&(match f key ⟨.nil,Hp.zero,[]⟩ with | .ret (u,_)=>fK u v|_=>false)
section
variable {P:Program}
mutual
theorem ahJ [Glob] {E:En} {H:Hp} {w:World} (r:bG E H w) (ρ:Nat->Int): ∀(key v:AV) (u:Value),kN H key v=true->VR E w.heap v u->VR (En.zero ρ (fun b=>b<w.heap.size)) w.heap key u
 | .bool b,v,u,hm,hv=>by
   cases b<;>simp only [kN,aHv] at hm;split at hm
   ·simp only [beq_iff_eq] at hm;subst hm;simpa [VR,SB.den] using hv
   ·simp at hm
 | .int k e,v,u,hm,hv=>by
   cases e<;>simp only [kN,aHv] at hm;split at hm
   ·simp only [aHg,decide_eq_true_eq] at hm;obtain⟨rfl,rfl⟩:=hm;simpa [VR,SE.den] using hv
   ·simp at hm
 | .str s,v,u,hm,hv=>by
   simp only [kN] at hm;split at hm
   ·have:=(qH _ _).1 hm;subst this;simpa only [VR] using hv
   ·simp at hm
 | .aY,v,u,hm,hv=>by
   simp only [kN] at hm;split at hm
   ·simpa only [VR] using hv
   ·simp at hm
 | .agg ks,v,u,hm,hv=>by
   simp only [kN] at hm;split at hm
   ·rename_i cs;simp only [aHg] at hm;simp only [VR] at hv ⊢;obtain⟨us,rfl,h2⟩:=hv;obtain⟨h3,h4⟩:=yT r ρ ks cs us hm.2 h2;have e:=aHj hm.1;rw [e,<- h2.length,aIF] at h3;exact⟨us,rfl,h3⟩
   ·simp at hm
 | .ro ks n true,v,u,hm,hv=>by simp [kN] at hm
 | .ro ks n false,v,u,hm,hv=>by
   simp only [kN] at hm;split at hm
   ·rename_i id off len c;split at hm
    ·rename_i hn;have hn:=aHj hn;subst hn;split at hm
     ·simp at hm
     ·rename_i hn0;split at hm
      ·rename_i cs e hg;split at hm
       ·rename_i l hl;simp only [VR] at hv ⊢;obtain⟨hd,a,cap,rfl,hle,hcap⟩:=hv;obtain⟨_,ho,_⟩:=r.live id _ hg;simp only [OR] at ho;obtain⟨arr,lo,hi,us,hb,h2,h3,_,_,_,h7⟩:=ho;obtain⟨q1,q2,q3⟩:=h2.fZ hl;obtain⟨p1,p2⟩:=yT r ρ ks l _ hm q1
        have ha:a=⟨(E.θ id).1,(E.θ id).2+off,none⟩:=by
         cases c with
         |exact c=>
          simp only [gJ] at hcap;rcases hcap.2 with h|h
          ·exact h
          ·exact absurd (by omega) hn0
         |rest es=>
          simp only [gJ] at hcap;rcases hcap with h|h
          ·exact h.1
          ·exact absurd (by omega) hn0
        subst ha;have hlt:(E.θ id).1<w.heap.size:=(aHN.1 hb).1;refine⟨_,_,cap,_,rfl,hle,by simp,hlt,p1,?_,?_⟩
        ·intro i x hx
         have hx':us[off+i]?=some x:=by
          rw [aIn] at hx;split at hx
          ·rw [aIq] at hx; exact hx
          ·simp at hx
         have:=h3 _ _ hx';unfold hcell;rw [hb];simp only;rw [<- this];congr 1;omega
        ·intro x hx;exact h7 x (aHQ (aHS hx))
       ·simp at hm
      ·simp at hm
    ·simp at hm
   ·rename_i cs m f;simp only [aHg] at hm;have hn:=aHj hm.1;subst hn;simp only [VR] at hv ⊢;obtain⟨b,o,cap,us,rfl,h2,h3,h4,h5,h6,h7⟩:=hv;obtain⟨p1,p2⟩:=yT r ρ ks cs _ hm.2 h5;refine⟨b,o,cap,_,rfl,h2,by simp,r.BO b h4,p1,?_,fun x hx=>h7 x (aHS hx)⟩;intro i x hx;rw [aIn] at hx;split at hx
    ·exact h6 i x hx
    ·simp at hx
   ·simp at hm
 | .ptr _ _,v,u,hm,_=>by simp [kN] at hm
 | .lH,v,u,hm,_=>by simp [kN] at hm
 | .rY _,v,u,hm,_=>by simp [kN] at hm
 | .slice _ _ _ _,v,u,hm,_=>by simp [kN] at hm
 | .map _,v,u,hm,_=>by simp [kN] at hm
 | .rO,v,u,hm,_=>by simp [kN] at hm
 | .func _ _ _,v,u,hm,_=>by simp [kN] at hm
 | .Cb,v,u,hm,_=>by simp [kN] at hm
 | .iface _ _,v,u,hm,_=>by simp [kN] at hm
 | .E5,v,u,hm,_=>by simp [kN] at hm
 | .tuple _,v,u,hm,_=>by simp [kN] at hm
 | .opq _,v,u,hm,_=>by simp [kN] at hm
 | .inp _ _,v,u,hm,_=>by simp [kN] at hm
theorem yT [Glob] {E:En} {H:Hp} {w:World} (r:bG E H w) (ρ:Nat->Int): ∀(ks vs:List AV) (us:List Value),zV H ks vs=true->bT E w.heap vs us->
 bT (En.zero ρ (fun b=>b<w.heap.size)) w.heap ks (us.take ks.length)/\ks.length<=us.length
 |[],vs,us,_,_=>by simp [bT]
 |k::ks,[],us,hm,_=>by simp [zV] at hm
 |k::ks,v::vs,us,hm,hv=>by
  simp only [zV] at hm;split at hm
  ·rename_i h1;rw [bC] at hv;obtain⟨u,us',rfl,hu,hus⟩:=hv;obtain⟨p1,p2⟩:=yT r ρ ks vs us' hm hus;rw [aHq,aIc,bC];exact⟨⟨u,_,rfl,ahJ r ρ k v u h1 hu,p1⟩,by simp; exact p2⟩
  ·simp at hm
end
theorem NT {h:Hp} {aHb:List AV} {v:AV}: ∀{tbl:List (List AV×AV)},Sv h aHb tbl=some v->∃k,(k,v)∈tbl/\k.length=aHb.length/\zV h k aHb=true
 |[],hl=>by simp [Sv] at hl
 |(k,x)::l,hl=>by
  simp only [Sv] at hl;split at hl
  ·rename_i h1;split at hl
   ·rename_i h2;simp only [aHe] at hl;subst hl;exact⟨k,by simp,aHj h1,h2⟩
   ·obtain⟨k',h1,h2⟩:=NT hl;exact⟨k',by simp [h1],h2⟩
  ·obtain⟨k',h1,h2⟩:=NT hl;exact⟨k',by simp [h1],h2⟩
theorem Xp [Glob] {g:FuncId} {f:List AV->St->T (AV×St)} (hf:nK P g f) {fn:Func} (hfn:P.funcs[g]?=some fn) (hname:(fn.name == "runtime.NumGoroutine")=false) {c:Code} (hb:fn.body=some c)
 {tbl:List (List AV×AV)} (h: ∀p∈tbl,U7 p.1 p.2 f=true):nK P g (adV tbl):=by
 intro aHb s E w vals u s' r hv hp hl;unfold adV at hl;split at hl
 ·rename_i v hlook;have:=aF hl;simp only [aHf] at this;obtain⟨rfl,rfl⟩:=this;obtain⟨k,hmem,hlen,aGy⟩:=NT hlook;have hk:=h _ hmem;unfold U7 at hk;simp only [aHg] at hk;obtain⟨h2,h3⟩:=hk;split at h3
  ·rename_i u' s1 hrun;have hu:=oJ _ _ h3;subst hu;obtain⟨p1,_⟩:=yT r E.ρ k aHb vals aGy hv;rw [hlen,<- hv.length,aIF] at p1;have hgl:Glob.ok E.ρ (fun b=>b<w.heap.size) w.heap:=Glob.keep r.glob r.BO fun _ _=>rfl;have hc:=H6 hf hfn hname hb (ρ:=E.ρ) (ro:=fun b=>b<w.heap.size) (w:=w) (fun _ h=>h) hgl p1 (v:=u') (s':=s1) (by rw [hrun]; rfl);refine⟨rfl,hp,?_⟩
   have hrun:(callFunc g vals.toArray).run P w= .ok (.enter g vals.toArray) w:=by unfold callFunc;simp [hfn,hb,by simpa using hname]
   unfold uY uX;rw [hrun];exact Calls.mono hc fun e w' ⟨x,E',he,hx,_,hbl⟩=> ⟨x,he,E,(Ee r hbl).1,(Ee r hbl).2,Eb u' x h2 hx⟩
  ·simp at h3
 ·simp [T.leaf] at hl
end
end
end Go.As
end
section
namespace Go.As.Try
open Go Go.As Go.Proofs Go.RowKit
set_option maxRecDepth 100000
def maxLen:Nat:=Tryz.laysM144_ren.g 1
def base:YC where
 ok ro h:=ro maxLen/\∃m,hcell h maxLen 0=some (.int .i64 m)
 keep:=by intro ro ro' h h' hk h1 h2;obtain⟨a,m,hm⟩:=hk;refine⟨h1 _ a,m,?_⟩;unfold hcell at *;rw [h2 _ a];exact hm
noncomputable def tt0:TT:=lim 244 tab
noncomputable def ft:Nat->Option Func:=lim 210 U9
def owns:List (Nat×Nat):=[(22,3),(23,4),(26,7),(27,9),(47,2),(48,5),(52,6),(59,0),(60,0),(99,14),(205,14),(104,0),(139,1)]
noncomputable def ttE:TT:=Xh owns tt0
noncomputable def hints:Nat->Nat->Option TU:=hAt htab
theorem LZ:fE Tryz.prog tt0:=atG ajJ
theorem ajK:fE Tryz.prog ttE:=auY LZ
theorem aeY:aiQ Tryz.prog (VX tt0 hints) ft:=avR XG aoR
theorem aCc:aiQ Tryz.prog (VX ttE hints) ft:=by unfold ttE; rw [asI]; exact aeY
def b (n:Nat):AV:=.int .u8 (.lit (.ofNat n))
def Ph:AV:=.agg [b 0,b 0,b 0,b 0,b 0,b 0,b 0,b 0,b 0,b 1,b 1,b 0,b 0,b 1,b 0,b 0,b 0,b 0,b 0,b 0,b 0,b 0,b 0,b 0,b 0,b 0,b 0,b 0,b 0,b 0,b 0,b 0,b 1,b 0,b 0,b 2,b 0,b 0,b 0,b 0,b 5,b 5,b 5,b 5,b 0,b 5,b 0,b 0,b 3,b 3,b 3,b 3,b 3,b 3,b 3,b 3,b 3,b 3,b 0,b 5,b 5,b 5,b 0,b 0,b 0,b 4,b 4,b 4,b 4,b 4,b 4,b 4,b 4,b 4,b 4,b 4,b 4,b 4,b 4,b 4,b 4,b 4,b 4,b 4,b 4,b 4,b 4,b 4,b 4,b 4,b 4,b 0,b 0,b 0,b 0,b 4,b 0,b 4,b 4,b 4,b 4,b 4,b 4,b 4,b 4,b 4,b 4,b 4,b 4,b 4,b 4,b 4,b 4,b 4,b 4,b 4,b 4,b 4,b 4,b 4,b 4,b 4,b 4,b 5,b 0,b 5,b 0,b 0,b 0,b 0,b 0,b 0,b 0,b 0,b 0,b 0,b 0,b 0,b 0,b 0,b 0,b 0,b 0,b 0,b 0,b 0,b 0,b 0,b 0,b 0,b 0,b 0,b 0,b 0,b 0,b 0,b 0,b 0,b 0,b 0,b 0,b 0,b 0,b 0,b 0,b 0,b 0,b 0,b 0,b 0,b 0,b 0,b 0,b 0,b 0,b 0,b 0,b 0,b 0,b 0,b 0,b 0,b 0,b 0,b 0,b 0,b 0,b 0,b 0,b 0,b 0,b 0,b 0,b 0,b 0,b 0,b 0,b 0,b 0,b 0,b 0,b 0,b 0,b 0,b 0,b 0,b 0,b 0,b 0,b 0,b 0,b 0,b 0,b 0,b 0,b 0,b 0,b 0,b 0,b 0,b 0,b 0,b 0,b 0,b 0,b 0,b 0,b 0,b 0,b 0,b 0,b 0,b 0,b 0,b 0,b 0,b 0,b 0,b 0,b 0,b 0,b 0,b 0,b 0,b 0,b 0,b 0,b 0,b 0,b 0,b 0,b 0,b 0,b 0,b 0,b 0]
theorem GR {g:Nat} {f:Func} (h:U9.get g=some f) (hg:g<210):Tryz.prog.funcs[g]?=some f:=by have:=congrArg (fun l=>l[g]?) XG;simp only [aHG,aIC hg,aHV,aHe] at this;rw [<- this];exact h
theorem aBA {g:Nat} {f:Func} (hf:Tryz.prog.funcs[g]?=some f) (hn:(f.name == "runtime.NumGoroutine")=false) (hb:f.body.isNone=false): ∀(args:Array Value) (w:World),(callFunc g args).run Tryz.prog w= .ok (.enter g args) w:=by intro args w;unfold callFunc;simp only [Sem.run_bind,run_program,Result.andThen_ok,hf];rw [hn,hb];simp
def aeU (g:Nat):Option (List AV->St->T (AV×St)):=
 match Nat.beq g 154 with
 |true=>some Ae
 |false=>match Nat.beq g 176 with
  |true=>some Ad
  |false=>match Nat.beq g 135 with
   |true=>some sU
   |false=>none
theorem aBC:Tryz.laysM144_ren.f 144=135:=by kernel_rfl
section
variable (I:Glob) (hI: ∀ρ ro h,I.ok ρ ro h->base.ok ro h)
theorem f154:@nK I Tryz.prog 154 Ae:=@aiK _ I 154 Tryz.f154 (GR (by kernel_rfl) (by decide)) (by kernel_rfl) (by kernel_rfl) (by kernel_rfl) (by kernel_rfl)
theorem f176:@nK I Tryz.prog 176 Ad:=@ahQ _ I 176 Tryz.f176 (GR (by kernel_rfl) (by decide)) (by kernel_rfl) (by kernel_rfl) (by kernel_rfl) (by kernel_rfl)
include hI in
theorem f135:@nK I Tryz.prog 135 sU:=by letI:=I;refine VT ?_ (aBA (f:=Tryz.f135) (GR (by kernel_rfl) (by decide)) (by kernel_rfl) (by kernel_rfl));intro ρ ro w hw s sub hs;obtain⟨_,m,hm⟩:=hI _ _ _ hw;have:=Any.strings_Contains { Tryz.laysM144 with } s sub m w hs (by rw [uK]; exact hm);rw [aBC] at this;exact this
include hI in
theorem XE: ∀(g:Nat) (h:List AV->St->T (AV×St)),aeU g=some h->@nK I Tryz.prog g h:=by
 intro g h hh;unfold aeU at hh;split at hh
 ·rename_i hg;have:=aHj hg;subst this;simp at hh;subst hh;exact f154 I
 ·split at hh
  ·rename_i hg;have:=aHj hg;subst this;simp at hh;subst hh;exact f176 I
  ·split at hh
   ·rename_i hg;have:=aHj hg;subst this;simp at hh;subst hh;exact f135 I hI
   ·simp at hh
end
noncomputable def aD7 (g:Nat):List AV->St->T (AV×St):=Vq tt0 ft aeU (Tv tt0 hints) 100000 60 g
theorem auN (I:Glob) (hI: ∀ρ ro h,I.ok ρ ro h->base.ok ro h) (g:Nat):@nK I Tryz.prog g (aD7 g):=@G8 _ I _ LZ _ _ aeY _ (XE I hI) _ (fun _ hc=>@Hl _ I _ LZ mixed _ _ hc) 100000 60 g
theorem Yh:gives [] Ph (aD7 130)=true:=by kernel_rfl
theorem Ed {f:Func} (h:f.body.isSome=true): ∃c,f.body=some c:=aIu.1 h
theorem abI (I:Glob) (hI: ∀ρ ro h,I.ok ρ ro h->base.ok ro h):@nK I Tryz.prog 130 (memo [] Ph):=by letI:=I;obtain⟨c,hb⟩:=Ed (f:=Tryz.f130) (by kernel_rfl);exact Lh (auN I hI 130) (fn:=Tryz.f130) (GR (by kernel_rfl) (by decide)) (by kernel_rfl) hb Yh
def XD (g:Nat):Option (List AV->St->T (AV×St)):=
 match Nat.beq g 130 with
 |true=>some (memo [] Ph)
 |false=>aeU g
theorem Oh (I:Glob) (hI: ∀ρ ro h,I.ok ρ ro h->base.ok ro h): ∀(g:Nat) (h:List AV->St->T (AV×St)),XD g=some h->@nK I Tryz.prog g h:=by
 intro g h hh;unfold XD at hh;split at hh
 ·rename_i hg;have:=aHj hg;subst this;simp at hh;subst hh;exact abI I hI
 ·exact XE I hI g h hh
noncomputable def Zq (g:Nat):List AV->St->T (AV×St):=Vq tt0 ft XD (Tv tt0 hints) 100000 60 g
theorem DF (I:Glob) (hI: ∀ρ ro h,I.ok ρ ro h->base.ok ro h) (g:Nat):@nK I Tryz.prog g (Zq g):=@G8 _ I _ LZ _ _ aeY _ (Oh I hI) _ (fun _ hc=>@Hl _ I _ LZ mixed _ _ hc) 100000 60 g
theorem aBN:gives [.str [97]] (.bool (.lit true)) (Zq 118)=true:=by kernel_rfl
theorem aBM:gives [.str [98]] (.bool (.lit true)) (Zq 118)=true:=by kernel_rfl
def aeF:List AV:=[.agg [.ro [.int .u8 (.lit 1),.str [109],.int .i64 (.lit 0),.str [],.int .i64 (.lit 1),.int .u8 (.lit 5),.str [98],.int .i64 (.lit 2),.str [],.int .i64 (.lit 1)] 2 false,.ro [.str [97],.aY,.int .i64 (.lit 1),.str [100],.aY,.int .i64 (.lit 1)] 2 false]]
theorem aEz:U7 aeF (.agg [.int .i64 (.lit 0),.int .i64 (.lit 0)]) (Zq 97)=true:=by kernel_rfl
def aeC:List (List AV×AV):=[(aeF,.agg [.int .i64 (.lit 0),.int .i64 (.lit 0)])]
def aeG:List AV:=[.agg [.ro [.int .u8 (.lit 1),.str [109],.int .i64 (.lit 0),.str [],.int .i64 (.lit 1),.int .u8 (.lit 5),.str [98],.int .i64 (.lit 2),.str [],.int .i64 (.lit 1)] 2 false,.ro [.str [97],.aY,.aY,.str [100],.aY,.aY] 2 false]]
theorem aEA:U7 aeG (.int .i64 (.lit 0)) (Zq 19)=true:=by kernel_rfl
def aeD:List (List AV×AV):=[(aeG,.int .i64 (.lit 0))]
noncomputable def aoE (g:Nat):Option (List AV->St->T (AV×St)):=
 match Nat.beq g 97 with
 |true=>some (orElse (adV aeC) (Zq 97))
 |false=>match Nat.beq g 19 with
 |true=>some (orElse (adV aeD) (Zq 19))
 |false=>XD g
theorem aoD (I:Glob) (hI: ∀ρ ro h,I.ok ρ ro h->base.ok ro h): ∀(g:Nat) (h:List AV->St->T (AV×St)),aoE g=some h->@nK I Tryz.prog g h:=by
 intro g h hh;letI:=I;unfold aoE at hh;split at hh
 ·rename_i hg;have:=aHj hg;subst this;simp only [aHe] at hh;subst hh;obtain⟨c,hb⟩:=Ed (f:=Tryz.f97) (by kernel_rfl);refine DL (Xp (DF I hI 97) (fn:=Tryz.f97) (GR (by kernel_rfl) (by decide)) (by kernel_rfl) hb fun p hp=>?_) (DF I hI 97);simp only [aeC,aHm,aId,or_false] at hp;rcases hp with rfl
  ·exact aEz
 ·skip;split at hh
  ·rename_i hg;have:=aHj hg;subst this;simp only [aHe] at hh;subst hh;obtain⟨c,hb⟩:=Ed (f:=Tryz.f19) (by kernel_rfl);refine DL (Xp (DF I hI 19) (fn:=Tryz.f19) (GR (by kernel_rfl) (by decide)) (by kernel_rfl) hb fun p hp=>?_) (DF I hI 19);simp only [aeD,aHm,aId,or_false] at hp;rcases hp with rfl
   ·exact aEA
  ·skip;exact Oh I hI g h hh
noncomputable def aD6 (g:Nat):List AV->St->T (AV×St):=Vq tt0 ft aoE (Tv tt0 hints) 100000 60 g
theorem auM (I:Glob) (hI: ∀ρ ro h,I.ok ρ ro h->base.ok ro h) (g:Nat):@nK I Tryz.prog g (aD6 g):=@G8 _ I _ LZ _ _ aeY _ (aoD I hI) _ (fun _ hc=>@Hl _ I _ LZ mixed _ _ hc) 100000 60 g
theorem abL:gives [] (.bool (.lit true)) (aD6 6)=true:=by kernel_rfl
section
variable (I:Glob) (hI: ∀ρ ro h,I.ok ρ ro h->base.ok ro h)
include hI
theorem ahH:@nK I Tryz.prog 118 (memo [.str [97]] (.bool (.lit true))):=by letI:=I;obtain⟨c,hb⟩:=Ed (f:=Tryz.f118) (by kernel_rfl);exact Lh (DF I hI 118) (fn:=Tryz.f118) (GR (by kernel_rfl) (by decide)) (by kernel_rfl) hb aBN
theorem ahG:@nK I Tryz.prog 118 (memo [.str [98]] (.bool (.lit true))):=by letI:=I;obtain⟨c,hb⟩:=Ed (f:=Tryz.f118) (by kernel_rfl);exact Lh (DF I hI 118) (fn:=Tryz.f118) (GR (by kernel_rfl) (by decide)) (by kernel_rfl) hb aBM
theorem aiN:@nK I Tryz.prog 6 (memo [] (.bool (.lit true))):=by letI:=I;obtain⟨c,hb⟩:=Ed (f:=Tryz.f6) (by kernel_rfl);exact Lh (auM I hI 6) (fn:=Tryz.f6) (GR (by kernel_rfl) (by decide)) (by kernel_rfl) hb abL
end
def ZV (g:Nat):Option (List AV->St->T (AV×St)):=
 match Nat.beq g 6 with
  |true=>some (memo [] (.bool (.lit true)))
  |false=>match Nat.beq g 118 with
  |true=>some (orElse (memo [.str [97]] (.bool (.lit true))) (memo [.str [98]] (.bool (.lit true))))
  |false=>XD g
theorem ahR (I:Glob) (hI: ∀ρ ro h,I.ok ρ ro h->base.ok ro h): ∀(g:Nat) (h:List AV->St->T (AV×St)),ZV g=some h->@nK I Tryz.prog g h:=by
 intro g h hh;unfold ZV at hh;split at hh
 ·rename_i hg;have:=aHj hg;subst this;simp at hh;subst hh;exact aiN I hI
 ·skip;split at hh
  ·rename_i hg;have:=aHj hg;subst this;simp at hh;subst hh;letI:=I;exact DL (ahH I hI) (ahG I hI)
  ·exact Oh I hI g h hh
end Go.As.Try
end
section
namespace Go.As.Try
open Go hiding Stat Spec shape
open Go.As Go.Proofs
set_option maxRecDepth 100000
abbrev aI (n:Nat):AV:=.int .i64 (.aO n)
abbrev aJ (n:Int):AV:=.int .i64 (.lit n)
abbrev aU (n:Nat):AV:=.int .u8 (.aO n)
abbrev aD (n t:Nat):AV:=.dat (.aO n) t
abbrev aS (n:Nat):AV:=.nC (.aO n)
abbrev aB (n:Nat):AV:=.bool (.not (.eq (.aO n) (.lit 0)))
abbrev aV (b n t:Nat):AV:=.sN b (.op .len (.aO n) (.lit 0)) t
abbrev aE (n t:Nat):AV:=.FP (.aO n) t
def cT0:List Int:=[0,0,0,0,0,0,0,0,0,1,1,0,0,1,0,0,0,0,0,0,0,0,0,0,0,0,0,0,0,0,0,0,1,0,0,2,0,0,0,0,5,5,5,5,0,5,0,0,3,3,3,3,3,3,3,3,3,3,0,5,5,5,0,0,0,4,4,4,4,4,4,4,4,4,4,4,4,4,4,4,4,4,4,4,4,4,4,4,4,4,4,0,0,0,0,4,0,4,4,4,4,4,4,4,4,4,4,4,4,4,4,4,4,4,4,4,4,4,4,4,4,4,4,5,0,5,0,0,0,0,0,0,0,0,0,0,0,0,0,0,0,0,0,0,0,0,0,0,0,0,0,0,0,0,0,0,0,0,0,0,0,0,0,0,0,0,0,0,0,0,0,0,0,0,0,0,0,0,0,0,0,0,0,0,0,0,0,0,0,0,0,0,0,0,0,0,0,0,0,0,0,0,0,0,0,0,0,0,0,0,0,0,0,0,0,0,0,0,0,0,0,0,0,0,0,0,0,0,0,0,0,0,0,0,0,0,0,0,0,0,0,0,0,0,0,0,0,0,0,0,0,0,0,0,0,0]
def aCg:FE:=⟨9000,23,[],[],some (⟨2,[(0,aD 1 7) ],[],[],.lit 0⟩,[],0),[⟨2,[(0,aV 0 1 7)],[.vec (.aO 1) 7 62 []],[],.lit 0⟩,⟨1,[(0,.aY) ],[],[],.lit 0⟩,⟨1,[(0,.slice 0 0 0 (.exact 0))],[.cells [] 62 ],[],.lit 0⟩,⟨8,[(0,aV 0 1 7)],[.vec (.aO 1) 7 62 [(.aO 0,[aI 2,aI 3,aB 4,aI 5,aV 1 6 0,aV 2 7 0])],
 .vec (.aO 6) 0 3 [],
 .vec (.aO 7) 0 2 []],[],.aO 0⟩,⟨8,[(0,aV 0 1 7)],[.vec (.aO 1) 7 62 [(.aO 0,[aI 2,aI 3,aB 4,aI 5,aV 1 6 0,aE 7 0])],
 .vec (.aO 6) 0 3 []],[],.aO 0⟩,⟨8,[(0,aV 0 1 7)],[.vec (.aO 1) 7 62 [(.aO 0,[aI 2,aI 3,aB 4,aI 5,aE 6 0,aV 1 7 0])],
 .vec (.aO 7) 0 2 []],[],.aO 0⟩,⟨8,[(0,aV 0 1 7)],[.vec (.aO 1) 7 62 [(.aO 0,[aI 2,aI 3,aB 4,aI 5,aE 6 0,aE 7 0])]],[],.aO 0⟩],[(3,1)],[11],1,[(8,0)],[],
 [([0,1,0,1,1],⟨4,[(0,aV 0 1 7),(7,aI 2),(8,aI 3)],[.vec (.aO 1) 7 62 []],[],.lit 0⟩),([0,1,0,1,1],⟨1,[(0,.aY),(7,aJ 0),(8,aJ 0) ],[],[],.lit 0⟩),([0,1,0,1,1],⟨1,[(0,.slice 0 0 0 (.exact 0)),(7,aJ 0),(8,aJ 0)],[.cells [] 62 ],[],.lit 0⟩),([0,1,0,1,1],⟨10,[(0,aV 0 1 7),(7,aI 2),(8,aI 3)],[.vec (.aO 1) 7 62 [(.aO 0,[aI 4,aI 5,aB 6,aI 7,aV 1 8 0,aV 2 9 0])],
  .vec (.aO 8) 0 3 [],
  .vec (.aO 9) 0 2 []],[],.lit 0⟩),([0,1,0,1,1],⟨10,[(0,aV 0 1 7),(7,aI 2),(8,aI 3)],[.vec (.aO 1) 7 62 [(.aO 0,[aI 4,aI 5,aB 6,aI 7,aV 1 8 0,aE 9 0])],
  .vec (.aO 8) 0 3 []],[],.lit 0⟩),([0,1,0,1,1],⟨10,[(0,aV 0 1 7),(7,aI 2),(8,aI 3)],[.vec (.aO 1) 7 62 [(.aO 0,[aI 4,aI 5,aB 6,aI 7,aE 8 0,aV 1 9 0])],
  .vec (.aO 9) 0 2 []],[],.lit 0⟩),([0,1,0,1,1],⟨10,[(0,aV 0 1 7),(7,aI 2),(8,aI 3)],[.vec (.aO 1) 7 62 [(.aO 0,[aI 4,aI 5,aB 6,aI 7,aE 8 0,aE 9 0])]],[],.lit 0⟩)]⟩
def aCf:FE:=⟨9050,12,[],[],some (⟨2,[(0,aD 1 7) ],[],[],.lit 0⟩,[],0),[⟨1,[(0,.aY) ],[],[],.lit 0⟩,⟨6,[(0,aV 0 1 7)],[.vec (.aO 1) 7 62 [(.aO 0,[aI 2,aI 3,aB 4,aI 5,.slice 1 0 0 (.exact 0),.slice 2 0 0 (.exact 0)])],
 .cells [] 3,
 .cells [] 2 ],[],.aO 0⟩,⟨7,[(0,aV 0 1 7)],[.vec (.aO 1) 7 62 [(.aO 0,[aI 2,aI 3,aB 4,aI 5,.slice 1 0 0 (.exact 0),aV 2 6 0])],
 .cells [] 3,
 .vec (.aO 6) 0 2 []],[],.aO 0⟩,⟨7,[(0,aV 0 1 7)],[.vec (.aO 1) 7 62 [(.aO 0,[aI 2,aI 3,aB 4,aI 5,aV 1 6 0,.slice 2 0 0 (.exact 0)])],
 .vec (.aO 6) 0 3 [],
 .cells [] 2 ],[],.aO 0⟩,⟨8,[(0,aV 0 1 7)],[.vec (.aO 1) 7 62 [(.aO 0,[aI 2,aI 3,aB 4,aI 5,aV 1 6 0,aV 2 7 0])],
 .vec (.aO 6) 0 3 [],
 .vec (.aO 7) 0 2 []],[],.aO 0⟩,⟨2,[(0,aV 0 1 7)],[.vec (.aO 1) 7 62 []],[],.lit 0⟩],[(3,1)],[11,42],1,[(4,0)],[],
 [([0,1,0,1,1],⟨2,[(0,aD 1 7),(3,.aY),(4,aJ 0) ],[],[],.lit 0⟩),([0,1,0,1,1],⟨8,[(0,aD 1 7),(3,aV 0 2 7),(4,aI 3)],[.vec (.aO 2) 7 62 [(.aO 0,[aI 4,aI 5,aB 6,aI 7,.slice 1 0 0 (.exact 0),.slice 2 0 0 (.exact 0)])],
  .cells [] 3,
  .cells [] 2 ],[],.lit 0⟩),([0,1,0,1,1],⟨9,[(0,aD 1 7),(3,aV 0 2 7),(4,aI 3)],[.vec (.aO 2) 7 62 [(.aO 0,[aI 4,aI 5,aB 6,aI 7,.slice 1 0 0 (.exact 0),aV 2 8 0])],
  .cells [] 3,
  .vec (.aO 8) 0 2 []],[],.lit 0⟩),([0,1,0,1,1],⟨9,[(0,aD 1 7),(3,aV 0 2 7),(4,aI 3)],[.vec (.aO 2) 7 62 [(.aO 0,[aI 4,aI 5,aB 6,aI 7,aV 1 8 0,.slice 2 0 0 (.exact 0)])],
  .vec (.aO 8) 0 3 [],
  .cells [] 2 ],[],.lit 0⟩),([0,1,0,1,1],⟨10,[(0,aD 1 7),(3,aV 0 2 7),(4,aI 3)],[.vec (.aO 2) 7 62 [(.aO 0,[aI 4,aI 5,aB 6,aI 7,aV 1 8 0,aV 2 9 0])],
  .vec (.aO 8) 0 3 [],
  .vec (.aO 9) 0 2 []],[],.lit 0⟩),([0,1,0,1,1],⟨4,[(0,aD 1 7),(3,aV 0 2 7),(4,aI 3)],[.vec (.aO 2) 7 62 []],[],.lit 0⟩)]⟩
def aFs:FE:=⟨100,4,[.agg [(.sl 3),(.sl 4)]],[.one .bool],none,[],[],[],0,[],[],
 [([0,1,0,1,1],⟨5,[(1,.ptr 0 0),(3,aI 0),(17,aI 1),(18,aI 2)],[.cells [aD 3 3,aD 4 4] 25 ],[],.lit 0⟩),([0,1,1,1,0,0,1,1,0,0,1,0,1,1],⟨6,[(1,.ptr 0 0),(3,aI 0),(4,aI 1),(5,aI 2),(17,aI 3),(18,aI 1)],[.cells [aD 4 3,aD 5 4] 25 ],[],.lit 0⟩),([0,1,0,0,1,0,0,1,1,1,0,0,1,1,0,0,1,0,1,1],⟨9,[(1,.ptr 0 0),(3,aI 0),(4,aI 1),(5,aI 2),(17,aI 3),(18,aI 1),(62,aD 4 6),(63,aI 5),(64,aI 6)],[.cells [aD 7 3,aD 8 4] 25 ],[],.lit 0⟩)]⟩
def aFr:FE:=⟨150,15,[.agg [(.int .u8),.str,(.int .i64),(.sl 6)],.one (.int .i64)],[.one (.int .i64)],none,[],[],[],0,[],[],
 [([0,1,0,1,1,1],⟨7,[(1,aI 0),(2,.ptr 0 0),(5,aI 1),(6,aI 2)],[.cells [aU 3,aS 4,aI 5,aD 6 6] 57 ],[],.lit 0⟩)]⟩
def aFq:FE:=⟨200,7,[.one (.sl 7),.one (.sl 7)],[.one .bool],none,[],[],[],0,[],[],
 [([0,1,0,1,1],⟨4,[(0,aD 0 7),(1,aD 1 7),(15,aI 2),(16,aI 3) ],[],[],.lit 0⟩),([0,1,1,1,1,0,0,1,1,0,0,1,0,1,1],⟨18,[(0,aD 0 7),(1,aD 1 7),(6,.ptr 0 0),(7,.ptr 1 0),(15,aI 2),(16,aI 3),(72,aI 4),(73,aI 5)],[.cells [aI 6,aI 7,aB 8,aI 9,aD 10 0,aD 11 0] 62,
  .cells [aI 12,aI 13,aB 14,aI 15,aD 16 0,aD 17 0] 62 ],[],.lit 0⟩)]⟩
def aFp:FE:=⟨250,18,[.one (.sl 0),.one (.sl 0)],[.one .bool],none,[],[],[],0,[],[],
 [([0,1,0,1,1],⟨3,[(0,aD 0 0),(1,aD 1 0),(5,aI 2) ],[],[],.lit 0⟩)]⟩
def aFo:FE:=⟨300,8,[.agg [(.sl 3),(.sl 4)]],[.one (.sl 7)],none,[],[],[],0,[],[],
 [([0,1,0,1,0,1,1],⟨2,[(3,.aY),(11,aD 0 3),(12,aI 1),(13,aJ 0) ],[],[],.lit 0⟩),([0,1,0,1,0,1,1],⟨4,[(3,aV 0 0 7),(11,aD 1 3),(12,aI 2),(13,aI 3)],[.vec (.aO 0) 7 62 []],[],.lit 0⟩)]⟩
def aFm:FE:=⟨350,10,[.agg [(.sl 3),(.sl 4)],.one (.sl 7)],[.one .bool],none,[],[],[],0,[],[],
 [([0,1,0,1,1],⟨5,[(2,.ptr 0 0),(18,aD 0 7),(19,aI 1),(20,aI 2)],[.cells [aD 3 3,aD 4 4] 25 ],[],.lit 0⟩)]⟩
def aFl:FE:=⟨400,13,[.agg [(.sl 3),(.sl 4)],.one (.sl 7),.one (.int .i64),.agg [(.int .u8),(.int .i64),(.int .i64),(.int .i64)]],[.one (.sl 7),.agg [(.int .i64),(.int .u8),(.int .i64),(.int .i64),(.int .i64)],.one (.int .u8)],none,[],[],[],0,[],[],
 []⟩
def aFk:FE:=⟨450,19,[.agg [(.sl 3),(.sl 4)]],[.one (.int .i64)],none,[],[],[],0,[],[],
 [([0,1,0,1,1],⟨4,[(1,.ptr 0 0),(3,.bool (.lit true)),(20,aD 0 3),(21,aI 1),(22,aI 2)],[.cells [aD 0 3,aD 3 4] 25 ],[],.lit 0⟩),([0,1,0,1,1],⟨4,[(1,.ptr 0 0),(3,.bool (.lit false)),(20,aD 0 3),(21,aI 1),(22,aI 2)],[.cells [aD 0 3,aD 3 4] 25 ],[],.lit 0⟩),([0,1,0,1,1,1],⟨4,[(1,.ptr 0 0),(3,.bool (.lit true)),(35,aD 0 4),(36,aI 1),(37,aI 2)],[.cells [aD 3 3,aD 0 4] 25 ],[],.lit 0⟩),([0,1,0,1,1,1],⟨4,[(1,.ptr 0 0),(3,.bool (.lit false)),(35,aD 0 4),(36,aI 1),(37,aI 2)],[.cells [aD 3 3,aD 0 4] 25 ],[],.lit 0⟩),([0,1,1,1,0,0,1,1,0,0,1,0,1,1,1],⟨8,[(1,.ptr 0 0),(3,.bool (.lit true)),(7,.ptr 1 0),(8,aI 0),(35,aD 1 4),(36,aI 2),(37,aI 3)],[.cells [aD 4 3,aD 1 4] 25,
  .cells [aS 5,aD 6 2,aD 7 5] 50 ],[],.lit 0⟩),([0,1,1,1,0,0,1,1,0,0,1,0,1,1,1],⟨8,[(1,.ptr 0 0),(3,.bool (.lit false)),(7,.ptr 1 0),(8,aI 0),(35,aD 1 4),(36,aI 2),(37,aI 3)],[.cells [aD 4 3,aD 1 4] 25,
  .cells [aS 5,aD 6 2,aD 7 5] 50 ],[],.lit 0⟩)]⟩
def aFj:FE:=⟨500,21,[.agg [(.int .u8),.str,(.int .i64),.str,(.int .i64)],.agg [(.int .i64),(.int .i64),.bool,(.int .i64),(.sl 0),(.sl 0)],.one (.int .i64)],[.one .bool],none,[],[],[],0,[],[],
 [([0,1,0,1,1,1,1,1,1],⟨15,[(2,aI 0),(3,.ptr 0 0),(4,.ptr 1 0),(10,.map 2),(98,aD 1 0),(99,aI 2),(100,aI 3)],[.cells [aU 4,aS 5,aI 6,aS 7,aI 8] 70,
  .cells [aI 9,aI 10,aB 11,aI 12,aD 1 0,aD 13 0] 62,
  .jF (.aO 14) 0 ],[],.lit 0⟩)]⟩
def aFi:FE:=⟨550,23,[.one (.sl 7)],[.one (.sl 7)],none,[],[],[],0,[],[],
 [([0,1,0,1,1],⟨3,[(0,aV 0 0 7),(7,aI 1),(8,aI 2)],[.vec (.aO 0) 7 62 []],[],.lit 0⟩),([0,1,0,1,1],⟨0,[(0,.aY),(7,aJ 0),(8,aJ 0) ],[],[],.lit 0⟩),([0,1,0,1,1],⟨0,[(0,.slice 0 0 0 (.exact 0)),(7,aJ 0),(8,aJ 0)],[.cells [] 62 ],[],.lit 0⟩)]⟩
def aFh:FE:=⟨600,24,[.one (.int .u8)],[.one (.int .u8)],none,[],[],[],0,[],[],
 []⟩
def aFg:FE:=⟨650,43,[.agg [(.int .u8),.str,(.int .i64),.str,(.int .i64)]],[.one (.int .i64),.one .bool],none,[],[],[],0,[],[],
 []⟩
def aFf:FE:=⟨700,32,[.agg [(.sl 3),(.sl 4)],.agg [(.int .u8),.str,(.int .i64),.str,(.int .i64)]],[.one .bool],none,[],[],[],0,[],[],
 []⟩
def aFe:FE:=⟨750,33,[.agg [(.sl 3),(.sl 4)],.agg [.str,(.sl 2),(.sl 5)],.agg [(.int .u8),(.int .u8),(.int .i64),(.int .i64),(.int .i64),(.int .i64),(.sl 6)]],[.one .bool],none,[],[],[],0,[],[],
 []⟩
def aFd:FE:=⟨800,36,[.agg [(.int .u8),.str,(.int .i64),(.sl 6)],.one (.int .i64)],[.one .bool],none,[],[],[],0,[],[],
 []⟩
def aFc:FE:=⟨850,60,[.one (.sl 0),.one (.int .i64)],[.one (.int .i64)],none,[],[],[],0,[],[],
 [([0,1,0,1],⟨4,[(0,aD 0 0),(1,aI 1),(7,aI 2),(8,aI 3) ],[],[],.lit 0⟩)]⟩
def aFb:FE:=⟨900,80,[.one (.sl 0),.one (.int .i64)],[.one .bool],none,[],[],[],0,[],[],
 []⟩
def aFa:FE:=⟨950,100,[.one (.int .u8),.agg [(.int .u8),(.int .u8),(.int .i64),(.int .i64),(.int .i64),(.int .i64),(.sl 6)],.one .bool],[.one .bool],none,[],[],[],0,[],[],
 [([0,1,0,1,1],⟨9,[(0,aU 0),(2,.bool (.lit false)),(4,.ptr 0 0),(7,.ptr 1 0),(16,aI 1),(17,aJ 0)],[.cells [aU 2,aU 3,aI 4,aI 5,aI 6,aI 7,aD 8 6] 54,
  .cells [.int .u8 (.lit 1),aU 3,.str [97],.str [],aJ 0,.aY,.aY,.aY,aJ 0] 167 ],[],.lit 0⟩),([0,1,0,1,1],⟨9,[(0,aU 0),(2,.bool (.lit true)),(4,.ptr 0 0),(7,.ptr 1 0),(16,aI 1),(17,aJ 0)],[.cells [aU 2,aU 3,aI 4,aI 5,aI 6,aI 7,aD 8 6] 54,
  .cells [.int .u8 (.lit 1),aU 3,.str [97],.str [],aJ 0,.aY,.aY,.aY,aJ 0] 167 ],[],.lit 0⟩),([0,1,0,1,1],⟨11,[(0,aU 0),(2,.bool (.lit false)),(4,.ptr 0 0),(7,.ptr 1 0),(16,aI 1),(17,aI 2)],[.cells [aU 3,aU 4,aI 5,aI 6,aI 7,aI 8,aD 9 6] 54,
  .cells [.int .u8 (.lit 1),aU 4,.str [97],.str [],aJ 0,aV 2 10 6,.aY,.aY,aJ 0] 167,
  .vec (.aO 10) 6 57 []],[],.lit 0⟩),([0,1,0,1,1],⟨11,[(0,aU 0),(2,.bool (.lit true)),(4,.ptr 0 0),(7,.ptr 1 0),(16,aI 1),(17,aI 2)],[.cells [aU 3,aU 4,aI 5,aI 6,aI 7,aI 8,aD 9 6] 54,
  .cells [.int .u8 (.lit 1),aU 4,.str [97],.str [],aJ 0,aV 2 10 6,.aY,.aY,aJ 0] 167,
  .vec (.aO 10) 6 57 []],[],.lit 0⟩)]⟩
def aC0:FE:=⟨1000,118,[.one .str],[.one .bool],none,[],[],[],0,[],[],
 []⟩
def aCZ:FE:=⟨1050,109,[.one .str,.one (.int .i64)],[.agg [(.int .u8),.str,(.int .i64),(.int .i64),(.int .i64),(.int .i64)],.agg [(.int .i64),(.int .i64)]],none,[],[],[],0,[],[],
 []⟩
def aCY:FE:=⟨1100,134,[.one .str],[.one (.int .i64),.one .bool],none,[],[],[],0,[],[],
 [([0,1,0,1,1],⟨0,[(4,aJ 0),(9,.slice 0 0 0 (.rest 1)),(10,aJ 0),(11,aJ 0)],[.cells [] 5 ],[],.lit 0⟩),([0,1,0,1,1],⟨4,[(4,aI 0),(9,aV 0 1 14),(10,aI 2),(11,aI 3)],[.vec (.aO 1) 14 5 []],[],.lit 0⟩)]⟩
def aCX:FE:=⟨1150,161,[.agg [(.int .u8),.str,(.int .i64),(.sl 6)]],[.one .bool],none,[],[],[],0,[],[],
 []⟩
def aCW:FE:=⟨1200,162,[.one (.int .u8)],[.one (.int .u8)],none,[],[],[],0,[],[],
 []⟩
def aCV:FE:=⟨1250,156,[.one (.int .u8)],[.one (.int .i64)],none,[],[],[],0,[],[],
 []⟩
def aCU:FE:=⟨1300,157,[.one (.int .u8)],[.one .bool],none,[],[],[],0,[],[],
 []⟩
def aCT:FE:=⟨1350,112,[.one (.int .u8)],[.one .bool],none,[],[],[],0,[],[],
 []⟩
def aCS:FE:=⟨1400,117,[.agg [(.int .u8),.str,(.int .i64),.str,(.int .i64)]],[.one .bool],none,[],[],[],0,[],[],
 []⟩
def aoV:FE:=⟨3750,3,[.agg [(.sl 3),(.sl 4)],.one (.sl 7),.one (.sl 9)],[.one .bool],none,[],[],[],0,[],[],
 [([0,1,0,1,1,1],⟨6,[(2,aD 0 9),(3,.ptr 0 0),(42,.agg [aD 1 7,aD 2 7]),(43,aI 3)],[.cells [aD 4 3,aD 5 4] 25 ],[],.lit 0⟩),([0,1,1,0,0,1,1,0,0,1,0,1,1,1],⟨8,[(2,aD 0 9),(3,.ptr 0 0),(8,aD 1 7),(9,aI 2),(42,.agg [aD 3 7,aD 4 7]),(43,aI 5)],[.cells [aD 6 3,aD 7 4] 25 ],[],.lit 0⟩)]⟩
def aCR:FE:=⟨3800,5,[.one (.sl 7)],[.one .bool],none,[],[],[],0,[],[],
 [([0,1,0,1,1],⟨4,[(0,aD 0 7),(3,aI 1),(8,aI 2),(9,aI 3) ],[],[],.lit 0⟩)]⟩
def aCQ:FE:=⟨3850,9,[.agg [(.sl 3),(.sl 4)]],[.one (.sl 7)],none,[],[],[],0,[],[],
 [([0,1,0,1,1,1],⟨2,[(1,.ptr 0 0),(3,.aY),(4,aJ 0)],[.cells [aD 0 3,aD 1 4] 25 ],[],.lit 0⟩),([0,1,0,1,1,1],⟨4,[(1,.ptr 0 0),(3,aV 1 0 7),(4,aI 1)],[.cells [aD 2 3,aD 3 4] 25,
  .vec (.aO 0) 7 62 []],[],.lit 0⟩)]⟩
def aCP:FE:=⟨3900,11,[.agg [(.sl 3),(.sl 4)],.one (.sl 7)],[.one .bool],none,[],[],[],0,[],[],
 [([0,1,0,1,1],⟨4,[(1,aD 0 7),(2,.ptr 0 0),(5,aI 1)],[.cells [aD 2 3,aD 3 4] 25 ],[],.lit 0⟩)]⟩
def aCO:FE:=⟨3950,12,[.one (.sl 7)],[.one (.sl 7)],none,[],[],[],0,[],[],
 [([0,1,0,1,1],⟨1,[(0,aD 0 7),(3,.aY),(4,aJ 0) ],[],[],.lit 0⟩),([0,1,0,1,1],⟨3,[(0,aD 0 7),(3,aV 0 1 7),(4,aI 2)],[.vec (.aO 1) 7 62 []],[],.lit 0⟩)]⟩
def aCN:FE:=⟨4000,14,[.agg [(.sl 3),(.sl 4)],.one (.sl 7),.one (.int .i64),.agg [(.int .u8),(.int .i64),(.int .i64),(.int .i64)]],[.one (.sl 7),.agg [(.int .i64),(.int .u8),(.int .i64),(.int .i64),(.int .i64)],.one (.int .u8)],none,[],[],[],0,[],[],
 []⟩
def aCM:FE:=⟨4050,20,[.agg [(.sl 3),(.sl 4)]],[.one (.int .i64)],none,[],[],[],0,[],[],
 [([0,1,0,1,1],⟨3,[(1,.ptr 0 0),(3,aI 0)],[.cells [aD 1 3,aD 2 4] 25 ],[],.lit 0⟩),([0,1,0,1,1,1],⟨3,[(1,.ptr 0 0),(4,aI 0)],[.cells [aD 1 3,aD 2 4] 25 ],[],.lit 0⟩),([0,1,1,1,0,0,1,0,0,1,0,1,1,1],⟨7,[(1,.ptr 0 0),(4,aI 0),(5,.ptr 1 0),(6,aI 1)],[.cells [aD 2 3,aD 3 4] 25,
  .cells [aS 4,aD 5 2,aD 6 5] 50 ],[],.lit 0⟩),([0,1,1,0,0,1,0,0,1,1,1,0,0,1,0,0,1,0,1,1,1],⟨8,[(1,.ptr 0 0),(4,aI 0),(5,.ptr 1 0),(6,aI 1),(7,aI 2)],[.cells [aD 3 3,aD 4 4] 25,
  .cells [aS 5,aD 6 2,aD 7 5] 50 ],[],.lit 0⟩)]⟩
def aCL:FE:=⟨4100,22,[.agg [(.int .u8),.str,(.int .i64),.str,(.int .i64)],.agg [(.int .i64),(.int .i64),.bool,(.int .i64),(.sl 0),(.sl 0)],.one (.int .i64)],[.one .bool],none,[],[],[],0,[],[],
 [([0,1,0,1,1,1,1,1],⟨13,[(2,aI 0),(3,.ptr 0 0),(4,.ptr 1 0),(7,aU 1),(10,aI 2)],[.cells [aU 1,aS 3,aI 4,aS 5,aI 6] 70,
  .cells [aI 7,aI 8,aB 9,aI 10,aD 11 0,aD 12 0] 62 ],[],.lit 0⟩)]⟩
def aCK:FE:=⟨4150,28,[.one (.int .u8)],[.one (.int .u8)],none,[],[],[],0,[],[],
 []⟩
def aCJ:FE:=⟨4200,37,[.agg [(.sl 3),(.sl 4)],.agg [(.int .u8),.str,(.int .i64),.str,(.int .i64)]],[.one .bool],none,[],[],[],0,[],[],
 []⟩
def aCI:FE:=⟨4250,38,[.agg [(.sl 3),(.sl 4)],.agg [.str,(.sl 2),(.sl 5)],.agg [(.int .u8),(.int .u8),(.int .i64),(.int .i64),(.int .i64),(.int .i64),(.sl 6)]],[.one .bool],none,[],[],[],0,[],[],
 []⟩
def aCH:FE:=⟨4300,39,[.agg [(.int .u8),.str,(.int .i64),(.sl 6)],.one (.int .i64)],[.one (.int .i64)],none,[],[],[],0,[],[],
 [([0,1,0,1,1,1],⟨7,[(1,aI 0),(2,.ptr 0 0),(5,aI 1),(6,aI 2)],[.cells [aU 3,aS 4,aI 5,aD 6 6] 57 ],[],.lit 0⟩)]⟩
def aCG:FE:=⟨4350,40,[.agg [(.int .u8),.str,(.int .i64),(.sl 6)],.one (.int .i64)],[.one .bool],none,[],[],[],0,[],[],
 [([0,1,0,1],⟨6,[(1,aI 0),(2,.ptr 0 0),(5,aI 1)],[.cells [aU 2,aS 3,aI 4,aD 5 6] 57 ],[],.lit 0⟩)]⟩
def aCF:FE:=⟨4400,44,[.one (.int .i64),.one (.sl 0)],[.one (.int .i64)],none,[],[],[],0,[],[],
 [([0,1,0,1],⟨3,[(0,aI 0),(1,aD 1 0),(5,aI 2) ],[],[],.lit 0⟩)]⟩
def aCE:FE:=⟨4450,85,[.one (.int .u8)],[.one (.int .u8)],none,[],[],[],0,[],[],
 []⟩
def aCD:FE:=⟨4500,103,[.one (.int .i64),.one (.int .i64)],[.one .bool],none,[],[],[],0,[],[],
 []⟩
def aCC:FE:=⟨4550,104,[.one (.int .u8)],[.one (.int .i64)],none,[],[],[],0,[],[],
 []⟩
def aCB:FE:=⟨4600,105,[.one (.int .u8)],[.one .bool],none,[],[],[],0,[],[],
 []⟩
def aCA:FE:=⟨4650,106,[.one .str],[.one .bool],none,[],[],[],0,[],[],
 []⟩
def aCz:FE:=⟨4700,129,[.one .str,.one (.int .i64)],[.agg [(.int .u8),.str,(.int .i64),(.int .i64),(.int .i64),(.int .i64)],.agg [(.int .i64),(.int .i64)]],none,[],[],[],0,[],[],
 [([0,0,1,1,1,1],⟨3,[(0,aS 0),(1,aI 1),(4,.ptr 0 0),(5,.ptr 1 0),(6,aI 2)],[.cells [.int .u8 (.lit 0),.str [],aJ 0,aJ 0,aJ 0,aJ 0] 120,
  .cells [aJ 0,aJ 0] 89 ],[],.lit 0⟩),([0,1,0,1,1,1,1,1,1],⟨4,[(0,aS 0),(4,.ptr 0 0),(5,.ptr 1 0),(6,aI 1),(7,aI 2),(8,aI 3)],[.cells [.int .u8 (.lit 0),.str [],aJ 0,aJ 0,aJ 0,aJ 0] 120,
  .cells [aJ 0,aJ 0] 89 ],[],.lit 0⟩),([0,1,0,1,1,1,1,1,1,1,1,1],⟨5,[(0,aS 0),(4,.ptr 0 0),(5,.ptr 1 0),(6,aI 1),(7,aI 2),(9,aI 3),(10,aI 4)],[.cells [.int .u8 (.lit 0),.str [],aJ 0,aJ 0,aJ 0,aJ 0] 120,
  .cells [aJ 0,aJ 0] 89 ],[],.lit 0⟩)]⟩
def aCy:FE:=⟨4750,150,[.one .str],[.one (.int .u8)],none,[],[],[],0,[],[],
 []⟩
def aCx:FE:=⟨4800,167,[.one .str],[.one .bool],none,[],[],[],0,[],[],
 [([0,1,0,1,1],⟨2,[(0,aS 0),(3,.ptr 0 0),(4,aI 1)],[.cells [.str [97,99,113,117,105,114,101],.str [97,100,100],.str [97,114,114,105,118,101],.str [98,97,114,114,105,101,114],.str [98,114,111,97,100,99,97,115,116],.str [99,111,110,100],.str [100,111],.str [100,111,110,101],.str [101,108,115,101],.str [105,102],.str [108,111,99,107],.str [108,111,99,107,102,111,114],.str [108,111,111,112],.str [109,117,116,101,120],.str [111,110,99,101],.str [112,117,116],.str [113,117,101,117,101],.str [114,101,97,100],.str [114,101,108,101,97,115,101],.str [114,108,111,99,107],.str [114,117,110,108,111,99,107],.str [114,119,108,111,99,107],.str [115,101,109],.str [115,101,116],.str [115,105,103,110,97,108],.str [116,97,107,101],.str [116,104,114,101,97,100],.str [116,114,121,97,99,113,117,105,114,101],.str [116,114,121,108,111,99,107],.str [117,110,108,111,99,107],.str [118,97,114],.str [119,97,105,116],.str [119,97,105,116,102,111,114],.str [119,97,105,116,111,110],.str [119,108,111,99,107],.str [119,114,105,116,101],.str [119,117,110,108,111,99,107]] 217 ],[],.lit 0⟩)]⟩
def aCw:FE:=⟨4850,149,[.one .str],[.one .bool],none,[],[],[],0,[],[],
 [([0,1,0,1,1],⟨2,[(0,aS 0),(3,.bool (.lit false)),(4,aI 1) ],[],[],.lit 0⟩),([0,1,0,1,1],⟨2,[(0,aS 0),(3,.bool (.lit true)),(4,aI 1) ],[],[],.lit 0⟩)]⟩
def aCv:FE:=⟨4900,166,[.one .str,.one .str],[.one .bool],none,[],[],[],0,[],[],
 [([0,1,0,1],⟨3,[(0,aS 0),(1,aS 1),(5,aI 2) ],[],[],.lit 0⟩)]⟩
def aCu:FE:=⟨4950,165,[.one (.int .u8),.one .str],[.one .bool],none,[],[],[],0,[],[],
 [([0,1,0,1],⟨3,[(0,aU 0),(1,aS 1),(5,aI 2) ],[],[],.lit 0⟩)]⟩
def avY:FE:=⟨22000,151,[.one .str],[.one (.int .i64),.one .bool],none,[],[],[],0,[],[],
 [([0,0,1],⟨1,[(0,aS 0) ],[],[],.lit 0⟩),([0,1,0,1,1,1,1],⟨3,[(0,aS 0),(4,aI 1),(5,aI 2) ],[],[],.lit 0⟩)]⟩
def aCt:FE:=⟨5000,34,[],[.one .bool],some (⟨4,[(0,aD 0 6),(1,.func (.func 35) [] [.ptr 0 0])],[.cells [aS 1,aD 2 2,aD 3 5] 50 ],[],.lit 0⟩,[.cells [aS 0,aD 1 2,aD 2 5] 50],3),[],[],[],0,[],[],
 []⟩
def aCs:FE:=⟨5050,102,[],[.one .bool],some (⟨7,[(0,.ptr 0 0),(1,.agg [aU 0,aS 1,aI 2,aD 3 6]),(2,aI 4)],[.cells [aI 5,aI 6] 149 ],[],.lit 0⟩,[.cells [aI 0,aI 1] 149],2),[],[],[],0,[],[],
 [([0,1,0,1,1,1],⟨9,[(0,.ptr 0 0),(2,aI 0),(4,.ptr 1 0),(27,aD 1 6),(28,aI 2),(29,aI 3)],[.cells [aI 4,aI 5] 149,
  .cells [aU 6,aS 7,aI 8,aD 1 6] 57 ],[],.lit 0⟩)]⟩
def aCr:FE:=⟨5100,144,[],[],some (⟨2,[(0,.ptr 0 0),(1,.aY),(2,aI 0)],[.cells [aI 1,.bool (.lit true),.bool (.lit false)] 136 ],[],.lit 0⟩,[.cells [aI 0,.bool (.lit true),.bool (.lit false)] 136],1),[],[],[],0,[],[],
 [([0,1],⟨2,[(0,.ptr 0 0),(2,aI 0),(8,.aY),(9,aJ 0),(10,aJ 0)],[.cells [aI 1,.bool (.lit true),.bool (.lit false)] 136 ],[],.lit 0⟩)]⟩
def aCq:FE:=⟨5150,163,[],[.one .bool],some (⟨2,[(0,.ptr 0 0),(1,.aY)],[.cells [.map 1,.map 2] 174,
 .map [(.str [97],aU 0,0)] 0,
 .jF (.aO 1) 1 ],[],.lit 0⟩,[.cells [.map 1,.map 2] 174,.map [(.str [97],aU 0,0)] 0,.jF (.aO 1) 1],2),[],[],[],0,[],[],
 [([0,1,0,1],⟨2,[(0,.ptr 0 0),(7,.aY),(8,aJ 0),(9,aJ 0)],[.cells [.map 1,.map 2] 174,
  .map [(.str [97],aU 0,0)] 0,
  .jF (.aO 1) 1 ],[],.lit 0⟩)]⟩
def aCp:FE:=⟨5200,163,[],[.one .bool],some (⟨2,[(0,.ptr 0 0),(1,.aY)],[.cells [.map 1,.map 2] 174,
 .map [(.str [98],.int .u8 (.lit 1),0),(.str [97],aU 0,0)] 0,
 .jF (.aO 1) 1 ],[],.lit 0⟩,[.cells [.map 1,.map 2] 174,.map [(.str [98],aU 0,0),(.str [97],aU 1,0)] 0,.jF (.aO 2) 1],3),[],[],[],0,[],[],
 [([0,1,0,1],⟨2,[(0,.ptr 0 0),(7,.aY),(8,aJ 0),(9,aJ 0)],[.cells [.map 1,.map 2] 174,
  .map [(.str [98],.int .u8 (.lit 1),0),(.str [97],aU 0,0)] 0,
  .jF (.aO 1) 1 ],[],.lit 0⟩)]⟩
def aCo:FE:=⟨5250,144,[],[],some (⟨3,[(0,.ptr 0 0),(1,aV 1 0 6),(2,aI 1)],[.cells [aI 2,.bool (.lit true),.bool (.lit false)] 136,
 .vec (.aO 0) 6 57 []],[],.lit 0⟩,[.cells [aI 0,.bool (.lit true),.bool (.lit false)] 136,.vec (.aO 1) 6 57 []],2),[],[],[],0,[],[],
 [([0,1],⟨5,[(0,.ptr 0 0),(2,aI 0),(8,aV 1 1 6),(9,aI 2),(10,aI 3)],[.cells [aI 4,.bool (.lit true),.bool (.lit false)] 136,
  .vec (.aO 1) 6 57 []],[],.lit 0⟩)]⟩
def aCn:FE:=⟨5300,163,[],[.one .bool],some (⟨4,[(0,.ptr 0 0),(1,.sN 1 (.aO 0) 6)],[.cells [.map 2,.map 3] 174,
 .vec (.aO 1) 6 57 [],
 .map [(.str [97],aU 2,0)] 0,
 .jF (.aO 3) 1 ],[],.lit 0⟩,[.cells [.map 2,.map 3] 174,.vec (.aO 0) 6 57 [],.map [(.str [97],aU 1,0)] 0,.jF (.aO 2) 1],3),[],[],[],0,[],[],
 [([0,1,0,1],⟨5,[(0,.ptr 0 0),(7,.sN 1 (.aO 0) 6),(8,aI 0),(9,aI 1)],[.cells [.map 2,.map 3] 174,
  .vec (.aO 2) 6 57 [],
  .map [(.str [97],aU 3,0)] 0,
  .jF (.aO 4) 1 ],[],.lit 0⟩)]⟩
def aCm:FE:=⟨5350,163,[],[.one .bool],some (⟨4,[(0,.ptr 0 0),(1,.sN 1 (.aO 0) 6)],[.cells [.map 2,.map 3] 174,
 .vec (.aO 1) 6 57 [],
 .map [(.str [98],.int .u8 (.lit 1),0),(.str [97],aU 2,0)] 0,
 .jF (.aO 3) 1 ],[],.lit 0⟩,[.cells [.map 2,.map 3] 174,.vec (.aO 0) 6 57 [],.map [(.str [98],aU 1,0),(.str [97],aU 2,0)] 0,.jF (.aO 3) 1],4),[],[],[],0,[],[],
 [([0,1,0,1],⟨6,[(0,.ptr 0 0),(7,.sN 1 (.aO 0) 6),(8,aI 0),(9,aI 1)],[.cells [.map 2,.map 3] 174,
  .vec (.aO 2) 6 57 [],
  .map [(.str [98],aU 3,0),(.str [97],aU 4,0)] 0,
  .jF (.aO 5) 1 ],[],.lit 0⟩)]⟩
def aCl:FE:=⟨5400,101,[],[.one (.int .i64)],some (⟨4,[(0,aD 0 6),(1,.func (.func 35) [] [.ptr 0 0])],[.cells [aS 1,aD 2 2,aD 3 5] 50 ],[],.lit 0⟩,[.cells [aS 0,aD 1 2,aD 2 5] 50],3),[],[],[],0,[],[],
 [([0,1,0,1],⟨6,[(0,aD 0 6),(1,.func (.func 35) [] [.ptr 0 0]),(7,aI 1),(8,aI 2)],[.cells [aS 3,aD 4 2,aD 5 5] 50 ],[],.lit 0⟩)]⟩
def aCk:FE:=⟨5450,144,[],[],some (⟨3,[(0,.ptr 0 0),(1,aD 0 6),(2,aI 1)],[.cells [aI 2,.bool (.lit true),.bool (.lit false)] 136 ],[],.lit 0⟩,[.cells [aI 0,.bool (.lit true),.bool (.lit false)] 136],1),[],[],[],0,[],[],
 [([0,1],⟨5,[(0,.ptr 0 0),(2,aI 0),(8,aD 1 6),(9,aI 2),(10,aI 3)],[.cells [aI 4,.bool (.lit true),.bool (.lit false)] 136 ],[],.lit 0⟩)]⟩
def aCj:FE:=⟨5500,163,[],[.one .bool],some (⟨3,[(0,.ptr 0 0),(1,aD 0 6)],[.cells [.map 1,.map 2] 174,
 .map [(.str [97],aU 1,0)] 0,
 .jF (.aO 2) 1 ],[],.lit 0⟩,[.cells [.map 1,.map 2] 174,.map [(.str [97],aU 0,0)] 0,.jF (.aO 1) 1],2),[],[],[],0,[],[],
 [([0,1,0,1],⟨5,[(0,.ptr 0 0),(7,aD 0 6),(8,aI 1),(9,aI 2)],[.cells [.map 1,.map 2] 174,
  .map [(.str [97],aU 3,0)] 0,
  .jF (.aO 4) 1 ],[],.lit 0⟩)]⟩
def aCi:FE:=⟨5550,163,[],[.one .bool],some (⟨3,[(0,.ptr 0 0),(1,aD 0 6)],[.cells [.map 1,.map 2] 174,
 .map [(.str [98],.int .u8 (.lit 1),0),(.str [97],aU 1,0)] 0,
 .jF (.aO 2) 1 ],[],.lit 0⟩,[.cells [.map 1,.map 2] 174,.map [(.str [98],aU 0,0),(.str [97],aU 1,0)] 0,.jF (.aO 2) 1],3),[],[],[],0,[],[],
 [([0,1,0,1],⟨6,[(0,.ptr 0 0),(7,aD 0 6),(8,aI 1),(9,aI 2)],[.cells [.map 1,.map 2] 174,
  .map [(.str [98],aU 3,0),(.str [97],aU 4,0)] 0,
  .jF (.aO 5) 1 ],[],.lit 0⟩)]⟩
def aCh:FE:=⟨5600,163,[],[.one .bool],some (⟨4,[(0,.ptr 0 0),(1,aD 0 6)],[.cells [.map 1,.map 2] 174,
 .map [(.str [98],aU 1,0),(.str [97],aU 2,0)] 0,
 .jF (.aO 3) 1 ],[],.lit 0⟩,[.cells [.map 1,.map 2] 174,.map [(.str [98],aU 0,0),(.str [97],aU 1,0)] 0,.jF (.aO 2) 1],3),[],[],[],0,[],[],
 [([0,1,0,1],⟨6,[(0,.ptr 0 0),(7,aD 0 6),(8,aI 1),(9,aI 2)],[.cells [.map 1,.map 2] 174,
  .map [(.str [98],aU 3,0),(.str [97],aU 4,0)] 0,
  .jF (.aO 5) 1 ],[],.lit 0⟩)]⟩
def awV:FE:=⟨12000,75,[],[],some (⟨13,[(0,aV 0 0 0),(1,.func (.func 76) [] [.ptr 1 0])],[.vec (.aO 0) 0 3 [],
 .cells [.ptr 2 0] 73,
 .cells [aI 1,.qV 3 6 (.aO 2) 0,aI 3,aV 3 4 7,aU 5,aI 2,aI 6,aI 7] 76,
 .vec (.aO 4) 7 62 [(.aO 2,[aI 8,aI 9,aB 10,aI 11,aV 0 0 0,aV 4 12 0])],
 .vec (.aO 12) 0 2 []],[],.lit 0⟩,[.vec (.aO 0) 0 3 [],.cells [.ptr 2 0] 73,.cells [aI 1,.qV 3 6 (.aO 2) 0,aI 3,aV 3 4 7,aU 5,aI 2,aI 6,aI 7] 76,.vec (.aO 4) 7 62 [(.aO 2,[aI 8,aI 9,aB 10,aI 11,aV 0 0 0,aV 4 12 0])],.vec (.aO 12) 0 2 []],13),[⟨13,[(0,aV 0 0 0)],[.vec (.aO 0) 0 3 [],
 .cells [.ptr 2 0] 73,
 .cells [aI 1,.qV 3 6 (.aO 2) 0,aI 3,aV 3 4 7,aU 5,aI 2,aI 6,aI 7] 76,
 .vec (.aO 4) 7 62 [(.aO 2,[aI 8,aI 9,aB 10,aI 11,aV 0 0 0,aV 4 12 0])],
 .vec (.aO 12) 0 2 []],[],.lit 0⟩,⟨16,[(0,.A8 0 (.lit 0) (.aO 13) 0)],[.vec (.aO 14) 0 3 [],
 .cells [.ptr 2 0] 73,
 .cells [aI 1,.qV 3 6 (.aO 2) 0,aI 3,aV 3 4 7,aU 5,aI 2,aI 6,aI 7] 76,
 .vec (.aO 4) 7 62 [(.aO 2,[aI 8,aI 9,aB 10,aI 11,.sN 0 (.aO 15) 0,aV 4 12 0])],
 .vec (.aO 12) 0 2 []],[],.lit 0⟩],[],[],13,[],[],
 [([0,1,0,1,1,1],⟨16,[(0,aV 0 13 0),(1,.func (.func 76) [] [.ptr 1 0]),(5,aI 14),(6,aI 15)],[.vec (.aO 13) 0 3 [],
  .cells [.ptr 2 0] 73,
  .cells [aI 1,.qV 3 6 (.aO 2) 0,aI 3,aV 3 4 7,aU 5,aI 2,aI 6,aI 7] 76,
  .vec (.aO 4) 7 62 [(.aO 2,[aI 8,aI 9,aB 10,aI 11,aV 0 13 0,aV 4 12 0])],
  .vec (.aO 12) 0 2 []],[],.lit 0⟩)]⟩
def awU:FE:=⟨12050,108,[],[],some (⟨13,[(0,aV 0 0 0),(1,.func (.func 76) [] [.ptr 1 0])],[.vec (.aO 0) 0 3 [],
 .cells [.ptr 2 0] 73,
 .cells [aI 1,.qV 3 6 (.aO 2) 0,aI 3,aV 3 4 7,aU 5,aI 2,aI 6,aI 7] 76,
 .vec (.aO 4) 7 62 [(.aO 2,[aI 8,aI 9,aB 10,aI 11,aV 0 0 0,aV 4 12 0])],
 .vec (.aO 12) 0 2 []],[],.lit 0⟩,[.vec (.aO 0) 0 3 [],.cells [.ptr 2 0] 73,.cells [aI 1,.qV 3 6 (.aO 2) 0,aI 3,aV 3 4 7,aU 5,aI 2,aI 6,aI 7] 76,.vec (.aO 4) 7 62 [(.aO 2,[aI 8,aI 9,aB 10,aI 11,aV 0 0 0,aV 4 12 0])],.vec (.aO 12) 0 2 []],13),[⟨14,[(0,aI 13)],[.vec (.aO 0) 0 3 [],
 .cells [.ptr 2 0] 73,
 .cells [aI 1,.qV 3 6 (.aO 2) 0,aI 3,aV 3 4 7,aU 5,aI 2,aI 6,aI 7] 76,
 .vec (.aO 4) 7 62 [(.aO 2,[aI 8,aI 9,aB 10,aI 11,aV 0 0 0,aV 4 12 0])],
 .vec (.aO 12) 0 2 []],[],.lit 0⟩],[],[],13,[],[],
 [([0,1,0,1],⟨15,[(0,aV 0 0 0),(1,.func (.func 76) [] [.ptr 1 0]),(7,aI 13),(8,aI 14)],[.vec (.aO 0) 0 3 [],
  .cells [.ptr 2 0] 73,
  .cells [aI 1,.qV 3 6 (.aO 2) 0,aI 3,aV 3 4 7,aU 5,aI 2,aI 6,aI 7] 76,
  .vec (.aO 4) 7 62 [(.aO 2,[aI 8,aI 9,aB 10,aI 11,aV 0 0 0,aV 4 12 0])],
  .vec (.aO 12) 0 2 []],[],.lit 0⟩)]⟩
def awT:FE:=⟨12100,75,[],[],some (⟨13,[(0,aV 0 0 0),(1,.func (.func 76) [] [.ptr 1 0])],[.vec (.aO 0) 0 3 [],
 .cells [.ptr 2 0] 73,
 .cells [aI 1,.qV 3 6 (.aO 2) 0,aI 3,aV 3 4 7,aU 5,aI 2,aI 6,aI 7] 76,
 .vec (.aO 4) 7 62 [(.aO 2,[aI 8,aI 9,aB 10,aI 11,aV 0 0 0,aE 12 0])]],[],.lit 0⟩,[.vec (.aO 0) 0 3 [],.cells [.ptr 2 0] 73,.cells [aI 1,.qV 3 6 (.aO 2) 0,aI 3,aV 3 4 7,aU 5,aI 2,aI 6,aI 7] 76,.vec (.aO 4) 7 62 [(.aO 2,[aI 8,aI 9,aB 10,aI 11,aV 0 0 0,aE 12 0])]],13),[⟨13,[(0,aV 0 0 0)],[.vec (.aO 0) 0 3 [],
 .cells [.ptr 2 0] 73,
 .cells [aI 1,.qV 3 6 (.aO 2) 0,aI 3,aV 3 4 7,aU 5,aI 2,aI 6,aI 7] 76,
 .vec (.aO 4) 7 62 [(.aO 2,[aI 8,aI 9,aB 10,aI 11,aV 0 0 0,aE 12 0])]],[],.lit 0⟩,⟨16,[(0,.A8 0 (.lit 0) (.aO 13) 0)],[.vec (.aO 14) 0 3 [],
 .cells [.ptr 2 0] 73,
 .cells [aI 1,.qV 3 6 (.aO 2) 0,aI 3,aV 3 4 7,aU 5,aI 2,aI 6,aI 7] 76,
 .vec (.aO 4) 7 62 [(.aO 2,[aI 8,aI 9,aB 10,aI 11,.sN 0 (.aO 15) 0,aE 12 0])]],[],.lit 0⟩],[],[],13,[],[],
 [([0,1,0,1,1,1],⟨16,[(0,aV 0 13 0),(1,.func (.func 76) [] [.ptr 1 0]),(5,aI 14),(6,aI 15)],[.vec (.aO 13) 0 3 [],
  .cells [.ptr 2 0] 73,
  .cells [aI 1,.qV 3 6 (.aO 2) 0,aI 3,aV 3 4 7,aU 5,aI 2,aI 6,aI 7] 76,
  .vec (.aO 4) 7 62 [(.aO 2,[aI 8,aI 9,aB 10,aI 11,aV 0 13 0,aE 12 0])]],[],.lit 0⟩)]⟩
def awS:FE:=⟨12150,108,[],[],some (⟨13,[(0,aV 0 0 0),(1,.func (.func 76) [] [.ptr 1 0])],[.vec (.aO 0) 0 3 [],
 .cells [.ptr 2 0] 73,
 .cells [aI 1,.qV 3 6 (.aO 2) 0,aI 3,aV 3 4 7,aU 5,aI 2,aI 6,aI 7] 76,
 .vec (.aO 4) 7 62 [(.aO 2,[aI 8,aI 9,aB 10,aI 11,aV 0 0 0,aE 12 0])]],[],.lit 0⟩,[.vec (.aO 0) 0 3 [],.cells [.ptr 2 0] 73,.cells [aI 1,.qV 3 6 (.aO 2) 0,aI 3,aV 3 4 7,aU 5,aI 2,aI 6,aI 7] 76,.vec (.aO 4) 7 62 [(.aO 2,[aI 8,aI 9,aB 10,aI 11,aV 0 0 0,aE 12 0])]],13),[⟨14,[(0,aI 13)],[.vec (.aO 0) 0 3 [],
 .cells [.ptr 2 0] 73,
 .cells [aI 1,.qV 3 6 (.aO 2) 0,aI 3,aV 3 4 7,aU 5,aI 2,aI 6,aI 7] 76,
 .vec (.aO 4) 7 62 [(.aO 2,[aI 8,aI 9,aB 10,aI 11,aV 0 0 0,aE 12 0])]],[],.lit 0⟩],[],[],13,[],[],
 [([0,1,0,1],⟨15,[(0,aV 0 0 0),(1,.func (.func 76) [] [.ptr 1 0]),(7,aI 13),(8,aI 14)],[.vec (.aO 0) 0 3 [],
  .cells [.ptr 2 0] 73,
  .cells [aI 1,.qV 3 6 (.aO 2) 0,aI 3,aV 3 4 7,aU 5,aI 2,aI 6,aI 7] 76,
  .vec (.aO 4) 7 62 [(.aO 2,[aI 8,aI 9,aB 10,aI 11,aV 0 0 0,aE 12 0])]],[],.lit 0⟩)]⟩
def awR:FE:=⟨12200,75,[],[],some (⟨13,[(0,aE 0 0),(1,.func (.func 76) [] [.ptr 0 0])],[.cells [.ptr 1 0] 73,
 .cells [aI 1,.qV 2 6 (.aO 2) 0,aI 3,aV 2 4 7,aU 5,aI 2,aI 6,aI 7] 76,
 .vec (.aO 4) 7 62 [(.aO 2,[aI 8,aI 9,aB 10,aI 11,aE 0 0,aV 3 12 0])],
 .vec (.aO 12) 0 2 []],[],.lit 0⟩,[.cells [.ptr 1 0] 73,.cells [aI 1,.qV 2 6 (.aO 2) 0,aI 3,aV 2 4 7,aU 5,aI 2,aI 6,aI 7] 76,.vec (.aO 4) 7 62 [(.aO 2,[aI 8,aI 9,aB 10,aI 11,aE 0 0,aV 3 12 0])],.vec (.aO 12) 0 2 []],13),[⟨13,[(0,aE 0 0)],[.cells [.ptr 1 0] 73,
 .cells [aI 1,.qV 2 6 (.aO 2) 0,aI 3,aV 2 4 7,aU 5,aI 2,aI 6,aI 7] 76,
 .vec (.aO 4) 7 62 [(.aO 2,[aI 8,aI 9,aB 10,aI 11,aE 0 0,aV 3 12 0])],
 .vec (.aO 12) 0 2 []],[],.lit 0⟩],[],[],13,[],[],
 []⟩
def awQ:FE:=⟨12250,108,[],[],some (⟨13,[(0,aE 0 0),(1,.func (.func 76) [] [.ptr 0 0])],[.cells [.ptr 1 0] 73,
 .cells [aI 1,.qV 2 6 (.aO 2) 0,aI 3,aV 2 4 7,aU 5,aI 2,aI 6,aI 7] 76,
 .vec (.aO 4) 7 62 [(.aO 2,[aI 8,aI 9,aB 10,aI 11,aE 0 0,aV 3 12 0])],
 .vec (.aO 12) 0 2 []],[],.lit 0⟩,[.cells [.ptr 1 0] 73,.cells [aI 1,.qV 2 6 (.aO 2) 0,aI 3,aV 2 4 7,aU 5,aI 2,aI 6,aI 7] 76,.vec (.aO 4) 7 62 [(.aO 2,[aI 8,aI 9,aB 10,aI 11,aE 0 0,aV 3 12 0])],.vec (.aO 12) 0 2 []],13),[⟨13,[(0,aJ (-1))],[.cells [.ptr 1 0] 73,
 .cells [aI 1,.qV 2 6 (.aO 2) 0,aI 3,aV 2 4 7,aU 5,aI 2,aI 6,aI 7] 76,
 .vec (.aO 4) 7 62 [(.aO 2,[aI 8,aI 9,aB 10,aI 11,aE 0 0,aV 3 12 0])],
 .vec (.aO 12) 0 2 []],[],.lit 0⟩],[],[],13,[],[],
 [([0,1,0,1],⟨13,[(0,aE 0 0),(1,.func (.func 76) [] [.ptr 0 0]),(7,aJ 0),(8,aJ 0)],[.cells [.ptr 1 0] 73,
  .cells [aI 1,.qV 2 6 (.aO 2) 0,aI 3,aV 2 4 7,aU 5,aI 2,aI 6,aI 7] 76,
  .vec (.aO 4) 7 62 [(.aO 2,[aI 8,aI 9,aB 10,aI 11,aE 0 0,aV 3 12 0])],
  .vec (.aO 12) 0 2 []],[],.lit 0⟩)]⟩
def awP:FE:=⟨12300,75,[],[],some (⟨13,[(0,aE 0 0),(1,.func (.func 76) [] [.ptr 0 0])],[.cells [.ptr 1 0] 73,
 .cells [aI 1,.qV 2 6 (.aO 2) 0,aI 3,aV 2 4 7,aU 5,aI 2,aI 6,aI 7] 76,
 .vec (.aO 4) 7 62 [(.aO 2,[aI 8,aI 9,aB 10,aI 11,aE 0 0,aE 12 0])]],[],.lit 0⟩,[.cells [.ptr 1 0] 73,.cells [aI 1,.qV 2 6 (.aO 2) 0,aI 3,aV 2 4 7,aU 5,aI 2,aI 6,aI 7] 76,.vec (.aO 4) 7 62 [(.aO 2,[aI 8,aI 9,aB 10,aI 11,aE 0 0,aE 12 0])]],13),[⟨13,[(0,aE 0 0)],[.cells [.ptr 1 0] 73,
 .cells [aI 1,.qV 2 6 (.aO 2) 0,aI 3,aV 2 4 7,aU 5,aI 2,aI 6,aI 7] 76,
 .vec (.aO 4) 7 62 [(.aO 2,[aI 8,aI 9,aB 10,aI 11,aE 0 0,aE 12 0])]],[],.lit 0⟩],[],[],13,[],[],
 []⟩
def awO:FE:=⟨12350,108,[],[],some (⟨13,[(0,aE 0 0),(1,.func (.func 76) [] [.ptr 0 0])],[.cells [.ptr 1 0] 73,
 .cells [aI 1,.qV 2 6 (.aO 2) 0,aI 3,aV 2 4 7,aU 5,aI 2,aI 6,aI 7] 76,
 .vec (.aO 4) 7 62 [(.aO 2,[aI 8,aI 9,aB 10,aI 11,aE 0 0,aE 12 0])]],[],.lit 0⟩,[.cells [.ptr 1 0] 73,.cells [aI 1,.qV 2 6 (.aO 2) 0,aI 3,aV 2 4 7,aU 5,aI 2,aI 6,aI 7] 76,.vec (.aO 4) 7 62 [(.aO 2,[aI 8,aI 9,aB 10,aI 11,aE 0 0,aE 12 0])]],13),[⟨13,[(0,aJ (-1))],[.cells [.ptr 1 0] 73,
 .cells [aI 1,.qV 2 6 (.aO 2) 0,aI 3,aV 2 4 7,aU 5,aI 2,aI 6,aI 7] 76,
 .vec (.aO 4) 7 62 [(.aO 2,[aI 8,aI 9,aB 10,aI 11,aE 0 0,aE 12 0])]],[],.lit 0⟩],[],[],13,[],[],
 [([0,1,0,1],⟨13,[(0,aE 0 0),(1,.func (.func 76) [] [.ptr 0 0]),(7,aJ 0),(8,aJ 0)],[.cells [.ptr 1 0] 73,
  .cells [aI 1,.qV 2 6 (.aO 2) 0,aI 3,aV 2 4 7,aU 5,aI 2,aI 6,aI 7] 76,
  .vec (.aO 4) 7 62 [(.aO 2,[aI 8,aI 9,aB 10,aI 11,aE 0 0,aE 12 0])]],[],.lit 0⟩)]⟩
def awN:FE:=⟨12400,120,[],[],some (⟨7,[(0,.agg [.slice 0 0 1 (.exact 1),.slice 1 0 1 (.exact 1)])],[.cells [aU 0,.str [97],aI 1,.str [],aI 2] 70,
 .cells [.str [97],.slice 2 0 1 (.exact 1),aI 3] 130,
 .cells [.int .u8 (.lit 1),aU 4,.str [97],.str [],aI 5,.aY,.aY,.aY,aI 6] 167 ],[],.lit 0⟩,[.cells [aU 0,.str [97],aI 1,.str [],aI 2] 70,.cells [.str [97],.slice 2 0 1 (.exact 1),aI 3] 130,.cells [.int .u8 (.lit 1),aU 4,.str [97],.str [],aI 5,.aY,.aY,.aY,aI 6] 167],7),[⟨7,[(0,.bool (.lit false))],[.cells [aU 0,.str [97],aI 1,.str [],aI 2] 70,
 .cells [.str [97],.slice 2 0 1 (.exact 1),aI 3] 130,
 .cells [.int .u8 (.lit 1),aU 4,.str [97],.str [],aI 5,.aY,.aY,.aY,aI 6] 167 ],[],.lit 0⟩,⟨7,[(0,.bool (.lit true))],[.cells [aU 0,.str [97],aI 1,.str [],aI 2] 70,
 .cells [.str [97],.slice 2 0 1 (.exact 1),aI 3] 130,
 .cells [.int .u8 (.lit 1),aU 4,.str [97],.str [],aI 5,.aY,.aY,.aY,aI 6] 167 ],[],.lit 0⟩],[],[],7,[],[],
 []⟩
def awM:FE:=⟨12450,120,[],[],some (⟨9,[(0,.agg [.slice 0 0 2 (.exact 2),.slice 1 0 1 (.exact 1)])],[.cells [.int .u8 (.lit 1),.str [98],aI 0,.str [],aI 1,aU 2,.str [97],aI 3,.str [98],aI 4] 70,
 .cells [.str [97],.slice 2 0 1 (.exact 1),aI 5] 130,
 .cells [.int .u8 (.lit 1),aU 6,.str [97],.str [],aI 7,.aY,.aY,.aY,aI 8] 167 ],[],.lit 0⟩,[.cells [.int .u8 (.lit 1),.str [98],aI 0,.str [],aI 1,aU 2,.str [97],aI 3,.str [98],aI 4] 70,.cells [.str [97],.slice 2 0 1 (.exact 1),aI 5] 130,.cells [.int .u8 (.lit 1),aU 6,.str [97],.str [],aI 7,.aY,.aY,.aY,aI 8] 167],9),[⟨9,[(0,.bool (.lit false))],[.cells [.int .u8 (.lit 1),.str [98],aI 0,.str [],aI 1,aU 2,.str [97],aI 3,.str [98],aI 4] 70,
 .cells [.str [97],.slice 2 0 1 (.exact 1),aI 5] 130,
 .cells [.int .u8 (.lit 1),aU 6,.str [97],.str [],aI 7,.aY,.aY,.aY,aI 8] 167 ],[],.lit 0⟩,⟨9,[(0,.bool (.lit true))],[.cells [.int .u8 (.lit 1),.str [98],aI 0,.str [],aI 1,aU 2,.str [97],aI 3,.str [98],aI 4] 70,
 .cells [.str [97],.slice 2 0 1 (.exact 1),aI 5] 130,
 .cells [.int .u8 (.lit 1),aU 6,.str [97],.str [],aI 7,.aY,.aY,.aY,aI 8] 167 ],[],.lit 0⟩],[],[],9,[],[],
 []⟩
def awL:FE:=⟨12500,120,[],[],some (⟨7,[(0,.agg [.slice 0 0 1 (.exact 1),.slice 1 0 1 (.exact 1)])],[.cells [aU 0,.str [97],aI 1,.str [],aI 2] 70,
 .cells [.str [97],.slice 2 0 1 (.exact 1),aI 3] 130,
 .cells [.int .u8 (.lit 1),aU 4,.str [97],.str [97],aI 5,.aY,.aY,.aY,aI 6] 167 ],[],.lit 0⟩,[.cells [aU 0,.str [97],aI 1,.str [],aI 2] 70,.cells [.str [97],.slice 2 0 1 (.exact 1),aI 3] 130,.cells [.int .u8 (.lit 1),aU 4,.str [97],.str [97],aI 5,.aY,.aY,.aY,aI 6] 167],7),[⟨7,[(0,.bool (.lit false))],[.cells [aU 0,.str [97],aI 1,.str [],aI 2] 70,
 .cells [.str [97],.slice 2 0 1 (.exact 1),aI 3] 130,
 .cells [.int .u8 (.lit 1),aU 4,.str [97],.str [97],aI 5,.aY,.aY,.aY,aI 6] 167 ],[],.lit 0⟩,⟨7,[(0,.bool (.lit true))],[.cells [aU 0,.str [97],aI 1,.str [],aI 2] 70,
 .cells [.str [97],.slice 2 0 1 (.exact 1),aI 3] 130,
 .cells [.int .u8 (.lit 1),aU 4,.str [97],.str [97],aI 5,.aY,.aY,.aY,aI 6] 167 ],[],.lit 0⟩],[],[],7,[],[],
 []⟩
def awK:FE:=⟨12550,120,[],[],some (⟨9,[(0,.agg [.slice 0 0 2 (.exact 2),.slice 1 0 1 (.exact 1)])],[.cells [.int .u8 (.lit 1),.str [98],aI 0,.str [],aI 1,aU 2,.str [97],aI 3,.str [98],aI 4] 70,
 .cells [.str [97],.slice 2 0 1 (.exact 1),aI 5] 130,
 .cells [.int .u8 (.lit 1),aU 6,.str [97],.str [97],aI 7,.aY,.aY,.aY,aI 8] 167 ],[],.lit 0⟩,[.cells [.int .u8 (.lit 1),.str [98],aI 0,.str [],aI 1,aU 2,.str [97],aI 3,.str [98],aI 4] 70,.cells [.str [97],.slice 2 0 1 (.exact 1),aI 5] 130,.cells [.int .u8 (.lit 1),aU 6,.str [97],.str [97],aI 7,.aY,.aY,.aY,aI 8] 167],9),[⟨9,[(0,.bool (.lit false))],[.cells [.int .u8 (.lit 1),.str [98],aI 0,.str [],aI 1,aU 2,.str [97],aI 3,.str [98],aI 4] 70,
 .cells [.str [97],.slice 2 0 1 (.exact 1),aI 5] 130,
 .cells [.int .u8 (.lit 1),aU 6,.str [97],.str [97],aI 7,.aY,.aY,.aY,aI 8] 167 ],[],.lit 0⟩,⟨9,[(0,.bool (.lit true))],[.cells [.int .u8 (.lit 1),.str [98],aI 0,.str [],aI 1,aU 2,.str [97],aI 3,.str [98],aI 4] 70,
 .cells [.str [97],.slice 2 0 1 (.exact 1),aI 5] 130,
 .cells [.int .u8 (.lit 1),aU 6,.str [97],.str [97],aI 7,.aY,.aY,.aY,aI 8] 167 ],[],.lit 0⟩],[],[],9,[],[],
 []⟩
def awJ:FE:=⟨12600,120,[],[],some (⟨8,[(0,.agg [.slice 0 0 1 (.exact 1),.slice 1 0 1 (.exact 1)])],[.cells [aU 0,.str [97],aI 1,.str [],aI 2] 70,
 .cells [.str [97],.slice 2 0 1 (.exact 1),aI 3] 130,
 .cells [.int .u8 (.lit 1),aU 4,.str [97],.str [],aI 5,aV 3 6 6,.aY,.aY,aI 7] 167,
 .vec (.aO 6) 6 57 []],[],.lit 0⟩,[.cells [aU 0,.str [97],aI 1,.str [],aI 2] 70,.cells [.str [97],.slice 2 0 1 (.exact 1),aI 3] 130,.cells [.int .u8 (.lit 1),aU 4,.str [97],.str [],aI 5,aV 3 6 6,.aY,.aY,aI 7] 167,.vec (.aO 6) 6 57 []],8),[⟨8,[(0,.bool (.lit false))],[.cells [aU 0,.str [97],aI 1,.str [],aI 2] 70,
 .cells [.str [97],.slice 2 0 1 (.exact 1),aI 3] 130,
 .cells [.int .u8 (.lit 1),aU 4,.str [97],.str [],aI 5,aV 3 6 6,.aY,.aY,aI 7] 167,
 .vec (.aO 6) 6 57 []],[],.lit 0⟩,⟨10,[(0,.bool (.lit true))],[.cells [aU 0,.str [97],aI 1,.str [],aI 2] 70,
 .cells [.str [97],.slice 2 0 1 (.exact 1),aI 3] 130,
 .cells [.int .u8 (.lit 1),aU 4,.str [97],.str [],aI 5,.sN 3 (.aO 8) 6,.aY,.aY,aI 7] 167,
 .vec (.aO 9) 6 57 []],[],.lit 0⟩],[],[],8,[],[],
 []⟩
def awI:FE:=⟨12650,120,[],[],some (⟨10,[(0,.agg [.slice 0 0 2 (.exact 2),.slice 1 0 1 (.exact 1)])],[.cells [.int .u8 (.lit 1),.str [98],aI 0,.str [],aI 1,aU 2,.str [97],aI 3,.str [98],aI 4] 70,
 .cells [.str [97],.slice 2 0 1 (.exact 1),aI 5] 130,
 .cells [.int .u8 (.lit 1),aU 6,.str [97],.str [],aI 7,aV 3 8 6,.aY,.aY,aI 9] 167,
 .vec (.aO 8) 6 57 []],[],.lit 0⟩,[.cells [.int .u8 (.lit 1),.str [98],aI 0,.str [],aI 1,aU 2,.str [97],aI 3,.str [98],aI 4] 70,.cells [.str [97],.slice 2 0 1 (.exact 1),aI 5] 130,.cells [.int .u8 (.lit 1),aU 6,.str [97],.str [],aI 7,aV 3 8 6,.aY,.aY,aI 9] 167,.vec (.aO 8) 6 57 []],10),[⟨10,[(0,.bool (.lit false))],[.cells [.int .u8 (.lit 1),.str [98],aI 0,.str [],aI 1,aU 2,.str [97],aI 3,.str [98],aI 4] 70,
 .cells [.str [97],.slice 2 0 1 (.exact 1),aI 5] 130,
 .cells [.int .u8 (.lit 1),aU 6,.str [97],.str [],aI 7,aV 3 8 6,.aY,.aY,aI 9] 167,
 .vec (.aO 8) 6 57 []],[],.lit 0⟩,⟨12,[(0,.bool (.lit true))],[.cells [.int .u8 (.lit 1),.str [98],aI 0,.str [],aI 1,aU 2,.str [97],aI 3,.str [98],aI 4] 70,
 .cells [.str [97],.slice 2 0 1 (.exact 1),aI 5] 130,
 .cells [.int .u8 (.lit 1),aU 6,.str [97],.str [],aI 7,.sN 3 (.aO 10) 6,.aY,.aY,aI 9] 167,
 .vec (.aO 11) 6 57 []],[],.lit 0⟩],[],[],10,[],[],
 []⟩
def awH:FE:=⟨12700,120,[],[],some (⟨8,[(0,.agg [.slice 0 0 1 (.exact 1),.slice 1 0 1 (.exact 1)])],[.cells [aU 0,.str [97],aI 1,.str [],aI 2] 70,
 .cells [.str [97],.slice 2 0 1 (.exact 1),aI 3] 130,
 .cells [.int .u8 (.lit 1),aU 4,.str [97],.str [97],aI 5,aV 3 6 6,.aY,.aY,aI 7] 167,
 .vec (.aO 6) 6 57 []],[],.lit 0⟩,[.cells [aU 0,.str [97],aI 1,.str [],aI 2] 70,.cells [.str [97],.slice 2 0 1 (.exact 1),aI 3] 130,.cells [.int .u8 (.lit 1),aU 4,.str [97],.str [97],aI 5,aV 3 6 6,.aY,.aY,aI 7] 167,.vec (.aO 6) 6 57 []],8),[⟨8,[(0,.bool (.lit false))],[.cells [aU 0,.str [97],aI 1,.str [],aI 2] 70,
 .cells [.str [97],.slice 2 0 1 (.exact 1),aI 3] 130,
 .cells [.int .u8 (.lit 1),aU 4,.str [97],.str [97],aI 5,aV 3 6 6,.aY,.aY,aI 7] 167,
 .vec (.aO 6) 6 57 []],[],.lit 0⟩,⟨10,[(0,.bool (.lit true))],[.cells [aU 0,.str [97],aI 1,.str [],aI 2] 70,
 .cells [.str [97],.slice 2 0 1 (.exact 1),aI 3] 130,
 .cells [.int .u8 (.lit 1),aU 4,.str [97],.str [97],aI 5,.sN 3 (.aO 8) 6,.aY,.aY,aI 7] 167,
 .vec (.aO 9) 6 57 []],[],.lit 0⟩],[],[],8,[],[],
 []⟩
def awG:FE:=⟨12750,120,[],[],some (⟨10,[(0,.agg [.slice 0 0 2 (.exact 2),.slice 1 0 1 (.exact 1)])],[.cells [.int .u8 (.lit 1),.str [98],aI 0,.str [],aI 1,aU 2,.str [97],aI 3,.str [98],aI 4] 70,
 .cells [.str [97],.slice 2 0 1 (.exact 1),aI 5] 130,
 .cells [.int .u8 (.lit 1),aU 6,.str [97],.str [97],aI 7,aV 3 8 6,.aY,.aY,aI 9] 167,
 .vec (.aO 8) 6 57 []],[],.lit 0⟩,[.cells [.int .u8 (.lit 1),.str [98],aI 0,.str [],aI 1,aU 2,.str [97],aI 3,.str [98],aI 4] 70,.cells [.str [97],.slice 2 0 1 (.exact 1),aI 5] 130,.cells [.int .u8 (.lit 1),aU 6,.str [97],.str [97],aI 7,aV 3 8 6,.aY,.aY,aI 9] 167,.vec (.aO 8) 6 57 []],10),[⟨10,[(0,.bool (.lit false))],[.cells [.int .u8 (.lit 1),.str [98],aI 0,.str [],aI 1,aU 2,.str [97],aI 3,.str [98],aI 4] 70,
 .cells [.str [97],.slice 2 0 1 (.exact 1),aI 5] 130,
 .cells [.int .u8 (.lit 1),aU 6,.str [97],.str [97],aI 7,aV 3 8 6,.aY,.aY,aI 9] 167,
 .vec (.aO 8) 6 57 []],[],.lit 0⟩,⟨12,[(0,.bool (.lit true))],[.cells [.int .u8 (.lit 1),.str [98],aI 0,.str [],aI 1,aU 2,.str [97],aI 3,.str [98],aI 4] 70,
 .cells [.str [97],.slice 2 0 1 (.exact 1),aI 5] 130,
 .cells [.int .u8 (.lit 1),aU 6,.str [97],.str [97],aI 7,.sN 3 (.aO 10) 6,.aY,.aY,aI 9] 167,
 .vec (.aO 11) 6 57 []],[],.lit 0⟩],[],[],10,[],[],
 []⟩
def awF:FE:=⟨12800,131,[],[],some (⟨2,[(0,.ptr 0 0),(1,aS 0),(2,aI 1)],[.cells (u8L cT0) 183 ],[],.lit 0⟩,[.cells (u8L cT0) 183],2),[⟨3,[(0,aI 2)],[.cells (u8L cT0) 183 ],[],.lit 0⟩],[],[],2,[],[],
 [([0,0,1,0,1],⟨3,[(0,.ptr 0 0),(1,aS 0),(2,aI 2)],[.cells (u8L cT0) 183 ],[],.lit 0⟩)]⟩
def awE:FE:=⟨12850,133,[],[],some (⟨2,[(0,.ptr 0 0),(1,aS 0),(2,aI 1)],[.cells (u8L cT0) 183 ],[],.lit 0⟩,[.cells (u8L cT0) 183],2),[⟨3,[(0,aI 2)],[.cells (u8L cT0) 183 ],[],.lit 0⟩],[],[],2,[],[],
 [([0,0,1,1,1,1],⟨4,[(0,.ptr 0 0),(1,aS 0),(7,aU 2),(8,aI 3)],[.cells (u8L cT0) 183 ],[],.lit 0⟩)]⟩
def awC:FE:=⟨20000,86,[],[],some (⟨1,[(0,.slice 0 0 0 (.exact 0)),(1,aI 0)],[.cells [] 3 ],[],.lit 0⟩,[.cells [] 3],1),[⟨1,[(0,.aY)],[.cells [] 3 ],[],.lit 0⟩],[],[],1,[],[],
 [([0,1,0,1,1],⟨1,[(0,.slice 0 0 0 (.exact 0)),(1,aI 0),(5,.aY),(6,aJ 0)],[.cells [] 3 ],[],.lit 0⟩)]⟩
def avZ:FE:=⟨20050,86,[],[],some (⟨2,[(0,aV 0 0 0),(1,aI 1)],[.vec (.aO 0) 0 3 []],[],.lit 0⟩,[.vec (.aO 0) 0 3 []],2),[⟨2,[(0,.aY)],[.vec (.aO 0) 0 3 []],[],.lit 0⟩,⟨3,[(0,aV 1 2 0)],[.vec (.aO 0) 0 3 [],
 .vec (.aO 2) 0 3 []],[],.lit 0⟩],[],[],2,[],[],
 [([0,1,0,1,1],⟨3,[(0,aV 0 0 0),(1,aI 1),(5,.aY),(6,aI 2)],[.vec (.aO 0) 0 3 []],[],.lit 0⟩),([0,1,0,1,1],⟨4,[(0,aV 0 0 0),(1,aI 1),(5,aV 1 2 0),(6,aI 3)],[.vec (.aO 0) 0 3 [],
  .vec (.aO 2) 0 3 []],[],.lit 0⟩)]⟩
def awD:FE:=⟨12900,120,[],[],some (⟨2,[(0,.agg [.aY,.slice 0 0 1 (.exact 1)])],[.cells [aS 0,.aY,aI 1] 130 ],[],.lit 0⟩,[.cells [aS 0,.aY,aI 1] 130],2),[⟨2,[(0,.bool (.lit false))],[.cells [aS 0,.aY,aI 1] 130 ],[],.lit 0⟩,⟨2,[(0,.bool (.lit true))],[.cells [aS 0,.aY,aI 1] 130 ],[],.lit 0⟩],[],[],2,[],[],
 []⟩
def feT:Tr FE:=(nO (nO (nS aFr (nS aFm (nS aFe (nO (nO (nO (nL awG) .nil) .nil) (nL aCy)) (nO (nL aCO) (nL aCi))) (nS aCX (nO .nil (nL aCq)) (nO (nL aCG) (nO .nil (nL awO))))) (nS aFi (nS aFa (nO .nil (nL aCu)) (nO (nL aCK) (nO .nil (nL awS)))) (nS aCT (nO (nL aoV) (nL aCm)) (nO (nL aCC) (nO .nil (nL awK)))))) (nS aFp (nS aFk (nS aFc (nO (nO (nO (nL awE) .nil) .nil) (nL aCw)) (nO (nS aCM (nO .nil (nL avZ)) .nil) (nO .nil (nL awU)))) (nS aCV (nO .nil (nL aCo)) (nO (nL aCE) (nO .nil (nL awM))))) (nS aFg (nS aCZ (nO .nil (nL aCs)) (nO (nL aCI) (nO (nL aCf) (nL awQ)))) (nO (nO (nL aCQ) (nL aCk)) (nO (nL aCA) (nO .nil (nL awI))))))) (nS aFs (nS aFq (nS aFl (nS aFd (nO (nO (nO (nL awF) .nil) .nil) (nL aCx)) (nO (nS aCN (nO .nil (nL awC)) .nil) (nS aCh .nil (nL awV)))) (nS aCW (nO .nil (nL aCp)) (nO (nL aCF) (nO (nO .nil (nL avY)) (nL awN))))) (nS aFh (nS aC0 (nO .nil (nL aCt)) (nO (nL aCJ) (nO (nL aCg) (nL awR)))) (nS aCS (nO (nL aCR) (nL aCl)) (nO (nL aCB) (nO .nil (nL awJ)))))) (nS aFo (nS aFj (nS aFb (nO (nO (nO (nL awD) .nil) .nil) (nL aCv)) (nO (nL aCL) (nO .nil (nL awT)))) (nS aCU (nO .nil (nL aCn)) (nO (nL aCD) (nO .nil (nL awL))))) (nS aFf (nS aCY (nO .nil (nL aCr)) (nO (nL aCH) (nO .nil (nL awP)))) (nO (nO (nL aCP) (nL aCj)) (nO (nL aCz) (nO .nil (nL awH))))))))
def aBK:Tr (List Nat):=(nO (nO (nS [3750] (nS [200] (nL [150]) (nS [9000,550] (nS [4300] .nil (nS [4500] (nL [4800]) .nil)) (nO (nO (nL [22000]) .nil) .nil))) (nS [3900] (nS [450] (nO (nO (nL [12800]) .nil) (nO (nL [5150,5200,5300,5350,5500,5550,5600]) .nil)) .nil) (nO (nS [650] (nL [12000,12100,12200,12300]) .nil) .nil))) (nS [3800] (nS [3850] (nO (nS [750] (nO (nL [4700]) .nil) (nO (nL [1150]) .nil)) .nil) (nO (nO .nil (nL [4600])) .nil)) (nS [400] (nS [500] (nS [4200] (nO (nL [12850]) .nil) (nS [5400] (nL [4950]) .nil)) (nO (nS [4450] (nL [4850]) .nil) (nL [1400]))) (nO (nO .nil (nL [1050])) (nO (nO (nL [1300]) .nil) .nil))))) (nO (nS [100] (nS [300] (nO (nL [700]) (nO (nS [900] (nL [5100,5250,5450]) .nil) (nL [1350]))) (nS [600] (nS [4350] .nil (nL [4550])) (nO .nil (nL [12400,12450,12500,12550,12600,12650,12700,12750,12900])))) (nS [9050,3950] (nS [4050] (nS [800] .nil (nL [950])) .nil) (nS [4150] (nS [4400] .nil (nL [12050,12150,12250,12350])) (nS [850] (nO (nL [1250]) .nil) .nil)))) (nO (nS [350] (nS [250] (nS [5000] .nil (nO (nL [1200]) .nil)) .nil) (nO (nO .nil (nL [4650])) .nil)) (nS [4000] (nS [4100] (nS [4250] (nO (nL [1100]) .nil) (nS [5050] (nL [4900]) .nil)) (nO (nS [20000,20050] (nL [4750]) .nil) (nL [1000]))) .nil))))
noncomputable def St:aiP:=⟨Tryz.prog,base,ttE,ft,VX ttE hints,Tv ttE hints,ZV,lim 441 feT,fun g=>(lim 168 aBK g).getD []⟩
noncomputable def S:Sys:=St.sys
theorem aE9:(List.range 441).all (fun k=>match feT.get k with |some f=>aoU ft k f|none=>true)=true:=by kernel_rfl
theorem aBJ:(List.range 168).all (fun g=>Xm ft (lim 441 feT) g ((aBK.get g).getD []))=true:=by kernel_rfl
theorem aBy:PI S:=by
 refine auC ajK aCc (fun I call hc=>@Hl _ I _ ajK mixed _ _ hc) ahR (fun k f hf=>?_) fun g=>?_
 ·have hf':lim 441 feT k=some f:=hf;unfold lim at hf';split at hf'
  ·simp at hf'
  ·rename_i hle
   have hlt:k<441:=by
    rcases aHw k 441 with h|h
    ·exact h
    ·rw [aI1 h] at hle; simp at hle
   have:=aHz.1 aE9 k (aH5.2 hlt);rw [hf'] at this;exact this
 ·show Xm ft (lim 441 feT) g ((lim 168 aBK g).getD [])=true;unfold lim;split
  ·rfl
  ·rename_i hle
   have hlt:g<168:=by
    rcases aHw g 168 with h|h
    ·exact h
    ·rw [aI1 h] at hle; simp at hle
   exact aHz.1 aBJ g (aH5.2 hlt)
end Go.As.Try
end
section
namespace Go.As.Try
open Go hiding Stat Spec shape
open Go.As Go.Proofs
set_option maxRecDepth 100000
noncomputable section
def b0:D:=.p (.i 0) (.p (.i 0) (.p (.i 0) (.p (.i 0) (.p (.i 0) (.p (.i 0) (.p (.i 0) (.p (.i 0) (.p (.i 0) (.p (.i 1) (.p (.i 1) (.p (.i 0) (.p (.i 0) (.p (.i 1) (.p (.i 0) (.p (.i 0) (.p (.i 0) (.p (.i 0) (.p (.i 0) (.p (.i 0) (.p (.i 0) (.p (.i 0) (.p (.i 0) (.p (.i 0) (.p (.i 0) (.p (.i 0) (.p (.i 0) (.p (.i 0) (.p (.i 0) (.p (.i 0) (.p (.i 0) (.p (.i 0) (.p (.i 1) (.p (.i 0) (.p (.i 0) (.p (.i 2) (.p (.i 0) (.p (.i 0) (.p (.i 0) (.p (.i 0) (.p (.i 5) (.p (.i 5) (.p (.i 5) (.p (.i 5) (.p (.i 0) (.p (.i 5) (.p (.i 0) (.p (.i 0) (.p (.i 3) (.p (.i 3) (.p (.i 3) (.p (.i 3) (.p (.i 3) (.p (.i 3) (.p (.i 3) (.p (.i 3) (.p (.i 3) (.p (.i 3) (.p (.i 0) (.p (.i 5) (.p (.i 5) (.p (.i 5) (.p (.i 0) (.p (.i 0) (.p (.i 0) (.p (.i 4) (.p (.i 4) (.p (.i 4) (.p (.i 4) (.p (.i 4) (.p (.i 4) (.p (.i 4) (.p (.i 4) (.p (.i 4) (.p (.i 4) (.p (.i 4) (.p (.i 4) (.p (.i 4) (.p (.i 4) (.p (.i 4) (.p (.i 4) (.p (.i 4) (.p (.i 4) (.p (.i 4) (.p (.i 4) (.p (.i 4) (.p (.i 4) (.p (.i 4) (.p (.i 4) (.p (.i 4) (.p (.i 4) (.p (.i 0) (.p (.i 0) (.p (.i 0) (.p (.i 0) (.p (.i 4) (.p (.i 0) (.p (.i 4) (.p (.i 4) (.p (.i 4) (.p (.i 4) (.p (.i 4) (.p (.i 4) (.p (.i 4) (.p (.i 4) (.p (.i 4) (.p (.i 4) (.p (.i 4) (.p (.i 4) (.p (.i 4) (.p (.i 4) (.p (.i 4) (.p (.i 4) (.p (.i 4) (.p (.i 4) (.p (.i 4) (.p (.i 4) (.p (.i 4) (.p (.i 4) (.p (.i 4) (.p (.i 4) (.p (.i 4) (.p (.i 4) (.p (.i 5) (.p (.i 0) (.p (.i 5) (.p (.i 0) (.p (.i 0) (.p (.i 0) (.p (.i 0) (.p (.i 0) (.p (.i 0) (.p (.i 0) (.p (.i 0) (.p (.i 0) (.p (.i 0) (.p (.i 0) (.p (.i 0) (.p (.i 0) (.p (.i 0) (.p (.i 0) (.p (.i 0) (.p (.i 0) (.p (.i 0) (.p (.i 0) (.p (.i 0) (.p (.i 0) (.p (.i 0) (.p (.i 0) (.p (.i 0) (.p (.i 0) (.p (.i 0) (.p (.i 0) (.p (.i 0) (.p (.i 0) (.p (.i 0) (.p (.i 0) (.p (.i 0) (.p (.i 0) (.p (.i 0) (.p (.i 0) (.p (.i 0) (.p (.i 0) (.p (.i 0) (.p (.i 0) (.p (.i 0) (.p (.i 0) (.p (.i 0) (.p (.i 0) (.p (.i 0) (.p (.i 0) (.p (.i 0) (.p (.i 0) (.p (.i 0) (.p (.i 0) (.p (.i 0) (.p (.i 0) (.p (.i 0) (.p (.i 0) (.p (.i 0) (.p (.i 0) (.p (.i 0) (.p (.i 0) (.p (.i 0) (.p (.i 0) (.p (.i 0) (.p (.i 0) (.p (.i 0) (.p (.i 0) (.p (.i 0) (.p (.i 0) (.p (.i 0) (.p (.i 0) (.p (.i 0) (.p (.i 0) (.p (.i 0) (.p (.i 0) (.p (.i 0) (.p (.i 0) (.p (.i 0) (.p (.i 0) (.p (.i 0) (.p (.i 0) (.p (.i 0) (.p (.i 0) (.p (.i 0) (.p (.i 0) (.p (.i 0) (.p (.i 0) (.p (.i 0) (.p (.i 0) (.p (.i 0) (.p (.i 0) (.p (.i 0) (.p (.i 0) (.p (.i 0) (.p (.i 0) (.p (.i 0) (.p (.i 0) (.p (.i 0) (.p (.i 0) (.p (.i 0) (.p (.i 0) (.p (.i 0) (.p (.i 0) (.p (.i 0) (.p (.i 0) (.p (.i 0) (.p (.i 0) (.p (.i 0) (.p (.i 0) (.p (.i 0) (.p (.i 0) (.p (.i 0) (.p (.i 0) (.p (.i 0) (.p (.i 0) (.p (.i 0) (.p (.i 0) (.p (.i 0) (.p (.i 0) (.p (.i 0) (.p (.i 0) (.p (.i 0) (.p (.i 0) (.p (.i 0) (.p (.i 0) (.p (.i 0) (.p (.i 0) (.p (.i 0) (.p (.i 0) (.p (.i 0) (.p (.i 0) (.p (.i 0) (.p (.i 0) (.p (.i 0) (.i 0))))))))))))))))))))))))))))))))))))))))))))))))))))))))))))))))))))))))))))))))))))))))))))))))))))))))))))))))))))))))))))))))))))))))))))))))))))))))))))))))))))))))))))))))))))))))))))))))))))))))))))))))))))))))))))))))))))))))))))))))))))))))))))))))
def b1:D:=.p (.i 32) (.p (.i 97) (.p (.i 99) (.p (.i 113) (.p (.i 117) (.p (.i 105) (.p (.i 114) (.p (.i 101) (.p (.i 32) (.p (.i 97) (.p (.i 100) (.p (.i 100) (.p (.i 32) (.p (.i 97) (.p (.i 114) (.p (.i 114) (.p (.i 105) (.p (.i 118) (.p (.i 101) (.p (.i 32) (.p (.i 98) (.p (.i 97) (.p (.i 114) (.p (.i 114) (.p (.i 105) (.p (.i 101) (.p (.i 114) (.p (.i 32) (.p (.i 98) (.p (.i 114) (.p (.i 111) (.p (.i 97) (.p (.i 100) (.p (.i 99) (.p (.i 97) (.p (.i 115) (.p (.i 116) (.p (.i 32) (.p (.i 99) (.p (.i 111) (.p (.i 110) (.p (.i 100) (.p (.i 32) (.p (.i 100) (.p (.i 111) (.p (.i 32) (.p (.i 100) (.p (.i 111) (.p (.i 110) (.p (.i 101) (.p (.i 32) (.p (.i 101) (.p (.i 108) (.p (.i 115) (.p (.i 101) (.p (.i 32) (.p (.i 105) (.p (.i 102) (.p (.i 32) (.p (.i 108) (.p (.i 111) (.p (.i 99) (.p (.i 107) (.p (.i 32) (.p (.i 108) (.p (.i 111) (.p (.i 99) (.p (.i 107) (.p (.i 102) (.p (.i 111) (.p (.i 114) (.p (.i 32) (.p (.i 108) (.p (.i 111) (.p (.i 111) (.p (.i 112) (.p (.i 32) (.p (.i 109) (.p (.i 117) (.p (.i 116) (.p (.i 101) (.p (.i 120) (.p (.i 32) (.p (.i 111) (.p (.i 110) (.p (.i 99) (.p (.i 101) (.p (.i 32) (.p (.i 112) (.p (.i 117) (.p (.i 116) (.p (.i 32) (.p (.i 113) (.p (.i 117) (.p (.i 101) (.p (.i 117) (.p (.i 101) (.p (.i 32) (.p (.i 114) (.p (.i 101) (.p (.i 97) (.p (.i 100) (.p (.i 32) (.p (.i 114) (.p (.i 101) (.p (.i 108) (.p (.i 101) (.p (.i 97) (.p (.i 115) (.p (.i 101) (.p (.i 32) (.p (.i 114) (.p (.i 108) (.p (.i 111) (.p (.i 99) (.p (.i 107) (.p (.i 32) (.p (.i 114) (.p (.i 117) (.p (.i 110) (.p (.i 108) (.p (.i 111) (.p (.i 99) (.p (.i 107) (.p (.i 32) (.p (.i 114) (.p (.i 119) (.p (.i 108) (.p (.i 111) (.p (.i 99) (.p (.i 107) (.p (.i 32) (.p (.i 115) (.p (.i 101) (.p (.i 109) (.p (.i 32) (.p (.i 115) (.p (.i 101) (.p (.i 116) (.p (.i 32) (.p (.i 115) (.p (.i 105) (.p (.i 103) (.p (.i 110) (.p (.i 97) (.p (.i 108) (.p (.i 32) (.p (.i 116) (.p (.i 97) (.p (.i 107) (.p (.i 101) (.p (.i 32) (.p (.i 116) (.p (.i 104) (.p (.i 114) (.p (.i 101) (.p (.i 97) (.p (.i 100) (.p (.i 32) (.p (.i 116) (.p (.i 114) (.p (.i 121) (.p (.i 97) (.p (.i 99) (.p (.i 113) (.p (.i 117) (.p (.i 105) (.p (.i 114) (.p (.i 101) (.p (.i 32) (.p (.i 116) (.p (.i 114) (.p (.i 121) (.p (.i 108) (.p (.i 111) (.p (.i 99) (.p (.i 107) (.p (.i 32) (.p (.i 117) (.p (.i 110) (.p (.i 108) (.p (.i 111) (.p (.i 99) (.p (.i 107) (.p (.i 32) (.p (.i 118) (.p (.i 97) (.p (.i 114) (.p (.i 32) (.p (.i 119) (.p (.i 97) (.p (.i 105) (.p (.i 116) (.p (.i 32) (.p (.i 119) (.p (.i 97) (.p (.i 105) (.p (.i 116) (.p (.i 102) (.p (.i 111) (.p (.i 114) (.p (.i 32) (.p (.i 119) (.p (.i 97) (.p (.i 105) (.p (.i 116) (.p (.i 111) (.p (.i 110) (.p (.i 32) (.p (.i 119) (.p (.i 108) (.p (.i 111) (.p (.i 99) (.p (.i 107) (.p (.i 32) (.p (.i 119) (.p (.i 114) (.p (.i 105) (.p (.i 116) (.p (.i 101) (.p (.i 32) (.p (.i 119) (.p (.i 117) (.p (.i 110) (.p (.i 108) (.p (.i 111) (.p (.i 99) (.p (.i 107) (.p (.i 32) (.i 0)))))))))))))))))))))))))))))))))))))))))))))))))))))))))))))))))))))))))))))))))))))))))))))))))))))))))))))))))))))))))))))))))))))))))))))))))))))))))))))))))))))))))))))))))))))))))))))))))))))))))))))))))))))))))))))))))))))
def b2:D:=.p (.i 97) (.p (.i 98) (.p (.i 99) (.p (.i 100) (.p (.i 101) (.p (.i 102) (.p (.i 103) (.p (.i 104) (.p (.i 105) (.p (.i 106) (.p (.i 107) (.p (.i 108) (.p (.i 109) (.p (.i 110) (.p (.i 111) (.p (.i 112) (.p (.i 113) (.p (.i 114) (.p (.i 115) (.p (.i 116) (.p (.i 117) (.p (.i 118) (.p (.i 119) (.p (.i 120) (.p (.i 121) (.p (.i 122) (.p (.i 65) (.p (.i 66) (.p (.i 67) (.p (.i 68) (.p (.i 69) (.p (.i 70) (.p (.i 71) (.p (.i 72) (.p (.i 73) (.p (.i 74) (.p (.i 75) (.p (.i 76) (.p (.i 77) (.p (.i 78) (.p (.i 79) (.p (.i 80) (.p (.i 81) (.p (.i 82) (.p (.i 83) (.p (.i 84) (.p (.i 85) (.p (.i 86) (.p (.i 87) (.p (.i 88) (.p (.i 89) (.p (.i 90) (.p (.i 95) (.i 0)))))))))))))))))))))))))))))))))))))))))))))))))))))
def b3:D:=.p (.i 97) (.p (.i 98) (.p (.i 99) (.p (.i 100) (.p (.i 101) (.p (.i 102) (.p (.i 103) (.p (.i 104) (.p (.i 105) (.p (.i 106) (.p (.i 107) (.p (.i 108) (.p (.i 109) (.p (.i 110) (.p (.i 111) (.p (.i 112) (.p (.i 113) (.p (.i 114) (.p (.i 115) (.p (.i 116) (.p (.i 117) (.p (.i 118) (.p (.i 119) (.p (.i 120) (.p (.i 121) (.p (.i 122) (.p (.i 65) (.p (.i 66) (.p (.i 67) (.p (.i 68) (.p (.i 69) (.p (.i 70) (.p (.i 71) (.p (.i 72) (.p (.i 73) (.p (.i 74) (.p (.i 75) (.p (.i 76) (.p (.i 77) (.p (.i 78) (.p (.i 79) (.p (.i 80) (.p (.i 81) (.p (.i 82) (.p (.i 83) (.p (.i 84) (.p (.i 85) (.p (.i 86) (.p (.i 87) (.p (.i 88) (.p (.i 89) (.p (.i 90) (.p (.i 95) (.p (.i 48) (.p (.i 49) (.p (.i 50) (.p (.i 51) (.p (.i 52) (.p (.i 53) (.p (.i 54) (.p (.i 55) (.p (.i 56) (.p (.i 57) (.i 0)))))))))))))))))))))))))))))))))))))))))))))))))))))))))))))))
def b4:D:=.p (.i 57) (.p (.i 50) (.p (.i 50) (.p (.i 51) (.p (.i 51) (.p (.i 55) (.p (.i 50) (.p (.i 48) (.p (.i 51) (.p (.i 54) (.p (.i 56) (.p (.i 53) (.p (.i 52) (.p (.i 55) (.p (.i 55) (.p (.i 53) (.p (.i 56) (.p (.i 48) (.p (.i 55) (.i 0)))))))))))))))))))
abbrev Qa:SE:=.lit 0
abbrev Qb:SE:=.aO 1
abbrev Qc:SE:=ln Qb
abbrev Qd:SE:=.aO 0
abbrev Qe:SE:=.op .norm Qb Qa
abbrev Qf:SE:=.dat (.i 1)
abbrev Qg:List SE:=[Qd]
abbrev Qh:SE:=.dat (.i 2)
def QL:T Lf:=sp (.lt Qa Qc) (sp (.lt Qc (.lit 1759218604441)) (ju 9001 [Qd,Qb,Qc,Qa]) fl) (sp (.eq Qe Qf) (ju 9002 Qg) (sp (.eq Qe Qh) (ju 9003 Qg) fl))
abbrev Qi:SE:=.aO 3
abbrev Qj:SB:=.eq Qi Qd
abbrev Qk:SE:=.aO 2
abbrev Ql:SB:=.lt Qi Qk
abbrev Qm:SB:=.lt Qi Qa
abbrev Qn:SB:=.lt Qi Qc
abbrev Qo:SE:=el Qb Qi
abbrev Qp:SE:=ce 4 Qo
abbrev Qq:SB:=.lt Qa (ln Qp)
abbrev Qr:SE:=.lit 17592186044416
abbrev Qs:SB:=.lt (ln Qp) Qr
abbrev Qt:SE:=ce 5 Qo
abbrev Qu:SB:=.lt Qa (ln Qt)
abbrev Qv:SB:=.lt (ln Qt) Qr
abbrev Qw:SE:=.lit 1
abbrev Qx:SE:=wr (.add Qi Qw)
abbrev Qy:SE:=el Qb Qd
abbrev Qz:SE:=nm (ce 0 Qy)
abbrev Q0:SE:=nm (ce 1 Qy)
abbrev Q1:SE:=nm (ce 2 Qy)
abbrev Q2:SE:=nm (ce 3 Qy)
abbrev Q3:SB:=.eq Qt Qf
abbrev Q4:SB:=.eq Qt Qh
abbrev Q5:SB:=.eq Qp Qf
abbrev Q6:SB:=.eq Qp Qh
abbrev Q7:T Lf:=ou [Qa,Qd,Qb]
abbrev Q8:SE:=mk Qi
abbrev Q9:SE:=.dat (.i 4)
abbrev Qba:SE:=.op .set Qb (cn Q8 (.op .set Qo (cn Q9 Qp)))
abbrev Qbb:SE:=.dat (.i 5)
abbrev Qbc:SE:=.op .set Qba (cn Q8 (.op .set (el Qba Qi) (cn Qbb Qt)))
abbrev Qbd:SE:=cn Qbb Qf
abbrev Qbe:SE:=.op .set Qba (cn Q8 (.op .set (el Qba Qi) Qbd))
abbrev Qbf:SE:=cn Qbb Qh
abbrev Qbg:SE:=.op .set Qba (cn Q8 (.op .set (el Qba Qi) Qbf))
abbrev Qbh:SE:=.op .set Qb (cn Q8 (.op .set Qo (cn Q9 Qf)))
abbrev Qbi:SE:=.op .set Qbh (cn Q8 (.op .set (el Qbh Qi) (cn Qbb Qt)))
abbrev Qbj:SE:=.op .set Qbh (cn Q8 (.op .set (el Qbh Qi) Qbd))
abbrev Qbk:SE:=.op .set Qbh (cn Q8 (.op .set (el Qbh Qi) Qbf))
abbrev Qbl:SE:=.op .set Qb (cn Q8 (.op .set Qo (cn Q9 Qh)))
abbrev Qbm:SE:=.op .set Qbl (cn Q8 (.op .set (el Qbl Qi) (cn Qbb Qt)))
abbrev Qbn:SE:=.op .set Qbl (cn Q8 (.op .set (el Qbl Qi) Qbd))
abbrev Qbo:SE:=.op .set Qbl (cn Q8 (.op .set (el Qbl Qi) Qbf))
def vW:T Lf:=sp Qj (sp Ql (sp Qm fl (sp Qn (sp Qq (sp Qs (sp Qu (sp Qv (ju 9004 [Qd,Qb,Qk,Qx,Qz,Q0,Q1,Q2,Qp,Qt]) fl) (sp Q3 (ju 9005 [Qd,Qb,Qk,Qx,Qz,Q0,Q1,Q2,Qp,Qf]) (sp Q4 (ju 9005 [Qd,Qb,Qk,Qx,Qz,Q0,Q1,Q2,Qp,Qh]) fl))) fl) (sp Q5 (sp Qu (sp Qv (ju 9006 [Qd,Qb,Qk,Qx,Qz,Q0,Q1,Q2,Qf,Qt]) fl) (sp Q3 (ju 9007 [Qd,Qb,Qk,Qx,Qz,Q0,Q1,Q2,Qf,Qf]) (sp Q4 (ju 9007 [Qd,Qb,Qk,Qx,Qz,Q0,Q1,Q2,Qf,Qh]) fl))) (sp Q6 (sp Qu (sp Qv (ju 9006 [Qd,Qb,Qk,Qx,Qz,Q0,Q1,Q2,Qh,Qt]) fl) (sp Q3 (ju 9007 [Qd,Qb,Qk,Qx,Qz,Q0,Q1,Q2,Qh,Qf]) (sp Q4 (ju 9007 [Qd,Qb,Qk,Qx,Qz,Q0,Q1,Q2,Qh,Qh]) fl))) fl))) fl)) Q7) (sp Ql (sp Qm fl (sp Qn (sp Qq (sp Qs (sp Qu (sp Qv (ju 9001 [Qd,Qbc,Qk,Qx]) fl) (sp Q3 (ju 9001 [Qd,Qbe,Qk,Qx]) (sp Q4 (ju 9001 [Qd,Qbg,Qk,Qx]) fl))) fl) (sp Q5 (sp Qu (sp Qv (ju 9001 [Qd,Qbi,Qk,Qx]) fl) (sp Q3 (ju 9001 [Qd,Qbj,Qk,Qx]) (sp Q4 (ju 9001 [Qd,Qbk,Qk,Qx]) fl))) (sp Q6 (sp Qu (sp Qv (ju 9001 [Qd,Qbm,Qk,Qx]) fl) (sp Q3 (ju 9001 [Qd,Qbn,Qk,Qx]) (sp Q4 (ju 9001 [Qd,Qbo,Qk,Qx]) fl))) fl))) fl)) Q7)
def ajS:T Lf:=sp (.eq Qa Qd) (ou [Qw,Qd]) (ou [Qw,Qd])
abbrev gW:SE:=.lit 2
def ajR:T Lf:=sp (.eq Qa Qd) (ou [gW,Qd]) (ou [gW,Qd])
abbrev Qbq:T Lf:=sp Qm fl (sp Qn fl fl)
abbrev uV:SE:=.lit 3
abbrev bJ:SE:=.aO 4
abbrev bY:SE:=.aO 5
abbrev fF:SE:=.aO 6
abbrev kJ:SE:=.aO 7
abbrev nJ:SE:=.aO 8
abbrev uQ:SE:=.aO 9
abbrev Qby:T Lf:=ou [uV,Qd,Qb,bJ,bY,fF,kJ,nJ,uQ]
abbrev Qbz:List SE:=[Qd,Qbc,Qk,Qx,bJ,bY,fF,kJ,nJ,uQ]
abbrev Qb0:List SE:=[Qd,Qbe,Qk,Qx,bJ,bY,fF,kJ,nJ,uQ]
abbrev Qb1:List SE:=[Qd,Qbg,Qk,Qx,bJ,bY,fF,kJ,nJ,uQ]
abbrev Qb2:List SE:=[Qd,Qbi,Qk,Qx,bJ,bY,fF,kJ,nJ,uQ]
abbrev Qb3:List SE:=[Qd,Qbj,Qk,Qx,bJ,bY,fF,kJ,nJ,uQ]
abbrev Qb4:List SE:=[Qd,Qbk,Qk,Qx,bJ,bY,fF,kJ,nJ,uQ]
abbrev Qb5:List SE:=[Qd,Qbm,Qk,Qx,bJ,bY,fF,kJ,nJ,uQ]
abbrev Qb6:List SE:=[Qd,Qbn,Qk,Qx,bJ,bY,fF,kJ,nJ,uQ]
abbrev Qb7:List SE:=[Qd,Qbo,Qk,Qx,bJ,bY,fF,kJ,nJ,uQ]
def acE:T Lf:=sp Qj (sp Ql Qbq Qby) (sp Ql (sp Qm fl (sp Qn (sp Qq (sp Qs (sp Qu (sp Qv (ju 9004 Qbz) fl) (sp Q3 (ju 9004 Qb0) (sp Q4 (ju 9004 Qb1) fl))) fl) (sp Q5 (sp Qu (sp Qv (ju 9004 Qb2) fl) (sp Q3 (ju 9004 Qb3) (sp Q4 (ju 9004 Qb4) fl))) (sp Q6 (sp Qu (sp Qv (ju 9004 Qb5) fl) (sp Q3 (ju 9004 Qb6) (sp Q4 (ju 9004 Qb7) fl))) fl))) fl)) Qby)
abbrev YP:SE:=.lit 4
abbrev Qb9:T Lf:=ou [YP,Qd,Qb,bJ,bY,fF,kJ,nJ,uQ]
def acD:T Lf:=sp Qj (sp Ql Qbq Qb9) (sp Ql (sp Qm fl (sp Qn (sp Qq (sp Qs (sp Qu (sp Qv (ju 9005 Qbz) fl) (sp Q3 (ju 9005 Qb0) (sp Q4 (ju 9005 Qb1) fl))) fl) (sp Q5 (sp Qu (sp Qv (ju 9005 Qb2) fl) (sp Q3 (ju 9005 Qb3) (sp Q4 (ju 9005 Qb4) fl))) (sp Q6 (sp Qu (sp Qv (ju 9005 Qb5) fl) (sp Q3 (ju 9005 Qb6) (sp Q4 (ju 9005 Qb7) fl))) fl))) fl)) Qb9)
abbrev Yz:SE:=.lit 5
abbrev Qcb:T Lf:=ou [Yz,Qd,Qb,bJ,bY,fF,kJ,nJ,uQ]
def acC:T Lf:=sp Qj (sp Ql Qbq Qcb) (sp Ql (sp Qm fl (sp Qn (sp Qq (sp Qs (sp Qu (sp Qv (ju 9006 Qbz) fl) (sp Q3 (ju 9006 Qb0) (sp Q4 (ju 9006 Qb1) fl))) fl) (sp Q5 (sp Qu (sp Qv (ju 9006 Qb2) fl) (sp Q3 (ju 9006 Qb3) (sp Q4 (ju 9006 Qb4) fl))) (sp Q6 (sp Qu (sp Qv (ju 9006 Qb5) fl) (sp Q3 (ju 9006 Qb6) (sp Q4 (ju 9006 Qb7) fl))) fl))) fl)) Qcb)
abbrev Qcc:SE:=.lit 6
abbrev Qcd:T Lf:=ou [Qcc,Qd,Qb,bJ,bY,fF,kJ,nJ,uQ]
def acB:T Lf:=sp Qj (sp Ql Qbq Qcd) (sp Ql (sp Qm fl (sp Qn (sp Qq (sp Qs (sp Qu (sp Qv (ju 9007 Qbz) fl) (sp Q3 (ju 9007 Qb0) (sp Q4 (ju 9007 Qb1) fl))) fl) (sp Q5 (sp Qu (sp Qv (ju 9007 Qb2) fl) (sp Q3 (ju 9007 Qb3) (sp Q4 (ju 9007 Qb4) fl))) (sp Q6 (sp Qu (sp Qv (ju 9007 Qb5) fl) (sp Q3 (ju 9007 Qb6) (sp Q4 (ju 9007 Qb7) fl))) fl))) fl)) Qcd)
abbrev LW:List SE:=[Qd,Qb]
def acA:T Lf:=ju 9051 LW
abbrev Qcf:SE:=el Qb Qa
abbrev Qcg:SE:=ce 4 Qcf
abbrev Qch:SE:=ce 5 Qcf
abbrev Qci:SB:=.eq (ln Qch) Qa
abbrev kG:SE:=.dat (.i 0)
abbrev Qck:SE:=cn kG (cn kG (cn Qf (cn Qf kG)))
abbrev Qcl:SE:=.op .snoc kG (cn kG (cn kG Qck))
abbrev Qcm:SE:=nm (ce 0 Qcf)
abbrev Qcn:SE:=nm (ce 1 Qcf)
abbrev Qco:SE:=nm (ce 2 Qcf)
abbrev Qcp:SE:=nm (ce 3 Qcf)
abbrev Qcq:SB:=.lt (ln Qch) Qr
abbrev Qcr:SE:=.op .bit (mk Qco) Qa
abbrev Qcs:SE:=cn Qh kG
abbrev Qct:SE:=cn Qh Qcs
def QK:T Lf:=sp (.eq Qa Qd) (sp (.lt Qa Qc) (sp (.eq (ln Qcg) Qa) (sp Qci (ju 9052 [Qd,Qb,Qcl,Qw,Qcm,Qcn,Qco,Qcp]) (sp Qcq (ju 9053 [Qd,Qb,Qcl,Qw,Qcm,Qcn,Qco,Qcp,Qch]) fl)) (sp (.lt (ln Qcg) Qr) (sp Qci (ju 9054 [Qd,Qb,Qcl,Qw,Qcm,Qcn,Qco,Qcp,Qcg]) (sp Qcq (ju 9055 [Qd,Qb,Qcl,Qw,Qcm,Qcn,Qco,Qcp,Qcg,Qch]) fl)) fl)) (ou [Qa,Qd])) (sp (.lt Qa Qc) (sp (.eq (ln Qcg) Qa) (sp Qci (ju 9056 [Qd,Qb,.op .snoc kG (cn (mk Qcm) (cn (mk Qcn) (cn Qcr (cn (mk Qcp) Qct)))),Qw]) (sp Qcq (ju 9056 [Qd,Qb,.op .snoc kG (cn (mk Qcm) (cn (mk Qcn) (cn Qcr (cn (mk Qcp) (cn Qh (cn Qch kG)))))),Qw]) fl)) (sp (.lt (ln Qcg) Qr) (sp Qci (ju 9056 [Qd,Qb,.op .snoc kG (cn (mk Qcm) (cn (mk Qcn) (cn Qcr (cn (mk Qcp) (cn Qcg Qcs))))),Qw]) (sp Qcq (ju 9056 [Qd,Qb,.op .snoc kG (cn (mk Qcm) (cn (mk Qcn) (cn Qcr (cn (mk Qcp) (cn Qcg (cn Qch kG)))))),Qw]) fl)) fl)) (ou [Qa,Qd]))
abbrev Qcu:SB:=.eq (ln Qp) Qa
abbrev Qcv:SB:=.eq (ln Qt) Qa
abbrev Qcw:SE:=ln Qk
abbrev Qcx:SE:=.lit 1759218604440
abbrev LV:SB:=.lt Qcw Qcx
abbrev Yy:SB:=.lt Qd Qcw
abbrev Qc0:SE:=nm (ce 0 Qo)
abbrev Qc1:SE:=nm (ce 1 Qo)
abbrev Qc2:SE:=nm (ce 2 Qo)
abbrev Qc3:SE:=.op .bit (mk Qc2) Qa
abbrev Qc4:SE:=nm (ce 3 Qo)
abbrev Qc5:SE:=.op .snoc Qk (cn (mk Qc0) (cn (mk Qc1) (cn Qc3 (cn (mk Qc4) Qct))))
abbrev Qc6:SE:=.op .snoc Qk (cn (mk Qc0) (cn (mk Qc1) (cn Qc3 (cn (mk Qc4) (cn Qh (cn Qt kG))))))
abbrev Qc7:SE:=.op .snoc Qk (cn (mk Qc0) (cn (mk Qc1) (cn Qc3 (cn (mk Qc4) (cn Qp Qcs)))))
abbrev Qc8:SE:=.op .snoc Qk (cn (mk Qc0) (cn (mk Qc1) (cn Qc3 (cn (mk Qc4) (cn Qp (cn Qt kG))))))
abbrev Qc9:T Lf:=sp Qn (sp Qm fl (sp Qcu (sp Qcv (sp LV (sp Yy (ju 9052 [Qd,Qb,Qc5,Qx,bJ,bY,fF,kJ]) fl) fl) (sp Qv (sp LV (sp Yy (ju 9052 [Qd,Qb,Qc6,Qx,bJ,bY,fF,kJ]) fl) fl) fl)) (sp Qs (sp Qcv (sp LV (sp Yy (ju 9052 [Qd,Qb,Qc7,Qx,bJ,bY,fF,kJ]) fl) fl) (sp Qv (sp LV (sp Yy (ju 9052 [Qd,Qb,Qc8,Qx,bJ,bY,fF,kJ]) fl) fl) fl)) fl))) (ou [Qw,Qd,Qk,bJ,bY,fF,kJ])
def abZ:T Lf:=sp Qj Qc9 Qc9
abbrev Qda:List SE:=[Qd,Qb,Qc5,Qx,bJ,bY,fF,kJ,nJ]
abbrev Qdb:List SE:=[Qd,Qb,Qc6,Qx,bJ,bY,fF,kJ,nJ]
abbrev Qdc:List SE:=[Qd,Qb,Qc7,Qx,bJ,bY,fF,kJ,nJ]
abbrev Qdd:List SE:=[Qd,Qb,Qc8,Qx,bJ,bY,fF,kJ,nJ]
abbrev Qde:T Lf:=sp Qn (sp Qm fl (sp Qcu (sp Qcv (sp LV (sp Yy (ju 9053 Qda) fl) fl) (sp Qv (sp LV (sp Yy (ju 9053 Qdb) fl) fl) fl)) (sp Qs (sp Qcv (sp LV (sp Yy (ju 9053 Qdc) fl) fl) (sp Qv (sp LV (sp Yy (ju 9053 Qdd) fl) fl) fl)) fl))) (ou [gW,Qd,Qk,bJ,bY,fF,kJ,nJ])
def abY:T Lf:=sp Qj Qde Qde
abbrev Qdf:T Lf:=sp Qn (sp Qm fl (sp Qcu (sp Qcv (sp LV (sp Yy (ju 9054 Qda) fl) fl) (sp Qv (sp LV (sp Yy (ju 9054 Qdb) fl) fl) fl)) (sp Qs (sp Qcv (sp LV (sp Yy (ju 9054 Qdc) fl) fl) (sp Qv (sp LV (sp Yy (ju 9054 Qdd) fl) fl) fl)) fl))) (ou [uV,Qd,Qk,bJ,bY,fF,kJ,nJ])
def abX:T Lf:=sp Qj Qdf Qdf
abbrev Qdg:T Lf:=sp Qn (sp Qm fl (sp Qcu (sp Qcv (sp LV (sp Yy (ju 9055 [Qd,Qb,Qc5,Qx,bJ,bY,fF,kJ,nJ,uQ]) fl) fl) (sp Qv (sp LV (sp Yy (ju 9055 [Qd,Qb,Qc6,Qx,bJ,bY,fF,kJ,nJ,uQ]) fl) fl) fl)) (sp Qs (sp Qcv (sp LV (sp Yy (ju 9055 [Qd,Qb,Qc7,Qx,bJ,bY,fF,kJ,nJ,uQ]) fl) fl) (sp Qv (sp LV (sp Yy (ju 9055 [Qd,Qb,Qc8,Qx,bJ,bY,fF,kJ,nJ,uQ]) fl) fl) fl)) fl))) (ou [YP,Qd,Qk,bJ,bY,fF,kJ,nJ,uQ])
def abW:T Lf:=sp Qj Qdg Qdg
abbrev Qdh:SB:=.eq Qcw Qd
abbrev Qdi:SE:=.op .snoc Qk (cn kG (cn kG Qck))
abbrev Qdj:T Lf:=sp LV (ju 9056 [Qd,Qb,Qc5,Qx]) fl
abbrev Qdk:T Lf:=sp LV (ju 9056 [Qd,Qb,Qc6,Qx]) fl
abbrev Qdl:T Lf:=sp LV (ju 9056 [Qd,Qb,Qc7,Qx]) fl
abbrev Qdm:T Lf:=sp LV (ju 9056 [Qd,Qb,Qc8,Qx]) fl
def QJ:T Lf:=sp Qj (sp Qn (sp Qm fl (sp Qcu (sp Qcv (sp Qdh (sp LV (ju 9052 [Qd,Qb,Qdi,Qx,Qc0,Qc1,Qc2,Qc4]) fl) Qdj) (sp Qv (sp Qdh (sp LV (ju 9053 [Qd,Qb,Qdi,Qx,Qc0,Qc1,Qc2,Qc4,Qt]) fl) Qdk) fl)) (sp Qs (sp Qcv (sp Qdh (sp LV (ju 9054 [Qd,Qb,Qdi,Qx,Qc0,Qc1,Qc2,Qc4,Qp]) fl) Qdl) (sp Qv (sp Qdh (sp LV (ju 9055 [Qd,Qb,Qdi,Qx,Qc0,Qc1,Qc2,Qc4,Qp,Qt]) fl) Qdm) fl)) fl))) (ou [Yz,Qd,Qk])) (sp Qn (sp Qm fl (sp Qcu (sp Qcv Qdj (sp Qv Qdk fl)) (sp Qs (sp Qcv Qdl (sp Qv Qdm fl)) fl))) (ou [Yz,Qd,Qk]))
abbrev qC:SE:=ln Qd
def aDS:T Lf:=ju 101 [wr (.add qC Qc),Qc,Qa,Qd,Qb]
abbrev YO:SB:=.lt Qk Qb
abbrev FT:SB:=.lt Qk Qa
abbrev Qdq:SE:=ln bJ
abbrev gV:T Lf:=ou [Qw]
abbrev bQ:T Lf:=ou [Qa]
def aDR:T Lf:=sp YO (sp FT fl (sp (.lt Qk Qdq) (ju 102 [wr (.add Qd (wr (.add (ln (ce 1 (el bJ Qk))) (ln (ce 2 (el bJ Qk)))))),Qk,Qa,Qb,Qi,bJ]) fl)) (sp (.lt (.lit 6000) Qd) gV bQ)
abbrev QA:SB:=.lt Qb Qa
abbrev Qdu:SE:=el bY Qb
abbrev Wx:SE:=wr (.add Qb Qw)
abbrev Qdw:T Lf:=ju 101 [Qd,Qi,Wx,bJ,bY]
abbrev Qdx:SE:=ce 6 (el (ce 2 Qdu) Qk)
def aDQ:T Lf:=sp QA fl (sp (.lt Qb (ln bY)) (sp (.lt Qk (ln (ce 2 Qdu))) (sp (.lt (.lit 6000) Qd) Qdw (sp FT fl (ju 103 [Qd,Qb,Qk,Qi,Qdx,ln Qdx,Qa,bJ,bY]))) Qdw) fl)
abbrev Qdy:SE:=el bJ fF
abbrev Qdz:List SE:=[nm (ce 0 Qdy),ce 1 Qdy,nm (ce 2 Qdy),ce 3 Qdy,.lit 60]
abbrev Dn:SE:=wr (.add Qk Qw)
def aDP:T Lf:=sp (.lt fF bY) (sp (.lt fF Qa) fl (sp (.lt fF Qdq) (sp (.eq (a0 150 Qdz) Qw) (ju 103 [wr (.add Qd (rr 150 Qdz 0)),Qb,Qk,Qi,bJ,bY,wr (.add fF Qw),kJ,nJ]) fl) fl)) (ju 102 [Qd,Qb,Dn,Qi,kJ,nJ])
abbrev Qd1:SB:=.lt bJ Qw
def aDO:T Lf:=sp Qd1 (ou [.lit 10000]) (ju 151 [bJ,wr (.add Qw (wr (.quo Qc (.lit 100)))),Qa,Qd,Qb,Qk,Qi])
abbrev Qd2:T Lf:=ou [Qb]
abbrev Qd3:SE:=el fF Qk
abbrev Qd4:List SE:=[nm (ce 0 Qd3),ce 1 Qd3,nm (ce 2 Qd3),ce 3 Qd3,wr (.sub Qd Qw)]
def aDN:T Lf:=sp (.lt Qk (ln fF)) (sp (.lt (.lit 10000) Qb) Qd2 (sp FT fl (sp (.eq (a0 150 Qd4) Qw) (ju 151 [Qd,wr (.add Qb (rr 150 Qd4 0)),Dn,Qi,bJ,bY,fF]) fl))) Qd2
def auB:T Lf:=sp (.eq qC Qc) (ju 201 [Qd,Qb,qC,Qa]) bQ
abbrev Qd5:SB:=.lt Qi qC
abbrev Qd6:SE:=el Qd Qi
abbrev Qd7:SB:=.not (.eq (nm (ce 2 Qd6)) Qa)
abbrev Qd8:SE:=ln (ce 5 Qd6)
def t201:T Lf:=sp Ql (sp Qm fl (sp Qd5 (sp Qn (sp (.eq (nm (ce 0 Qd6)) Qc0) (sp (.eq (nm (ce 1 Qd6)) Qc1) (sp (.and (.not (.and Qd7 (.not (.eq Qc2 Qa)))) (.not (.and (.not Qd7) (.not (.not (.eq Qc2 Qa)))))) bQ (sp (.eq (nm (ce 3 Qd6)) Qc4) (sp (.eq (a0 250 [ce 4 Qd6,Qp]) Qw) (sp (.eq (rr 250 [ce 4 Qd6,Qp] 0) Qa) bQ (sp (.eq Qd8 (ln Qt)) (ju 202 [Qd,Qb,Qk,Qi,Qd8,Qa,nm (ce 0 Qd6),nm (ce 1 Qd6),nm (ce 2 Qd6),nm (ce 3 Qd6),ce 4 Qd6,ce 5 Qd6,Qc0,Qc1,Qc2,Qc4,Qp,Qt]) bQ)) fl) bQ)) bQ) bQ) fl) fl)) gV
abbrev Wq:SB:=.lt bY Qa
abbrev FN:SE:=.aO 11
abbrev Ky:SE:=.aO 10
abbrev Yw:SE:=.aO 12
abbrev Qed:SE:=.aO 13
abbrev PL:SE:=.aO 14
abbrev Qef:SE:=.aO 15
abbrev Qeg:List SE:=[Qd,Qb,Qk,Qx]
def alF:T Lf:=sp (.lt bY bJ) (sp Wq fl (sp (.lt bY (ln FN)) (sp (.lt bY (ln (.aO 17))) (sp (.eq (nm (el FN bY)) (nm (el (.aO 17) bY))) (ju 202 [Qd,Qb,Qk,Qi,bJ,wr (.add bY Qw),fF,kJ,nJ,uQ,Ky,FN,Yw,Qed,PL,Qef,.aO 16,.aO 17]) bQ) fl) fl)) (ju 201 Qeg)
abbrev Qeh:List SE:=[Qd,Qb,Qa]
def auA:T Lf:=sp (.eq qC Qc) (ju 251 Qeh) bQ
abbrev Wv:SB:=.lt Qk qC
abbrev Qej:SE:=el Qd Qk
abbrev Qek:SE:=nm Qej
abbrev Qel:List SE:=[Qd,Qb,Dn]
def alE:T Lf:=sp Wv (sp FT fl (sp (.lt Qk Qc) (sp (.eq Qek (nm (el Qb Qk))) (ju 251 Qel) bQ) fl)) gV
abbrev Qem:T Lf:=ou [Qf]
def alD:T Lf:=sp (.eq (a0 450 LW) Qw) (sp (.eq (rr 450 LW 0) Qa) (ju 301 [Qd,qC]) Qem) fl
abbrev Qen:SB:=.lt Qa qC
abbrev Yv:SE:=el Qd Qa
abbrev Qep:SE:=nm (ce 0 Yv)
abbrev Kw:SE:=.dat (.i (-1))
abbrev Qer:SE:=.op .snoc kG (cn Kw (cn (mk (nm (ce 2 Yv))) Qck))
abbrev Qes:T Lf:=ju 302 [Qer,Qd,Qb,Qw]
abbrev Qet:SE:=.lit 9
abbrev Qeu:SE:=.op .snoc kG (cn Kw (cn kG Qck))
def YZ:T Lf:=sp (.lt Qa Qb) (sp Qen (sp (.eq Qep uV) Qes (sp (.eq Qep Qet) Qes (ju 302 [Qeu,Qd,Qb,Qw]))) fl) Qem
abbrev Qev:SB:=.lt qC Qcx
abbrev Qew:T Lf:=sp Qev (ju 302 [.op .snoc Qd (cn Kw (cn (mk Qc2) Qck)),Qb,Qk,Qx]) fl
abbrev Qex:SE:=.op .snoc Qd (cn Kw (cn kG Qck))
def atZ:T Lf:=sp Ql (sp Qm fl (sp Qn (sp (.eq Qc0 uV) Qew (sp (.eq Qc0 Qet) Qew (sp Qev (ju 302 [Qex,Qb,Qk,Qx]) fl))) fl)) (ou Qg)
def alC:T Lf:=sp (.eq (a0 450 LW) Qw) (sp (.eq (rr 450 LW 0) Qa) (sp (.eq Qcw qC) (ju 351 [Qk,Qcw,Qa,Qd,Qb]) bQ) bQ) fl
abbrev Qey:SE:=ln Qi
abbrev Qez:SE:=nm (ce 2 Qej)
abbrev Qe0:SE:=el Qi Qk
abbrev Qe1:SE:=nm (ce 0 Qej)
abbrev Qe2:SE:=ce 1 Qej
abbrev Qe3:SE:=ce 3 Qej
abbrev Qe4:SE:=ce 4 Qej
abbrev Yx:SE:=ce 5 Qej
abbrev Qe6:List SE:=[nm (ce 0 Qe0),ce 1 Qe0,nm (ce 2 Qe0),ce 3 Qe0,nm (ce 4 Qe0),Qe1,nm Qe2,Qa,nm Qe3,Qe4,Yx,Qdq]
abbrev Qe7:T Lf:=ju 351 [Qd,Qb,Dn,Qi,bJ]
abbrev Qe8:List SE:=[nm (ce 0 Qe0),ce 1 Qe0,nm (ce 2 Qe0),ce 3 Qe0,nm (ce 4 Qe0),Qe1,nm Qe2,Qw,nm Qe3,Qe4,Yx,Qdq]
def YX:T Lf:=sp YO (sp FT fl (sp Wv (sp (.lt Qk Qey) (sp (.eq Qez Qa) (sp (.eq (a0 500 Qe6) Qw) (sp (.eq (rr 500 Qe6 0) Qa) bQ Qe7) fl) (sp (.eq (a0 500 Qe8) Qw) (sp (.eq (rr 500 Qe8 0) Qa) bQ Qe7) fl)) fl) fl)) gV
abbrev Wp:List SE:=[bY,Qk]
abbrev Qfa:SE:=rr 9000 Wp 0
abbrev Qfb:List SE:=[Qd,Qb,Qk]
abbrev Qfc:SB:=.eq (a0 350 Qfb) Qw
abbrev Qfd:SB:=.eq (rr 350 Qfb 0) Qa
abbrev FQ:SE:=rr 9000 Wp 2
abbrev Qff:T Lf:=ou [FQ,Qa,Qa,Qa,Qa,Qa,Qa]
abbrev Qfg:T Lf:=sp Qfc (sp Qfd Qff (sp Qm Qff (sp Qn Qff Qff))) fl
abbrev Qfh:SB:=.lt bY (ln FQ)
abbrev Qfi:T Lf:=ou [Qf,Qa,Qa,Qa,Qa,Qa,Qa]
abbrev Qfj:T Lf:=ou [Qh,Qa,Qa,Qa,Qa,Qa,Qa]
abbrev lD:SE:=mk bY
abbrev Qfl:SE:=rr 9000 Wp 3
abbrev Wu:SE:=mk Qfl
abbrev Yu:SE:=rr 9000 Wp 4
abbrev YN:SE:=mk Yu
abbrev Qfp:SE:=rr 9000 Wp 5
abbrev Qfq:SE:=.op .bit (mk Qfp) Qa
abbrev Qfr:SE:=rr 9000 Wp 6
abbrev Qfs:SE:=mk Qfr
abbrev Wn:SE:=rr 9000 Wp 7
abbrev Qfu:SE:=rr 9000 Wp 8
abbrev Qfv:SE:=cn Qfu kG
abbrev Qfw:SE:=cn Qfq (cn Qfs (cn Wn Qfv))
abbrev Qfx:SE:=cn lD (cn Wu (cn YN Qfw))
abbrev Qfy:SE:=.op .set FQ Qfx
abbrev LU:T Lf:=ou [Qfy,Qa,Qa,Qa,Qa,Qa,Qa]
abbrev Qf0:SB:=.eq (a0 600 [bJ]) Qw
abbrev Qf1:SB:=.lt bY qC
abbrev Qf2:SB:=.eq (rr 600 [bJ] 0) (nm (ce 0 (el Qd bY)))
abbrev Qf3:SB:=.eq bJ Qw
abbrev Qf4:SB:=.eq Qfl Qi
abbrev Qf5:SE:=.lit 27
abbrev Kv:T Lf:=sp (.eq (a0 550 [Qk]) Qw) (ou [rr 550 [Qk] 0,Qi,Qf5,bY,wr bJ,Qa,gW]) fl
abbrev Qf7:SB:=.eq (a0 900 [Wn,Qi]) Qw
abbrev Qf8:SB:=.eq (rr 900 [Wn,Qi] 0) Qa
abbrev Qf9:SB:=.lt Qfl Qa
abbrev Qga:SE:=.op .set FQ (cn lD (cn Q8 (cn YN Qfw)))
abbrev YL:T Lf:=sp (.eq (a0 550 [Qk]) Qw) (ou [rr 550 [Qk] 0,Qa,Qa,Qa,Qa,Qa,Qa]) fl
abbrev Qgc:T Lf:=sp Qf9 (ou [Qga,Qi,bJ,bY,Qa,Qa,gW]) YL
abbrev Qgd:T Lf:=sp Qf4 Kv (sp Qf7 (sp Qf8 Qgc Kv) fl)
abbrev Qge:SB:=.eq bJ gW
abbrev Qgf:T Lf:=sp Qf4 (ou [.op .set FQ (cn lD (cn Kw (cn YN Qfw))),Qi,bJ,bY,Qa,Qa,gW]) Kv
abbrev Qgg:SE:=.lit 8
abbrev Qgh:SB:=.eq bJ Qgg
abbrev Qgi:SB:=.eq bJ uV
abbrev Qgj:T Lf:=ou [Qga,Qi,bJ,bY,Qw,Qa,gW]
abbrev Qgk:T Lf:=ou [Qfy,Qi,bJ,bY,Qa,Qa,gW]
abbrev Qgl:T Lf:=sp Qf9 Qgj Qgk
abbrev Qgm:SB:=.eq bJ YP
abbrev Qgn:SB:=.lt kJ fF
abbrev Qgo:T Lf:=sp Qf9 Qgj (sp Qgn YL Qgk)
abbrev Qgp:SB:=.eq bJ Yz
abbrev P9:SE:=ln Wn
abbrev Qgr:SE:=.lit 17592186044415
abbrev Qgs:SE:=cn YN (cn Qfq (cn Qfs (cn (.op .snoc Wn Q8) Qfv)))
abbrev Qgt:T Lf:=sp Qf4 Kv (sp Qf7 (sp Qf8 (sp Qf9 (sp (.lt P9 Qgr) (ou [.op .set FQ (cn lD (cn Wu Qgs)),Qi,bJ,bY,Qa,Qa,gW]) fl) YL) Kv) fl)
abbrev Qgu:SB:=.eq bJ Qcc
abbrev Qgv:SB:=.eq (a0 850 [Wn,Qi]) Qw
abbrev Qgw:SE:=rr 850 [Wn,Qi] 0
abbrev Qgx:SE:=wr (.add Qgw Qw)
abbrev Qgy:SE:=.sub P9 Qgx
abbrev Qgz:SE:=.add Qgw Qgy
abbrev Qg0:SE:=.op .cat (.op .cat (.op .take Wn Qgw) (.op .drop (.op .take Wn (.add Qgx Qgy)) Qgx)) (.op .drop Wn Qgz)
abbrev Qg1:SE:=.op .fill Qg0 (cn (mk Qgz) kG)
abbrev Qg2:T Lf:=sp (.lt (.sub P9 Qgz) Qa) fl (sp (.eq (.add Qgz (.sub P9 Qgz)) (ln Qg0)) (sp (.lt (ln Qg1) Qgz) fl (ou [.op .set FQ (cn lD (cn Wu (cn YN (cn Qfq (cn Qfs (cn (.op .take Qg1 Qgz) Qfv)))))),Qi,bJ,bY,Qa,Qa,gW])) fl)
abbrev Qg3:T Lf:=sp Qgv (sp (.lt Qgw Qa) Kv (sp (.lt Qgx Qgw) fl (sp (.lt P9 Qgx) fl (sp (.lt P9 P9) fl (sp (.eq Qgw Qgx) Qgk (sp (.lt P9 Qgw) fl (sp (.lt Qgx Qa) fl (sp (.lt Qgy Qa) fl (sp (.lt P9 (.add Qgx Qgy)) fl (sp (.lt P9 Qgz) fl (sp (.lt Qgz Qa) fl (sp (.lt Qgz P9) (sp (.lt (ln Qg0) P9) fl Qg2) Qg2)))))))))))) fl
abbrev Qg4:SE:=.lit 7
abbrev Qg5:SB:=.eq bJ Qg4
abbrev Qg6:T Lf:=sp Qf4 Kv (sp Qf7 (sp Qf8 (sp (.eq P9 Qa) Qgc YL) Kv) fl)
abbrev Qg7:SB:=.eq bJ Qet
abbrev Qg8:SE:=.op .set FQ (cn lD (cn Wu (cn (mk (wr (.sub Yu Qw))) Qfw)))
abbrev Qg9:T Lf:=sp (.lt Qa Yu) (ou [Qg8,Qi,bJ,bY,Qa,Qa,gW]) YL
abbrev Qha:SB:=.eq bJ (.lit 11)
abbrev Qhb:T Lf:=sp (.lt Qa Yu) (ou [Qg8,Qi,bJ,bY,Qw,Qa,gW]) Qgk
abbrev Qhc:SE:=.lit 10
abbrev Qhd:SB:=.eq bJ Qhc
abbrev Ku:SE:=nm (ce 2 (el Qd bY))
abbrev Qhf:SE:=.op .set FQ (cn lD (cn Wu (cn (mk (wr (.add Yu Qw))) Qfw)))
abbrev Qhg:T Lf:=sp (.lt Yu Ku) (ou [Qhf,Qi,bJ,bY,Qa,Qa,gW]) Kv
abbrev Qhh:SB:=.eq bJ (.lit 17)
abbrev Qhi:SE:=.lit 1099511627776
abbrev Qhj:T Lf:=sp (.lt fF (wr (.sub Qa Yu))) Kv (sp (.lt (wr (.sub Qhi Yu)) fF) Kv (ou [.op .set FQ (cn lD (cn Wu (cn (mk (wr (.add Yu fF))) Qfw))),Qi,bJ,bY,wr (.add Yu fF),Qa,gW]))
abbrev Qhk:SB:=.eq bJ (.lit 18)
abbrev Qhl:T Lf:=sp (.lt Qa Yu) (ou [Qg8,Qi,bJ,bY,wr (.sub Yu Qw),Qa,gW]) Kv
abbrev Qhm:SE:=.lit 19
abbrev Qhn:SB:=.eq bJ Qhm
abbrev Qho:T Lf:=sp (.eq Yu Qa) Qgk YL
abbrev Qhp:SB:=.eq bJ (.lit 22)
abbrev Qhq:T Lf:=ou [Qfy,Qi,bJ,bY,Yu,Qa,gW]
abbrev Qhr:SE:=.lit 23
abbrev Qhs:SB:=.eq bJ Qhr
abbrev Qht:SE:=mk fF
abbrev Qhu:T Lf:=ou [.op .set FQ (cn lD (cn Wu (cn Qht Qfw))),Qi,bJ,bY,fF,Qa,gW]
abbrev TS:SE:=.lit 20
abbrev Qhw:SB:=.eq bJ TS
abbrev Qhx:T Lf:=sp (.lt (ln Qfu) Ku) (sp (.lt (ln Qfu) Qgr) (ou [.op .set FQ (cn lD (cn Wu (cn YN (cn Qfq (cn Qfs (cn Wn (cn (.op .snoc Qfu Qht) kG))))))),Qi,bJ,bY,fF,Qa,gW]) fl) YL
abbrev Qhy:SB:=.eq bJ (.lit 21)
abbrev Qhz:SE:=.add Qw (.sub (ln Qfu) Qw)
abbrev Qh0:T Lf:=sp (.eq (ln Qfu) Qa) YL (sp (.lt (.sub (ln Qfu) Qw) Qa) fl (sp (.lt (ln Qfu) Qhz) fl (ou [.op .set FQ (cn lD (cn Wu (cn YN (cn Qfq (cn Qfs (cn Wn (cn (.op .drop (.op .take Qfu Qhz) Qw) kG))))))),Qi,bJ,bY,nm (el Qfu Qa),Qa,gW])))
abbrev Qh1:SB:=.eq bJ (.lit 12)
abbrev Qh2:SB:=.lt Ku Qa
abbrev Qh3:SB:=.lt Ku (ln FQ)
abbrev Qh4:SB:=.eq Ku bY
abbrev Qh5:SE:=.lit (-1)
abbrev Qh6:List SE:=[Wn,Qi,bY,Ku,FQ,bJ,fF,kJ,Qh5,Yu,Qfp,Qfr,Qfu]
abbrev Qh7:T Lf:=sp (.lt P9 Qgr) (ou [.op .set FQ (cn lD (cn Kw Qgs)),Qi,bJ,bY,Qa,Qa,uV]) fl
abbrev Qh8:SE:=rr 12000 Qh6 14
abbrev Qh9:SE:=rr 12000 Qh6 15
abbrev Qia:SE:=.add Qh8 Qw
abbrev Qib:SE:=.op .snoc kG Q8
abbrev Qic:SE:=.op .cat (.op .cat (.op .take Qh9 Qh8) Qib) (.op .drop Qh9 Qia)
abbrev Qid:SE:=nm (ce 0 (el FQ Ku))
abbrev Qie:SB:=.eq Qid Qi
abbrev Qif:SE:=.op .set FQ (cn (mk Ku) (.op .set (el FQ Ku) (cn kG Kw)))
abbrev Qig:List SE:=[Wn,Qi,bY,Ku,Qif,bJ,fF,kJ,Qfl,Yu,Qfp,Qfr,Qfu]
abbrev Qih:T Lf:=sp (.lt P9 Qgr) (ou [.op .set Qif (cn lD (cn Wu Qgs)),Qi,bJ,bY,Qa,Qa,uV]) fl
abbrev Qii:SE:=rr 12000 Qig 14
abbrev Qij:SE:=rr 12000 Qig 15
abbrev Qik:SE:=.add Qii Qw
abbrev Qil:SE:=.op .cat (.op .cat (.op .take Qij Qii) Qib) (.op .drop Qij Qik)
abbrev Qim:SB:=.eq bJ (.lit 13)
abbrev Qin:SB:=.eq bJ (.lit 14)
abbrev Qio:SE:=.op .set FQ (cn lD (cn Wu (cn YN (cn Qfq (cn Qfs (cn Qf Qfv))))))
abbrev Qip:SB:=.eq bJ (.lit 24)
abbrev Qiq:SB:=.eq bJ (.lit 15)
abbrev Qir:SE:=.lit 4611686018427387904
abbrev Qis:SB:=.eq bJ (.lit 25)
abbrev Qit:SE:=.lit 16
abbrev Qiu:SB:=.eq bJ Qit
abbrev Qiv:SB:=.eq bJ (.lit 26)
abbrev Qiw:T Lf:=sp Qip (sp Qh2 fl (sp Qh3 (sp Qf7 (sp Qf8 (sp Qh4 Qgc (sp (.lt Qid Qa) (ou [.op .set (.op .set FQ (cn (mk Ku) (.op .set (el FQ Ku) (cn kG Q8)))) Qfx,Qi,bJ,bY,Qa,Qa,gW]) YL)) YL) fl) fl)) (sp Qiq (sp (.lt Qfr Qir) (sp (.eq (wr (.add Yu Qw)) Ku) (ou [.op .set FQ (cn lD (cn Wu (cn kG (cn Qfq (cn (mk (wr (.add Qfr Qw))) (cn Wn Qfv)))))),Qi,bJ,bY,Qfr,Qa,uV]) (ou [Qhf,Qi,bJ,bY,Qfr,Qa,uV])) Kv) (sp Qis (sp (.lt fF Qfr) (ou [Qfy,Qi,bJ,bY,fF,Qa,gW]) YL) (sp Qiu (sp (.eq Qfp Qa) (sp Qf4 Kv (sp Qf9 Qgj YL)) Qgk) (sp Qiv (sp Qf4 (ou [.op .set FQ (cn lD (cn Kw (cn YN (cn Qf (cn Qfs (cn Wn Qfv)))))),Qi,bJ,bY,Qa,Qa,gW]) Kv) fl))))
abbrev Qix:T Lf:=sp Qim (sp (.eq P9 Qa) Qgk (sp (.lt (.sub P9 Qw) Qa) fl (sp (.lt P9 (.add Qw (.sub P9 Qw))) fl (ou [.op .set FQ (cn lD (cn Wu (cn YN (cn Qfq (cn Qfs (cn (.op .drop (.op .take Wn (.add Qw (.sub P9 Qw))) Qw) Qfv)))))),Qi,bJ,bY,wr (.add (nm (el Wn Qa)) Qw),Qa,gW])))) (sp Qin (ou [Qio,Qi,bJ,bY,P9,Qa,gW]) Qiw)
abbrev Qiy:SE:=cn (.op .snoc kG Qht) kG
abbrev Qiz:T Lf:=sp (.lt Qa Ku) (ou [.op .set FQ (cn lD (cn Wu (cn YN (cn Qfq (cn Qfs (cn Wn Qiy)))))),Qi,bJ,bY,fF,Qa,gW]) YL
abbrev Qi0:SE:=rr 12100 Qh6 14
abbrev Qi1:SE:=rr 12100 Qh6 15
abbrev Qi2:SE:=.add Qi0 Qw
abbrev Qi3:SE:=.op .cat (.op .cat (.op .take Qi1 Qi0) Qib) (.op .drop Qi1 Qi2)
abbrev Qi4:SE:=rr 12100 Qig 14
abbrev Qi5:SE:=rr 12100 Qig 15
abbrev Qi6:SE:=.add Qi4 Qw
abbrev Qi7:SE:=.op .cat (.op .cat (.op .take Qi5 Qi4) Qib) (.op .drop Qi5 Qi6)
abbrev Qi8:SE:=cn YN (cn Qfq (cn Qfs (cn Qib Qfv)))
abbrev Qi9:T Lf:=sp Qf4 Kv (sp Qf7 (sp Qf8 (sp Qf9 (ou [.op .set FQ (cn lD (cn Wu Qi8)),Qi,bJ,bY,Qa,Qa,gW]) YL) Kv) fl)
abbrev Qja:T Lf:=sp Qgv (sp (.lt Qgw Qa) Kv fl) fl
abbrev Qjb:T Lf:=ou [.op .set FQ (cn lD (cn Kw Qi8)),Qi,bJ,bY,Qa,Qa,uV]
abbrev Qjc:T Lf:=ou [.op .set Qif (cn lD (cn Wu Qi8)),Qi,bJ,bY,Qa,Qa,uV]
abbrev Qjd:T Lf:=sp Qim Qgk (sp Qin (ou [Qio,Qi,bJ,bY,Qa,Qa,gW]) Qiw)
def lF:T Lf:=sp (.eq (a0 9000 Wp) Qw) (sp (.eq Qfa Qa) (sp Wq Qfg (sp Qfh fl Qfg)) (sp (.eq Qfa Qw) (sp Qfc (sp Qfd Qfi (sp Qm Qfi (sp Qn (sp Wq Qfi Qfi) Qfi))) fl) (sp (.eq Qfa gW) (sp Qfc (sp Qfd Qfj (sp Qm Qfj (sp Qn (sp Wq Qfj Qfj) Qfj))) fl) (sp (.eq Qfa uV) (sp Qfc (sp Qfd LU (sp Qm LU (sp Qn (sp Wq LU (sp Qfh (sp Qf0 (sp Qf1 (sp Qf2 (sp Qf3 Qgd (sp Qge Qgf (sp Qgh Qgf (sp Qgi Qgl (sp Qgm Qgo (sp Qgp Qgt (sp Qgu Qg3 (sp Qg5 Qg6 (sp Qg7 Qg9 (sp Qha Qhb (sp Qhd Qhg (sp Qhh Qhj (sp Qhk Qhl (sp Qhn Qho (sp Qhp Qhq (sp Qhs Qhu (sp Qhw Qhx (sp Qhy Qh0 (sp Qh1 (sp Qh2 fl (sp Qh3 (sp Qh4 (sp Qf4 (sp (.eq (a0 12000 Qh6) Qw) (sp (.eq (rr 12000 Qh6 0) Qa) Qh7 (sp (.eq (rr 12000 Qh6 0) Qw) (sp (.lt Qh8 Qa) fl (sp (.lt (ln Qh9) Qia) fl (sp (.lt Qia Qa) fl (sp (.lt (ln Qic) Qia) fl (ou [.op .set FQ (cn lD (cn Kw (cn YN (cn Qfq (cn Qfs (cn (.op .take Qic Qia) Qfv)))))),Qi,bJ,bY,Qa,Qa,uV]))))) fl)) fl) Kv) (sp Qie (sp (.eq (a0 12000 Qig) Qw) (sp (.eq (rr 12000 Qig 0) Qa) Qih (sp (.eq (rr 12000 Qig 0) Qw) (sp (.lt Qii Qa) fl (sp (.lt (ln Qij) Qik) fl (sp (.lt Qik Qa) fl (sp (.lt (ln Qil) Qik) fl (ou [.op .set Qif (cn lD (cn Wu (cn YN (cn Qfq (cn Qfs (cn (.op .take Qil Qik) Qfv)))))),Qi,bJ,bY,Qa,Qa,uV]))))) fl)) fl) Kv)) fl)) Qix))))))))))))))))))) LU) fl) fl) LU)) LU))) fl) (sp (.eq Qfa YP) (sp Qfc (sp Qfd LU (sp Qm LU (sp Qn (sp Wq LU (sp Qfh (sp Qf0 (sp Qf1 (sp Qf2 (sp Qf3 Qgd (sp Qge Qgf (sp Qgh Qgf (sp Qgi Qgl (sp Qgm Qgo (sp Qgp Qgt (sp Qgu Qg3 (sp Qg5 Qg6 (sp Qg7 Qg9 (sp Qha Qhb (sp Qhd Qhg (sp Qhh Qhj (sp Qhk Qhl (sp Qhn Qho (sp Qhp Qhq (sp Qhs Qhu (sp Qhw Qiz (sp Qhy YL (sp Qh1 (sp Qh2 fl (sp Qh3 (sp Qh4 (sp Qf4 (sp (.eq (a0 12100 Qh6) Qw) (sp (.eq (rr 12100 Qh6 0) Qa) Qh7 (sp (.eq (rr 12100 Qh6 0) Qw) (sp (.lt Qi0 Qa) fl (sp (.lt (ln Qi1) Qi2) fl (sp (.lt Qi2 Qa) fl (sp (.lt (ln Qi3) Qi2) fl (ou [.op .set FQ (cn lD (cn Kw (cn YN (cn Qfq (cn Qfs (cn (.op .take Qi3 Qi2) Qfv)))))),Qi,bJ,bY,Qa,Qa,uV]))))) fl)) fl) Kv) (sp Qie (sp (.eq (a0 12100 Qig) Qw) (sp (.eq (rr 12100 Qig 0) Qa) Qih (sp (.eq (rr 12100 Qig 0) Qw) (sp (.lt Qi4 Qa) fl (sp (.lt (ln Qi5) Qi6) fl (sp (.lt Qi6 Qa) fl (sp (.lt (ln Qi7) Qi6) fl (ou [.op .set Qif (cn lD (cn Wu (cn YN (cn Qfq (cn Qfs (cn (.op .take Qi7 Qi6) Qfv)))))),Qi,bJ,bY,Qa,Qa,uV]))))) fl)) fl) Kv)) fl)) Qix))))))))))))))))))) LU) fl) fl) LU)) LU))) fl) (sp (.eq Qfa Yz) (sp Qfc (sp Qfd LU (sp Qm LU (sp Qn (sp Wq LU (sp Qfh (sp Qf0 (sp Qf1 (sp Qf2 (sp Qf3 Qgd (sp Qge Qgf (sp Qgh Qgf (sp Qgi Qgl (sp Qgm Qgo (sp Qgp Qi9 (sp Qgu Qja (sp Qg5 Qgd (sp Qg7 Qg9 (sp Qha Qhb (sp Qhd Qhg (sp Qhh Qhj (sp Qhk Qhl (sp Qhn Qho (sp Qhp Qhq (sp Qhs Qhu (sp Qhw Qhx (sp Qhy Qh0 (sp Qh1 (sp Qh2 fl (sp Qh3 (sp Qh4 (sp Qf4 (sp (.eq (a0 12200 Qh6) Qw) (sp (.eq (rr 12200 Qh6 0) Qa) Qjb fl) fl) Kv) (sp Qie (sp (.eq (a0 12200 Qig) Qw) (sp (.eq (rr 12200 Qig 0) Qa) Qjc fl) fl) Kv)) fl)) Qjd))))))))))))))))))) LU) fl) fl) LU)) LU))) fl) (sp (.eq Qfa Qcc) (sp Qfc (sp Qfd LU (sp Qm LU (sp Qn (sp Wq LU (sp Qfh (sp Qf0 (sp Qf1 (sp Qf2 (sp Qf3 Qgd (sp Qge Qgf (sp Qgh Qgf (sp Qgi Qgl (sp Qgm Qgo (sp Qgp Qi9 (sp Qgu Qja (sp Qg5 Qgd (sp Qg7 Qg9 (sp Qha Qhb (sp Qhd Qhg (sp Qhh Qhj (sp Qhk Qhl (sp Qhn Qho (sp Qhp Qhq (sp Qhs Qhu (sp Qhw Qiz (sp Qhy YL (sp Qh1 (sp Qh2 fl (sp Qh3 (sp Qh4 (sp Qf4 (sp (.eq (a0 12300 Qh6) Qw) (sp (.eq (rr 12300 Qh6 0) Qa) Qjb fl) fl) Kv) (sp Qie (sp (.eq (a0 12300 Qig) Qw) (sp (.eq (rr 12300 Qig 0) Qa) Qjc fl) fl) Kv)) fl)) Qjd))))))))))))))))))) LU) fl) fl) LU)) LU))) fl) fl))))))) fl
abbrev Qje:T Lf:=ju 451 [Qd,qC,Qa,Qb]
def aBx:T Lf:=sp (.lt (.lit 64) qC) Qje (sp (.lt Qit Qc) Qje (ju 452 [Qd,qC,Qa,Qb]))
abbrev Qjf:T Lf:=ju 451 [Qd,Qb,Dn,Qi]
def atY:T Lf:=sp YO (sp FT fl (sp Wv Qjf fl)) (ju 453 [Qi,Qey,Qa,Qd])
abbrev Qjg:List SE:=[Qd,Qi,Qe1,Qe2,Qez,Qe3,nm Qe4]
def atX:T Lf:=sp YO (sp FT fl (sp Wv (sp (.eq (a0 700 Qjg) Qw) (sp (.eq (rr 700 Qjg 0) Qa) Qjf (ju 452 [Qd,Qb,Dn,Qi])) fl) fl)) (ju 454 [Qi,Qey,Qa,Qd])
abbrev Qjh:List SE:=[Qa,Qd,Qb,Qk,Qi,ce 0 Qej,Qe2,ce 2 Qej]
abbrev Qji:T Lf:=ou [.lit 120]
def atW:T Lf:=sp YO (sp FT fl (sp Wv (ju 455 Qjh) fl)) Qji
def atV:T Lf:=sp YO (sp FT fl (sp Wv (sp (.lt (.lit 120) (ln Qe2)) (ju 455 Qjh) (sp (.lt (.lit 4000) (ln (ce 2 Qej))) (ju 455 Qjh) (ju 456 Qjh))) fl)) bQ
abbrev Qjj:T Lf:=ju 453 [Qb,Qk,Qx,bJ]
def atU:T Lf:=sp (.lt Qd (ln kJ)) Qjj Qjj
abbrev Qjk:SB:=.lt Qd Qa
abbrev Qjl:SE:=el kJ Qd
abbrev Qjm:List SE:=[bJ,Qb,bY,fF,kJ,nm (ce 0 Qjl),nm (ce 1 Qjl),nm (ce 2 Qjl),nm (ce 3 Qjl),nm (ce 4 Qjl),nm (ce 5 Qjl),ce 6 Qjl]
abbrev Qjn:SE:=wr (.add Qd Qw)
abbrev Qjo:List SE:=[ce 6 Qjl,bY,fF,kJ]
abbrev Qjp:List SE:=[Qjn,Qb,Qk,Qi,bJ,rr 5000 Qjo 0,rr 5000 Qjo 1,rr 5000 Qjo 2]
def atT:T Lf:=sp (.lt Qd (ln kJ)) (sp Qjk fl (sp (.eq (a0 750 Qjm) Qw) (sp (.eq (rr 750 Qjm 0) Qa) (ju 455 [Qjn,Qb,Qk,Qi,bJ,bY,fF,kJ]) (sp (.eq (a0 5000 Qjo) Qw) (sp (.eq (rr 5000 Qjo 3) Qa) (ju 456 Qjp) (ju 455 Qjp)) fl)) fl)) (ju 454 [Qb,Qk,Qx,bJ])
abbrev Qjq:List SE:=[Qd,Qb,Qk,Qi,bJ]
abbrev Qjr:SB:=.lt bY Qh5
abbrev Qjs:SB:=.lt bY FN
abbrev Qjt:SB:=.lt nJ Qa
abbrev Qju:SB:=.lt Qa (ln uQ)
abbrev Qjv:SB:=.eq Qd YP
abbrev Qjw:SB:=.lt Qa (ln Ky)
abbrev Qjx:SB:=.eq kJ Qa
abbrev Qjy:SB:=.lt Qa nJ
abbrev Qjz:T Lf:=ju 501 [FN,uQ,ln uQ,Qa,Qd,Qb,Qk,Qi,bJ,bY,fF,kJ,nJ,Ky,kG]
abbrev Qj0:T Lf:=sp Qjy bQ Qjz
abbrev Qj1:T Lf:=sp Qjw bQ (sp Qjx Qj0 bQ)
abbrev Qj2:SB:=.eq Qd gW
abbrev Qj3:SB:=.eq Qd Qgg
abbrev Qj4:SB:=.eq Qd Yz
abbrev Qj5:SB:=.eq Qd Qcc
abbrev Qj6:SB:=.eq Qd Qw
abbrev Qj7:T Lf:=sp Qjr bQ (sp Qjs (sp Qjt bQ (sp (.lt Qir nJ) bQ (sp Wq (sp Qju (sp Qjv Qj1 (sp Qj2 Qj1 bQ)) (sp Qjw (sp Qj3 (sp Qjx Qj0 bQ) bQ) (sp Qjx (sp Qjy (sp Qj4 Qjz bQ) Qjz) (sp Qj5 Qj0 bQ)))) (sp Qj6 (sp Qju bQ Qj1) (sp Qj2 (sp Qju Qj1 Qj1) (sp Qj5 (sp Qju bQ (sp Qjw bQ (sp Qjx Qj0 Qj0))) bQ)))))) bQ)
def akK:T Lf:=sp (.eq (a0 650 Qjq) Qw) (sp (.eq (rr 650 Qjq 1) Qa) Qj7 (sp (.lt fF Qa) bQ (sp (.lt (rr 650 Qjq 0) fF) bQ Qj7))) fl
abbrev Qj8:SE:=.op .norm (mk (nm Qo)) Qa
abbrev Qj9:T Lf:=ju 501 [Qd,Qb,Qk,Qx,bJ,bY,fF,kJ,nJ,uQ,Ky,FN,Yw,Qed,.op .I9 PL (cn Qj8 Qf)]
abbrev Qka:SE:=ln Qed
abbrev Qkb:T Lf:=sp (.lt uQ Qa) gV (sp (.eq Qc Qa) (sp (.eq FN Qa) gV bQ) bQ)
def YW:T Lf:=sp Ql (sp Qm fl (sp Qn (sp (.lt (nm Qo) Qa) bQ (sp (.lt (nm Qo) Qd) (sp (.eq (.op .NK PL Qj8) Qa) Qj9 (sp (.eq (nm (.op .NP PL Qj8)) Qw) bQ Qj9)) bQ)) fl)) (sp (.lt fF Qa) (sp (.lt Qa Qka) bQ Qkb) (sp (.lt fF Qka) bQ Qkb))
abbrev yD:SE:=.op .norm Qd Qa
def ajY:T Lf:=sp Qen (sp (.lt qC (.lit 1759218604441)) (ju 551 [Qd,qC,Qa]) fl) (sp (.eq yD Qf) (ju 552 []) (sp (.eq yD Qh) (ju 553 []) fl))
abbrev Qkd:SB:=.lt Qa (ln Yx)
abbrev Qke:SB:=.lt (ln Yx) Qr
abbrev Qkf:SE:=mk Qk
abbrev Qkg:SE:=.op .set Qd (cn Qkf (.op .set Qej (cn Q9 Qe4)))
abbrev Qkh:SE:=.op .set Qd (cn Qkf (.op .set Qej (cn Q9 Qf)))
abbrev Qki:SE:=.op .set Qd (cn Qkf (.op .set Qej (cn Q9 Qh)))
def atS:T Lf:=sp YO (sp FT fl (sp Wv (sp (.lt Qa (ln Qe4)) (sp (.lt (ln Qe4) Qr) (sp Qkd (sp Qke (ju 551 [.op .set Qkg (cn Qkf (.op .set (el Qkg Qk) (cn Qbb Yx))),Qb,Dn]) fl) (sp (.eq Yx Qf) (ju 551 [.op .set Qkg (cn Qkf (.op .set (el Qkg Qk) Qbd)),Qb,Dn]) (sp (.eq Yx Qh) (ju 551 [.op .set Qkg (cn Qkf (.op .set (el Qkg Qk) Qbf)),Qb,Dn]) fl))) fl) (sp (.eq Qe4 Qf) (sp Qkd (sp Qke (ju 551 [.op .set Qkh (cn Qkf (.op .set (el Qkh Qk) (cn Qbb Yx))),Qb,Dn]) fl) (sp (.eq Yx Qf) (ju 551 [.op .set Qkh (cn Qkf (.op .set (el Qkh Qk) Qbd)),Qb,Dn]) (sp (.eq Yx Qh) (ju 551 [.op .set Qkh (cn Qkf (.op .set (el Qkh Qk) Qbf)),Qb,Dn]) fl))) (sp (.eq Qe4 Qh) (sp Qkd (sp Qke (ju 551 [.op .set Qki (cn Qkf (.op .set (el Qki Qk) (cn Qbb Yx))),Qb,Dn]) fl) (sp (.eq Yx Qf) (ju 551 [.op .set Qki (cn Qkf (.op .set (el Qki Qk) Qbd)),Qb,Dn]) (sp (.eq Yx Qh) (ju 551 [.op .set Qki (cn Qkf (.op .set (el Qki Qk) Qbf)),Qb,Dn]) fl))) fl))) fl)) (ou Qg)
def aDM:T Lf:=ou [Qf]
def aDL:T Lf:=ou [Qh]
abbrev Qkj:SB:=.eq Qd uV
abbrev Qkk:T Lf:=ou [gW]
abbrev Qkl:SB:=.eq Qd Qet
abbrev Qkm:T Lf:=ou [uV]
abbrev Qkn:SB:=.eq Qd (.lit 11)
abbrev Qko:T Lf:=ou [YP]
abbrev Qkp:SB:=.eq Qd (.lit 15)
abbrev Qkq:T Lf:=ou [Yz]
abbrev Qkr:T Lf:=ou [Qcc]
abbrev Qks:SB:=.eq Qd (.lit 17)
abbrev Qkt:T Lf:=ou [Qg4]
abbrev Qku:T Lf:=ou [Qgg]
abbrev Qkv:SB:=.eq Qd (.lit 21)
abbrev Qkw:SB:=.eq Qd (.lit 22)
abbrev Qkx:T Lf:=ou [Qet]
def aBw:T Lf:=sp (.lt (wr Qd) Qf5) (sp Qjk fl (sp (.lt Qd Qf5) (sp (.eq Qd Qa) bQ (sp Qj6 gV (sp Qj2 gV (sp Qkj gV (sp Qjv gV (sp Qj4 Qkk (sp Qj5 Qkk (sp (.eq Qd Qg4) Qkk (sp Qj3 Qkk (sp Qkl Qkm (sp (.eq Qd Qhc) Qkm (sp Qkn Qkm (sp (.eq Qd (.lit 12)) Qko (sp (.eq Qd (.lit 13)) Qko (sp (.eq Qd (.lit 14)) Qko (sp Qkp Qkq (sp (.eq Qd Qit) Qkr (sp Qks Qkt (sp (.eq Qd (.lit 18)) Qkt (sp (.eq Qd Qhm) Qkt (sp (.eq Qd TS) Qku (sp Qkv Qku (sp Qkw Qkx (sp (.eq Qd Qhr) Qkx (sp (.eq Qd (.lit 24)) Qko (sp (.eq Qd (.lit 25)) Qkq Qkr)))))))))))))))))))))))))) fl)) bQ
abbrev Qky:T Lf:=ou [Qa,Qa]
def atQ:T Lf:=sp Qkj (ou [Qk,Qw]) (sp Qj4 (ou [wr (.sub Qk Qw),Qw]) (sp (.eq Qd Qg4) (ou [Qhi,Qw]) (sp Qkl Qky (ou [Qa,Qw]))))
abbrev Qkz:T Lf:=sp (.eq bJ Qa) gV bQ
abbrev Qk0:T Lf:=sp Qd1 bQ (sp (.lt (.lit 1048576) bJ) bQ gV)
abbrev Qk1:T Lf:=sp Qd1 bQ (sp (.lt Qit bJ) bQ gV)
abbrev Qk2:T Lf:=sp (.lt bJ Qa) bQ (sp (.lt bJ qC) (sp (.eq (nm (ce 0 (el Qd bJ))) Qw) gV bQ) bQ)
def aBv:T Lf:=sp (.eq Qk Qw) Qkz (sp (.eq Qk gW) Qkz (sp (.eq Qk Qcc) Qkz (sp (.eq Qk Qg4) Qkz (sp (.eq Qk uV) Qk0 (sp (.eq Qk Qgg) Qk0 (sp (.eq Qk Yz) Qk1 (sp (.eq Qk YP) Qk2 (sp (.eq Qk Qet) gV bQ))))))))
abbrev Qk3:SB:=.lt kJ Qa
abbrev Qk4:SB:=.eq bY Qw
abbrev Qk5:SB:=.eq bY gW
abbrev Qk6:SB:=.eq bY uV
abbrev Qk7:SB:=.eq bY YP
abbrev Qk8:SB:=.eq bY Yz
abbrev Qk9:SB:=.eq bY Qcc
abbrev Qla:SB:=.eq bY Qg4
abbrev Qlb:T Lf:=sp Qk9 bQ (sp Qla bQ bQ)
abbrev Qlc:T Lf:=sp Qk6 bQ (sp Qk7 bQ (sp Qk8 bQ Qlb))
abbrev Qld:SB:=.lt kJ qC
abbrev Qle:SE:=nm (ce 0 (el Qd kJ))
abbrev Qlf:List SE:=[Qle,bY,fF,kJ,nJ,uQ,Ky,FN,Qa]
abbrev Qlg:T Lf:=sp (.eq fF Qit) bQ gV
abbrev Qlh:T Lf:=sp (.eq (a0 950 Qlf) Qw) (sp (.eq (rr 950 Qlf 0) Qa) bQ Qlg) fl
abbrev Qli:T Lf:=sp (.eq Qle Qcc) gV bQ
abbrev Qlj:T Lf:=sp Qld Qli bQ
abbrev Qlk:T Lf:=sp (.eq (ln FN) Qw) gV bQ
abbrev Qll:T Lf:=sp (.lt Qdq uQ) bQ Qlk
abbrev Qlm:T Lf:=sp (.lt Qdq uQ) bQ gV
abbrev Qln:T Lf:=sp Qk6 bQ (sp Qk7 Qll (sp Qk8 Qlm Qlb))
abbrev Qlo:T Lf:=sp (.eq fF Qit) Qlm gV
abbrev Qlp:T Lf:=sp (.eq (a0 950 Qlf) Qw) (sp (.eq (rr 950 Qlf 0) Qa) bQ Qlo) fl
abbrev Qlq:SB:=.lt nJ Qey
abbrev Qlr:T Lf:=sp Qk6 (sp Qlq Qlk bQ) (sp Qk7 bQ (sp Qk8 bQ (sp Qk9 (sp Qlq gV bQ) (sp Qla (sp Qlq bQ bQ) bQ))))
abbrev Qls:List SE:=[Qle,bY,fF,kJ,nJ,uQ,Ky,FN,Qw]
abbrev Qlt:T Lf:=sp Qk6 (sp Qlq Qlk bQ) (sp Qk7 Qll (sp Qk8 Qlm (sp Qk9 (sp Qlq gV bQ) (sp Qla (sp Qlq Qlm bQ) bQ))))
def Me:T Lf:=sp Qjt (sp (.lt uQ Qa) (sp Qk3 (sp Qk4 bQ (sp Qk5 bQ Qlc)) (sp Qk4 (sp Qld Qlh bQ) (sp Qk5 Qlj Qlc))) (sp Qk3 (sp Qk4 bQ (sp Qk5 bQ Qln)) (sp Qk4 (sp Qld Qlp bQ) (sp Qk5 Qlj Qln)))) (sp (.lt uQ Qa) (sp Qk3 (sp Qk4 bQ (sp Qk5 bQ Qlr)) (sp Qk4 (sp Qld (sp Qlq (sp (.eq (a0 950 Qls) Qw) (sp (.eq (rr 950 Qls 0) Qa) bQ Qlg) fl) Qlh) bQ) (sp Qk5 Qlj Qlr))) (sp Qk3 (sp Qk4 bQ (sp Qk5 bQ Qlt)) (sp Qk4 (sp Qld (sp Qlq (sp (.eq (a0 950 Qls) Qw) (sp (.eq (rr 950 Qls 0) Qa) bQ Qlo) fl) Qlp) bQ) (sp Qk5 Qlj Qlt))))
abbrev Qlu:SE:=.lit 1000
abbrev Qlv:List SE:=[Qd,Qb,Qk,Qi,Qw,Qlu,bJ]
def aBu:T Lf:=sp (.eq (a0 5050 Qlv) Qw) (sp (.eq (rr 5050 Qlv 2) Qa) bQ gV) fl
def aBt:T Lf:=ju 851 [Qd,Qb,qC,Qa]
abbrev Qlw:SE:=nm Qd6
def ajT:T Lf:=sp Ql (sp Qm fl (sp Qd5 (sp (.eq Qb Qlw) (ou [Qi]) (ju 851 Qeg)) fl)) (ou [Qh5])
def aBs:T Lf:=sp (.eq (a0 850 LW) Qw) (sp (.lt (rr 850 LW 0) Qa) bQ gV) fl
abbrev Qlx:SB:=.eq nJ Qa
abbrev Qly:List SE:=[Qd,ln kJ,Qb,Qk,Qi,bJ,bY,fF,kJ]
def aBr:T Lf:=sp Qlx (ju 951 Qly) (ju 952 Qly)
abbrev Qlz:SE:=cn Qf (cn kG (cn kG (cn Qf kG)))
abbrev Ql0:List SE:=[Qd,Qb,Qw,Qk,Qi,bJ,bY,fF,kJ,nJ,.op .snoc kG Qlz]
abbrev Ql1:List SE:=[Qd,Qw,Qa,Qa,Qi,Qa,Qa]
abbrev Ql2:SB:=.eq (a0 1200 [Qi]) Qw
abbrev Ql3:SB:=.eq Qd (rr 1200 [Qi] 0)
abbrev Ql4:List SE:=[Qd,kG]
abbrev Ql5:SB:=.eq (a0 5150 Ql4) Qw
abbrev Ql6:SB:=.eq (rr 5150 Ql4 2) Qa
abbrev Ql7:T Lf:=sp (.eq Qi Qit) gV gV
abbrev Ql8:T Lf:=sp Ql2 (sp Ql3 (sp Ql5 (sp Ql6 bQ (sp (.lt TS (ln (rr 5150 Ql4 1))) bQ Ql7)) fl) bQ) fl
abbrev Ql9:T Lf:=sp (.eq (a0 12400 Ql1) Qw) (sp (.eq (rr 12400 Ql1 0) Qa) bQ (sp (.eq (rr 12400 Ql1 0) Qw) Ql8 fl)) fl
abbrev Qma:List SE:=[Qa,Qa,Qd,Qa,Qa,Qa,Qi,Qa,Qa]
abbrev Qmb:SB:=.eq (a0 5200 Ql4) Qw
abbrev Qmc:SB:=.eq (rr 5200 Ql4 3) Qa
abbrev Qmd:List SE:=[Qd,Qa,Qa,Qa,Qi,Qa,Qa]
abbrev Qme:T Lf:=sp Qkj Ql9 (sp Qj3 Ql9 (sp Qj4 Ql9 (sp Qjv (sp (.eq (a0 12450 Qma) Qw) (sp (.eq (rr 12450 Qma 0) Qa) bQ (sp (.eq (rr 12450 Qma 0) Qw) (sp Ql2 (sp Ql3 (sp Qmb (sp Qmc bQ (sp (.lt TS (ln (rr 5200 Ql4 2))) bQ Ql7)) fl) bQ) fl) fl)) fl) (sp (.eq (a0 12400 Qmd) Qw) (sp (.eq (rr 12400 Qmd 0) Qa) bQ (sp (.eq (rr 12400 Qmd 0) Qw) Ql8 fl)) fl))))
abbrev Qmf:SB:=.eq (rr 12500 Ql1 0) Qa
abbrev Qmg:SB:=.eq (rr 12500 Ql1 0) Qw
abbrev Qmh:SE:=.dat (.p (.i 97) (.i 0))
abbrev Qmi:SE:=cn Qmh Qf
abbrev Qmj:SB:=.lt TS (ln (.op .I9 (rr 5150 Ql4 1) Qmi))
abbrev Qmk:T Lf:=sp Ql2 (sp Ql3 (sp Ql5 (sp Ql6 bQ (sp Qmj bQ (sp (.eq Qi Qit) bQ bQ))) fl) bQ) fl
abbrev Qml:T Lf:=sp (.eq (a0 12500 Ql1) Qw) (sp Qmf bQ (sp Qmg Qmk fl)) fl
abbrev Qmm:SB:=.eq (rr 12550 Qma 0) Qa
abbrev Qmn:SB:=.eq (rr 12550 Qma 0) Qw
abbrev Qmo:SB:=.lt TS (ln (.op .I9 (rr 5200 Ql4 2) Qmi))
abbrev Qmp:SB:=.eq (rr 12500 Qmd 0) Qa
abbrev Qmq:SB:=.eq (rr 12500 Qmd 0) Qw
def IB:T Lf:=sp (.lt Qa Qb) (ju 953 Ql0) (sp (.eq bY Qh5) Qme (sp Qkj Qml (sp Qj3 Qml (sp Qj4 Qml (sp Qjv (sp (.eq (a0 12550 Qma) Qw) (sp Qmm bQ (sp Qmn (sp Ql2 (sp Ql3 (sp Qmb (sp Qmc bQ (sp Qmo bQ (sp (.eq Qi Qit) bQ bQ))) fl) bQ) fl) fl)) fl) (sp (.eq (a0 12500 Qmd) Qw) (sp Qmp bQ (sp Qmq Qmk fl)) fl))))))
abbrev Qmr:T Lf:=sp Ql2 (sp Ql3 (sp Ql5 (sp Ql6 bQ (sp Qmj bQ Ql7)) fl) bQ) fl
abbrev Qms:T Lf:=sp (.eq (a0 12500 Ql1) Qw) (sp Qmf bQ (sp Qmg Qmr fl)) fl
def Iz:T Lf:=sp (.lt Qa Qb) (ju 954 Ql0) (sp (.eq bY Qh5) Qme (sp Qkj Qms (sp Qj3 Qms (sp Qj4 Qms (sp Qjv (sp (.eq (a0 12550 Qma) Qw) (sp Qmm bQ (sp Qmn (sp Ql2 (sp Ql3 (sp Qmb (sp Qmc bQ (sp Qmo bQ Ql7)) fl) bQ) fl) fl)) fl) (sp (.eq (a0 12500 Qmd) Qw) (sp Qmp bQ (sp Qmq Qmr fl)) fl))))))
abbrev Qmt:SB:=.lt (ln Ky) (.lit 2513169434915)
abbrev Qmu:List SE:=[Qd,Qb,Dn,Qi,bJ,bY,fF,kJ,nJ,uQ,.op .snoc Ky Qlz]
abbrev Qmv:List SE:=[Qd,Qw,Qa,Qa,bJ,Qa,Ky,Qa]
abbrev Qmw:SB:=.eq (a0 1200 [bJ]) Qw
abbrev Qmx:SB:=.eq Qd (rr 1200 [bJ] 0)
abbrev Qmy:List SE:=[rr 12600 Qmv 9,rr 12600 Qmv 10,Qd,kG]
abbrev Qmz:T Lf:=sp Qiu gV gV
abbrev Qm0:T Lf:=sp (.eq (a0 12600 Qmv) Qw) (sp (.eq (rr 12600 Qmv 0) Qa) bQ (sp (.eq (rr 12600 Qmv 0) Qw) (sp Qmw (sp Qmx (sp (.eq (a0 5300 Qmy) Qw) (sp (.eq (rr 5300 Qmy 3) Qa) bQ (sp (.lt TS (ln (rr 5300 Qmy 2))) bQ Qmz)) fl) bQ) fl) fl)) fl
abbrev Qm1:List SE:=[Qa,Qa,Qd,Qa,Qa,Qa,bJ,Qa,Ky,Qa]
abbrev Qm2:List SE:=[rr 12650 Qm1 11,rr 12650 Qm1 12,Qd,kG]
abbrev Qm3:List SE:=[Qd,Qa,Qa,Qa,bJ,Qa,Ky,Qa]
abbrev Qm4:List SE:=[rr 12600 Qm3 9,rr 12600 Qm3 10,Qd,kG]
abbrev Qm5:T Lf:=sp Qkj Qm0 (sp Qj3 Qm0 (sp Qj4 Qm0 (sp Qjv (sp (.eq (a0 12650 Qm1) Qw) (sp (.eq (rr 12650 Qm1 0) Qa) bQ (sp (.eq (rr 12650 Qm1 0) Qw) (sp Qmw (sp Qmx (sp (.eq (a0 5350 Qm2) Qw) (sp (.eq (rr 5350 Qm2 4) Qa) bQ (sp (.lt TS (ln (rr 5350 Qm2 3))) bQ Qmz)) fl) bQ) fl) fl)) fl) (sp (.eq (a0 12600 Qm3) Qw) (sp (.eq (rr 12600 Qm3 0) Qa) bQ (sp (.eq (rr 12600 Qm3 0) Qw) (sp Qmw (sp Qmx (sp (.eq (a0 5300 Qm4) Qw) (sp (.eq (rr 5300 Qm4 3) Qa) bQ (sp (.lt TS (ln (rr 5300 Qm4 2))) bQ Qmz)) fl) bQ) fl) fl)) fl))))
abbrev Qm6:SB:=.eq (rr 12700 Qmv 0) Qa
abbrev Qm7:SB:=.eq (rr 12700 Qmv 0) Qw
abbrev Qm8:List SE:=[rr 12700 Qmv 9,rr 12700 Qmv 10,Qd,kG]
abbrev Qm9:SB:=.eq (rr 5300 Qm8 3) Qa
abbrev Qna:SB:=.lt TS (ln (.op .I9 (rr 5300 Qm8 2) Qmi))
abbrev Qnb:T Lf:=sp Qiu bQ bQ
abbrev Qnc:T Lf:=sp (.eq (a0 12700 Qmv) Qw) (sp Qm6 bQ (sp Qm7 (sp Qmw (sp Qmx (sp (.eq (a0 5300 Qm8) Qw) (sp Qm9 bQ (sp Qna bQ Qnb)) fl) bQ) fl) fl)) fl
abbrev Qnd:SB:=.eq (rr 12750 Qm1 0) Qa
abbrev Qne:SB:=.eq (rr 12750 Qm1 0) Qw
abbrev Qnf:List SE:=[rr 12750 Qm1 11,rr 12750 Qm1 12,Qd,kG]
abbrev Qng:SB:=.eq (rr 5350 Qnf 4) Qa
abbrev Qnh:SB:=.lt TS (ln (.op .I9 (rr 5350 Qnf 3) Qmi))
abbrev Qni:SB:=.eq (rr 12700 Qm3 0) Qa
abbrev Qnj:SB:=.eq (rr 12700 Qm3 0) Qw
abbrev Qnk:List SE:=[rr 12700 Qm3 9,rr 12700 Qm3 10,Qd,kG]
abbrev Qnl:SB:=.eq (rr 5300 Qnk 3) Qa
abbrev Qnm:SB:=.lt TS (ln (.op .I9 (rr 5300 Qnk 2) Qmi))
def vV:T Lf:=sp YO (sp Qmt (ju 953 Qmu) fl) (sp (.eq fF Qh5) Qm5 (sp Qkj Qnc (sp Qj3 Qnc (sp Qj4 Qnc (sp Qjv (sp (.eq (a0 12750 Qm1) Qw) (sp Qnd bQ (sp Qne (sp Qmw (sp Qmx (sp (.eq (a0 5350 Qnf) Qw) (sp Qng bQ (sp Qnh bQ Qnb)) fl) bQ) fl) fl)) fl) (sp (.eq (a0 12700 Qm3) Qw) (sp Qni bQ (sp Qnj (sp Qmw (sp Qmx (sp (.eq (a0 5300 Qnk) Qw) (sp Qnl bQ (sp Qnm bQ Qnb)) fl) bQ) fl) fl)) fl))))))
abbrev Qnn:T Lf:=sp (.eq (a0 12700 Qmv) Qw) (sp Qm6 bQ (sp Qm7 (sp Qmw (sp Qmx (sp (.eq (a0 5300 Qm8) Qw) (sp Qm9 bQ (sp Qna bQ Qmz)) fl) bQ) fl) fl)) fl
def vU:T Lf:=sp YO (sp Qmt (ju 954 Qmu) fl) (sp (.eq fF Qh5) Qm5 (sp Qkj Qnn (sp Qj3 Qnn (sp Qj4 Qnn (sp Qjv (sp (.eq (a0 12750 Qm1) Qw) (sp Qnd bQ (sp Qne (sp Qmw (sp Qmx (sp (.eq (a0 5350 Qnf) Qw) (sp Qng bQ (sp Qnh bQ Qmz)) fl) bQ) fl) fl)) fl) (sp (.eq (a0 12700 Qm3) Qw) (sp Qni bQ (sp Qnj (sp Qmw (sp Qmx (sp (.eq (a0 5300 Qnk) Qw) (sp Qnl bQ (sp Qnm bQ Qmz)) fl) bQ) fl) fl)) fl))))))
abbrev Qno:List SE:=[Qd,Qa]
def alM:T Lf:=sp (.eq (a0 1050 Qno) Qw) (sp (.eq (rr 1050 Qno 6) Qa) (sp (.eq (rr 1050 Qno 0) gW) (sp (.eq (wr (.sub (rr 1050 Qno 5) (rr 1050 Qno 4))) qC) gV bQ) bQ) bQ) fl
abbrev Qnp:T Lf:=ou [Qa,kG,Qa,Qa,Qa,Qa,uV,Qa]
abbrev Qnq:T Lf:=ou [Qa,kG,Qa,Qa,Qa,Qa,gW,Qa]
abbrev Qnr:SE:=rr 12800 LW 3
abbrev Qns:SE:=wr (.add (.op .cnt (.op .sub Qd (cn kG (cn (mk Qnr) kG))) Qhc) Qw)
abbrev Qnt:SE:=rr 12850 [Qd,Qnr] 3
abbrev Qnu:SE:=.op .sub Qd (cn (mk Qnr) (cn (mk Qnt) kG))
abbrev Qnv:SE:=nm (el Qnu Qa)
abbrev Qnw:SE:=.lit 256
abbrev Qnx:SE:=nm (el (.dat b0) Qnv)
abbrev Qny:T Lf:=ou [Qa,kG,Qa,Qa,Qa,Qa,.lit 100,Qns]
abbrev Qnz:SE:=.dat (.p (.i 32) (.i 0))
abbrev Qn0:SB:=.eq (.op .norm Qnu Qa) (.dat (.p (.i 61) (.i 0)))
def WR:T Lf:=sp (.lt (.lit 16384) qC) Qnp (sp QA Qnq (sp (.lt qC Qb) Qnq (sp (.eq (a0 12800 LW) Qw) (sp (.eq (rr 12800 LW 0) Qa) (sp (.lt Qnr Qa) fl (sp (.lt qC Qnr) fl (sp (.eq Qnr qC) (ou [Yz,kG,Qa,Qns,Qnr,Qnr,Qa,Qa]) (sp (.eq (a0 12850 [Qd,Qnr]) Qw) (sp (.eq (rr 12850 [Qd,Qnr] 0) Qa) (sp (.lt Qnt Qnr) fl (sp (.lt qC Qnt) fl (sp (.lt Qa (ln Qnu)) (sp (.lt Qnv Qa) fl (sp (.lt Qnv Qnw) (sp (.eq Qnx uV) (sp (.eq (a0 1100 [Qnu]) Qw) (sp (.eq (rr 1100 [Qnu] 1) Qa) Qny (ou [Qw,kG,rr 1100 [Qnu] 0,Qns,Qnr,Qnt,Qa,Qa])) fl) (sp (.eq Qnx YP) (sp (.lt (ln Qnu) (.lit 1000000000)) (sp (.lt (ln (.op .cat Qnz Qnu)) (.lit 1000000000)) (sp (.eq (.op .con (.dat b1) (.op .cat (.op .cat Qnz Qnu) Qnz)) Qa) (sp Qn0 Qny (ou [gW,Qnu,Qa,Qns,Qnr,Qnt,Qa,Qa])) (sp Qn0 Qny (ou [uV,Qnu,Qa,Qns,Qnr,Qnt,Qa,Qa]))) fl) fl) (sp (.eq Qnx Yz) (sp Qn0 Qny (ou [YP,Qnu,Qa,Qns,Qnr,Qnt,Qa,Qa])) Qny))) fl)) fl))) fl) fl)))) fl) fl)))
def alL:T Lf:=sp (.eq qC Qa) (ju 1101 []) (ju 1102 [Qa,Qd,qC,Qa])
def ayH:T Lf:=ou [Qa,Qw]
abbrev Qn1:SE:=wr (.wrap .u8 (.sub (nm Qo) (.lit 48)))
def adF:T Lf:=sp Ql (sp Qm fl (sp Qn (sp (.lt (wr (.quo (wr (.sub (.lit 9223372036854775807) Qn1)) Qhc)) Qd) Qky (ju 1102 [wr (.add (wr (.mul Qd Qhc)) Qn1),Qb,Qk,Qx])) fl)) (ou [Qd,Qw])
abbrev Qn2:SB:=.eq (rr 1000 [Qb] 0) Qa
abbrev Qn3:SE:=wr (.sub Qey Qw)
abbrev Qn4:SE:=.dat (.p (.i 45) (.i 0))
abbrev Qn5:SE:=.dat (.p (.i 43) (.i 0))
abbrev Qn6:SE:=.dat (.p (.i 42) (.i 0))
abbrev Qn7:SE:=.dat (.p (.i 61) (.p (.i 61) (.i 0)))
abbrev Qn8:SE:=.dat (.p (.i 60) (.i 0))
def alK:T Lf:=sp Qj6 (sp FT bQ (sp (.eq Qe kG) (sp (.eq Qey Qa) gV bQ) bQ)) (sp Qj2 (sp (.eq Qk Qa) (sp (.eq Qey Qa) (sp (.eq (a0 1000 [Qb]) Qw) (sp Qn2 bQ gV) fl) bQ) bQ) (sp Qkj (sp (.eq Qk Qa) (sp (.lt Qey Qw) bQ (sp (.lt gW Qey) bQ (sp (.lt Qn3 Qa) fl (sp (.lt Qn3 gW) (sp (.eq Qn3 Qa) (sp (.eq Qe Qn4) gV bQ) (sp (.eq Qe Qn5) gV (sp (.eq Qe Qn4) gV (sp (.eq Qe Qn6) gV (sp (.eq Qe Qn7) gV (sp (.eq Qe Qn8) gV bQ)))))) fl)))) bQ) bQ))
def alJ:T Lf:=sp (.lt YP Qd) (sp (.lt Qgg Qd) (sp (.lt (.lit 11) Qd) (sp (.lt (.lit 14) Qd) (sp Qkp Qkq (sp (.eq Qd Qit) Qkr (sp (.lt Qhm Qd) (sp (.lt (.lit 21) Qd) Qkx Qku) Qkt))) Qko) Qkm) Qkk) gV
def alI:T Lf:=sp Qjv gV (sp Qks gV (sp (.eq Qd TS) gV (sp (.eq Qd Qhr) gV bQ)))
def alH:T Lf:=sp Qkj gV (sp Qjv gV (sp Qkn gV (sp Qkv gV (sp Qkw gV bQ))))
def alG:T Lf:=sp Qkj gV (sp Qj4 gV (sp Qj3 gV (sp Qkl gV bQ)))
abbrev Qn9:SE:=.op .norm Qi Qa
abbrev Qoa:T Lf:=sp Qjv (sp (.eq (a0 1000 [Qi]) Qw) (sp (.eq (rr 1000 [Qi] 0) Qa) bQ gV) fl) (sp (.eq Qn9 kG) gV bQ)
def WQ:T Lf:=sp (.lt Qd Qw) bQ (sp (.lt Qet Qd) bQ (sp (.eq (a0 1000 [Qb]) Qw) (sp Qn2 bQ (sp FT bQ (sp (.lt Qa Qk) (sp (.eq (a0 1350 Qg) Qw) (sp (.eq (rr 1350 Qg 0) Qa) bQ Qoa) fl) Qoa))) fl))
abbrev Qob:List SE:=[rr 300 LW 0,rr 3850 LW 0]
abbrev Qoc:SB:=.eq (a0 3900 Qfb) Qw
abbrev Qod:SB:=.eq (rr 3900 Qfb 0) Qa
def alB:T Lf:=sp (.eq (a0 100 LW) Qw) (sp (.eq (rr 100 LW 0) Qa) (sp (.eq (a0 3800 [Qk]) Qw) (sp (.eq (rr 3800 [Qk] 0) Qa) (sp (.eq (a0 300 LW) Qw) (sp (.eq (a0 3850 LW) Qw) (sp (.eq (a0 200 Qob) Qw) (sp (.eq (rr 200 Qob 0) Qa) bQ (sp Qfc (sp Qoc (sp (.and (.not (.and (.not Qfd) (.not Qod))) (.not (.and (.not (.not Qfd)) (.not (.not Qod))))) bQ (ju 3751 [Qi,Qk,rr 300 LW 0,Qa,Qd,Qb])) fl) fl)) fl) fl) fl) gV) fl) gV) fl
def JA:T Lf:=sp (.lt Qi gW) (sp Qm fl (sp (.eq Qi Qa) (ju 3752 [Qd,Qb,Qa,Qb,Qk,Qi,bJ,bY]) (ju 3752 [Qd,Qk,Qa,Qb,Qk,Qi,bJ,bY]))) gV
abbrev Qoe:List SE:=[fF,kJ,rr 3950 [Qb] 0,Qe1,nm Qe2,Qez,nm Qe3,nm Qe4]
abbrev Qof:List SE:=[fF,kJ,Qb,Qe1,nm Qe2,Qez,nm Qe3,nm Qe4]
abbrev Qog:List SE:=[rr 400 Qoe 0,rr 4000 Qof 0]
abbrev Qoh:T Lf:=ju 3751 [Qd,Qi,bJ,wr (.add bY Qw),fF,kJ]
def MB:T Lf:=sp Wv (sp (.lt Qk (.lit 60)) (sp (.eq (a0 3950 [Qb]) Qw) (sp FT fl (sp (.eq (a0 400 Qoe) Qw) (sp (.eq (a0 4000 Qof) Qw) (sp (.eq (a0 200 Qog) Qw) (sp (.eq (rr 200 Qog 0) Qa) bQ (sp (.and (.eq (rr 400 Qoe 1) (rr 4000 Qof 1)) (.and (.eq (rr 400 Qoe 2) (rr 4000 Qof 2)) (.and (.eq (rr 400 Qoe 3) (rr 4000 Qof 3)) (.and (.eq (rr 400 Qoe 4) (rr 4000 Qof 4)) (.eq (rr 400 Qoe 5) (rr 4000 Qof 5)))))) (sp (.eq (rr 400 Qoe 6) (rr 4000 Qof 6)) (sp (.eq (a0 200 [rr 3950 [Qb] 0,Qb]) Qw) (sp (.eq (rr 200 [rr 3950 [Qb] 0,Qb] 0) Qa) bQ (ju 3752 [Qd,rr 400 Qoe 0,Dn,Qi,bJ,bY,fF,kJ])) fl) bQ) bQ)) fl) fl) fl)) fl) Qoh) Qoh
def alA:T Lf:=ju 3801 [Qd,qC,qC,Qa]
def adE:T Lf:=sp Ql (sp Qm fl (sp Qd5 (ju 3801 [Qd,wr (.add Qb (wr (.add (ln (ce 4 Qd6)) Qd8))),Qk,Qx]) fl)) (sp (.lt (.lit 3000) Qb) gV bQ)
abbrev Qoi:SB:=.eq (rr 4050 LW 0) Qa
def WO:T Lf:=sp (.eq (a0 4050 LW) Qw) (sp Qoi (ju 3851 LW) Qem) fl
abbrev Qoj:T Lf:=ju 3852 [Qer,Qw,Qd,Qb]
def adD:T Lf:=sp Qen (sp (.eq Qep uV) Qoj (sp (.eq Qep Qet) Qoj (ju 3852 [Qeu,Qw,Qd,Qb]))) Qem
abbrev Qok:SB:=.lt Qb Qcw
abbrev Qol:SE:=el Qk Qb
abbrev Qom:SE:=nm (ce 0 Qol)
abbrev Qon:SE:=nm (ce 2 Qol)
abbrev Qoo:T Lf:=sp Qev (ju 3852 [.op .snoc Qd (cn Kw (cn (mk Qon) Qck)),Wx,Qk,Qi]) fl
def adC:T Lf:=sp Qok (sp QA fl (sp (.eq Qom uV) Qoo (sp (.eq Qom Qet) Qoo (sp Qev (ju 3852 [Qex,Wx,Qk,Qi]) fl)))) (ou Qg)
def akZ:T Lf:=sp (.eq (a0 4050 LW) Qw) (sp Qoi (sp (.eq Qcw qC) (ju 3901 [Qk,Qa,Qd,Qb]) bQ) bQ) fl
abbrev Qop:SB:=.lt Qb qC
abbrev Qoq:SE:=el Qd Qb
abbrev Qor:SE:=ce 1 Qol
abbrev Qos:SE:=ce 3 Qol
abbrev Qot:List SE:=[Qom,Qor,Qon,Qos,nm (ce 4 Qol),nm (ce 0 Qoq),nm (ce 1 Qoq),Qa,nm (ce 3 Qoq),ce 4 Qoq,ce 5 Qoq,Qey]
abbrev Qou:T Lf:=ju 3901 [Qd,Wx,Qk,Qi]
abbrev Qov:List SE:=[Qom,Qor,Qon,Qos,nm (ce 4 Qol),nm (ce 0 Qoq),nm (ce 1 Qoq),Qw,nm (ce 3 Qoq),ce 4 Qoq,ce 5 Qoq,Qey]
def WM:T Lf:=sp Qop (sp QA fl (sp Qok (sp (.eq (nm (ce 2 Qoq)) Qa) (sp (.eq (a0 4100 Qot) Qw) (sp (.eq (rr 4100 Qot 0) Qa) bQ Qou) fl) (sp (.eq (a0 4100 Qov) Qw) (sp (.eq (rr 4100 Qov 0) Qa) bQ Qou) fl)) fl)) gV
def akY:T Lf:=ju 3951 Qg
abbrev Qow:SB:=.eq (ln (ce 5 Yv)) Qa
abbrev Qox:SE:=mk (nm (ce 1 Yv))
abbrev Qoy:SE:=.op .bit (mk (nm (ce 2 Yv))) Qa
abbrev Qoz:SE:=mk (nm (ce 3 Yv))
abbrev Qo0:SB:=.lt (ln (ce 5 Yv)) Qr
def adB:T Lf:=sp Qen (sp (.eq (ln (ce 4 Yv)) Qa) (sp Qow (ju 3952 [Qd,.op .snoc kG (cn (mk Qep) (cn Qox (cn Qoy (cn Qoz Qct)))),Qw]) (sp Qo0 (ju 3952 [Qd,.op .snoc kG (cn (mk Qep) (cn Qox (cn Qoy (cn Qoz (cn Qh (cn (ce 5 Yv) kG)))))),Qw]) fl)) (sp (.lt (ln (ce 4 Yv)) Qr) (sp Qow (ju 3952 [Qd,.op .snoc kG (cn (mk Qep) (cn Qox (cn Qoy (cn Qoz (cn (ce 4 Yv) Qcs))))),Qw]) (sp Qo0 (ju 3952 [Qd,.op .snoc kG (cn (mk Qep) (cn Qox (cn Qoy (cn Qoz (cn (ce 4 Yv) (cn (ce 5 Yv) kG)))))),Qw]) fl)) fl)) Qem
abbrev Qo1:SB:=.lt Qc Qcx
abbrev Qo2:SE:=mk (nm Qe2)
abbrev Qo3:SE:=.op .bit (mk Qez) Qa
abbrev Qo4:SE:=mk (nm Qe3)
def adA:T Lf:=sp Wv (sp FT fl (sp (.eq (ln Qe4) Qa) (sp (.eq (ln Yx) Qa) (sp Qo1 (ju 3952 [Qd,.op .snoc Qb (cn (mk Qe1) (cn Qo2 (cn Qo3 (cn Qo4 Qct)))),Dn]) fl) (sp Qke (sp Qo1 (ju 3952 [Qd,.op .snoc Qb (cn (mk Qe1) (cn Qo2 (cn Qo3 (cn Qo4 (cn Qh (cn Yx kG)))))),Dn]) fl) fl)) (sp (.lt (ln Qe4) Qr) (sp (.eq (ln Yx) Qa) (sp Qo1 (ju 3952 [Qd,.op .snoc Qb (cn (mk Qe1) (cn Qo2 (cn Qo3 (cn Qo4 (cn Qe4 Qcs))))),Dn]) fl) (sp Qke (sp Qo1 (ju 3952 [Qd,.op .snoc Qb (cn (mk Qe1) (cn Qo2 (cn Qo3 (cn Qo4 (cn Qe4 (cn Yx kG)))))),Dn]) fl) fl)) fl))) Qd2
abbrev Qo5:SE:=rr 9050 Wp 0
abbrev Qo6:SB:=.eq (a0 4150 [bJ]) Qw
abbrev Qo7:SB:=.eq (rr 4150 [bJ] 0) (nm (ce 0 (el Qd bY)))
abbrev pO:SE:=rr 9050 Wp 2
abbrev Qo9:SE:=rr 9050 Wp 3
abbrev wW:SE:=mk Qo9
abbrev Qpb:SE:=rr 9050 Wp 4
abbrev Bh:SE:=mk Qpb
abbrev Io:SE:=.op .bit (mk (rr 9050 Wp 5)) Qa
abbrev Qpe:SE:=rr 9050 Wp 6
abbrev Jv:SE:=mk Qpe
abbrev Qpg:SE:=cn Io (cn Jv Qct)
abbrev Qph:SE:=cn lD (cn wW (cn Bh Qpg))
abbrev Qpi:SE:=.op .set pO Qph
abbrev Qpj:T Lf:=ou [Qpi,Qa,Qa,Qa,Qa,Qa,Qa]
abbrev Qpk:SB:=.lt bY (ln pO)
abbrev Qpl:SB:=.eq (a0 4400 [Qi,Qh]) Qw
abbrev Il:SB:=.eq Qo9 Qi
abbrev nN:T Lf:=sp (.eq (a0 3950 [Qk]) Qw) (ou [rr 3950 [Qk] 0,Qi,Qf5,bY,wr bJ,Qa,gW]) fl
abbrev LQ:SB:=.eq Qo9 Qh5
abbrev Qpp:SE:=.op .set pO (cn lD (cn Q8 (cn Bh Qpg)))
abbrev sZ:T Lf:=sp (.eq (a0 3950 [Qk]) Qw) (ou [rr 3950 [Qk] 0,Qa,Qa,Qa,Qa,Qa,Qa]) fl
abbrev Qpr:T Lf:=sp LQ (ou [Qpp,Qi,bJ,bY,Qa,Qa,gW]) sZ
abbrev Qps:T Lf:=sp Il (ou [.op .set pO (cn lD (cn Kw (cn Bh Qpg))),Qi,bJ,bY,Qa,Qa,gW]) nN
abbrev Qpt:T Lf:=ou [Qpp,Qi,bJ,bY,Qw,Qa,gW]
abbrev Qpu:T Lf:=ou [Qpi,Qi,bJ,bY,Qa,Qa,gW]
abbrev Qpv:SB:=.lt (rr 4400 [Qi,Qh] 0) Qa
abbrev Qpw:SE:=cn Bh (cn Io (cn Jv (cn Qib Qcs)))
abbrev Qpx:SB:=.eq (a0 20000 [Qi]) Qw
abbrev Qpy:SB:=.eq (rr 20000 [Qi] 0) Qa
abbrev Qpz:SE:=.op .set pO (cn lD (cn wW (cn Bh (cn Io (cn Jv (cn Qf Qcs))))))
abbrev Qp0:T Lf:=ou [Qpz,Qi,bJ,bY,Qa,Qa,gW]
abbrev Qp1:SB:=.lt Qa Qpb
abbrev Qp2:SE:=wr (.sub Qpb Qw)
abbrev Qp3:SE:=.op .set pO (cn lD (cn wW (cn (mk Qp2) Qpg)))
abbrev Qp4:SB:=.lt Qpb Ku
abbrev Qp5:SE:=mk (wr (.add Qpb Qw))
abbrev Qp6:SE:=.op .set pO (cn lD (cn wW (cn Qp5 Qpg)))
abbrev Qp7:SB:=.lt Ku (ln pO)
abbrev Qp8:T Lf:=ou [.op .set pO (cn lD (cn Kw Qpw)),Qi,bJ,bY,Qa,Qa,uV]
abbrev Qp9:SE:=nm (ce 0 (el pO Ku))
abbrev Qqa:SB:=.eq Qp9 Qi
abbrev Qqb:SE:=.op .set pO (cn (mk Ku) (.op .set (el pO Ku) (cn kG Kw)))
abbrev Qqc:T Lf:=ou [.op .set Qqb (cn lD (cn wW Qpw)),Qi,bJ,bY,Qa,Qa,uV]
abbrev Qqd:SB:=.eq Qp9 Qh5
abbrev Qqe:SE:=.op .set pO (cn (mk Ku) (.op .set (el pO Ku) (cn kG Q8)))
abbrev Qqf:SB:=.lt Qpe Qir
abbrev Qqg:SB:=.eq (wr (.add Qpb Qw)) Ku
abbrev Qqh:SE:=mk (wr (.add Qpe Qw))
abbrev Qqi:SB:=.lt fF Qpe
abbrev Qqj:SB:=.eq (rr 9050 Wp 5) Qa
abbrev Qqk:SB:=.lt fF (.lit (-1099511627776))
abbrev Qql:SB:=.lt Qhi fF
abbrev Qqm:SE:=wr (.add Qpb fF)
abbrev Qqn:SB:=.lt Qqm Qa
abbrev Qqo:SB:=.lt Qhi Qqm
abbrev Qqp:SB:=.eq Qpb Qa
abbrev Kt:SE:=rr 9050 Wp 7
abbrev Qqr:SE:=cn Jv (cn Qh (cn Kt kG))
abbrev Qqs:SE:=cn Io Qqr
abbrev Qqt:SE:=cn lD (cn wW (cn Bh Qqs))
abbrev Qqu:SE:=.op .set pO Qqt
abbrev Qqv:T Lf:=ou [Qqu,Qa,Qa,Qa,Qa,Qa,Qa]
abbrev Qqw:SE:=.op .set pO (cn lD (cn Q8 (cn Bh Qqs)))
abbrev Qqx:T Lf:=sp LQ (ou [Qqw,Qi,bJ,bY,Qa,Qa,gW]) sZ
abbrev Qqy:T Lf:=sp Il (ou [.op .set pO (cn lD (cn Kw (cn Bh Qqs))),Qi,bJ,bY,Qa,Qa,gW]) nN
abbrev Qqz:T Lf:=ou [Qqw,Qi,bJ,bY,Qw,Qa,gW]
abbrev Qq0:T Lf:=ou [Qqu,Qi,bJ,bY,Qa,Qa,gW]
abbrev Qq1:SE:=cn Bh (cn Io (cn Jv (cn Qib (cn Kt kG))))
abbrev Qq2:T Lf:=ou [.op .set pO (cn lD (cn wW (cn Bh (cn Io (cn Jv (cn Qf (cn Kt kG))))))),Qi,bJ,bY,Qa,Qa,gW]
abbrev Qq3:SE:=.op .set pO (cn lD (cn wW (cn (mk Qp2) Qqs)))
abbrev Qq4:SE:=.op .set pO (cn lD (cn wW (cn Qp5 Qqs)))
abbrev Qq5:SE:=ln Kt
abbrev Qq6:SB:=.lt (.sub Qq5 Qw) Qa
abbrev Qq7:SB:=.lt Qq5 (.add Qw (.sub Qq5 Qw))
abbrev Qq8:SE:=.op .drop (.op .take Kt (.add Qw (.sub Qq5 Qw))) Qw
abbrev Qq9:SE:=cn Io (cn Jv (cn Kt Qcs))
abbrev Qra:SE:=cn lD (cn wW (cn Bh Qq9))
abbrev Qrb:SE:=.op .set pO Qra
abbrev Qrc:T Lf:=ou [Qrb,Qa,Qa,Qa,Qa,Qa,Qa]
abbrev Qrd:SB:=.eq (a0 4400 [Qi,Kt]) Qw
abbrev Qre:SE:=.op .set pO (cn lD (cn Q8 (cn Bh Qq9)))
abbrev Qrf:T Lf:=ou [Qre,Qi,bJ,bY,Qa,Qa,gW]
abbrev Qrg:T Lf:=sp Il (ou [.op .set pO (cn lD (cn Kw (cn Bh Qq9))),Qi,bJ,bY,Qa,Qa,gW]) nN
abbrev Qrh:T Lf:=ou [Qre,Qi,bJ,bY,Qw,Qa,gW]
abbrev Qri:T Lf:=ou [Qrb,Qi,bJ,bY,Qa,Qa,gW]
abbrev Qrj:SB:=.lt (rr 4400 [Qi,Kt] 0) Qa
abbrev Qrk:SB:=.eq (a0 20050 [Kt,Qi]) Qw
abbrev Qrl:SB:=.eq (rr 20050 [Kt,Qi] 0) Qa
abbrev Qrm:SB:=.eq (rr 20050 [Kt,Qi] 0) Qw
abbrev Qrn:SE:=rr 20050 [Kt,Qi] 3
abbrev Qro:SB:=.eq Qq5 Qa
abbrev Qrp:SE:=.op .set pO (cn lD (cn wW (cn (mk Qp2) Qq9)))
abbrev Qrq:SE:=.op .set pO (cn lD (cn wW (cn Qp5 Qq9)))
abbrev Qrr:SB:=.lt (ln Qrn) Qgr
abbrev Qrs:SE:=cn Bh (cn Io (cn Jv (cn (.op .snoc Qrn Q8) Qcs)))
abbrev Qrt:SE:=wr (.add (nm (el Kt Qa)) Qw)
abbrev Qru:SE:=rr 9050 Wp 8
abbrev Qrv:SE:=cn Qru kG
abbrev Qrw:SE:=cn Io (cn Jv (cn Kt Qrv))
abbrev Qrx:SE:=cn lD (cn wW (cn Bh Qrw))
abbrev Qry:SE:=.op .set pO Qrx
abbrev Qrz:T Lf:=ou [Qry,Qa,Qa,Qa,Qa,Qa,Qa]
abbrev Qr0:SE:=.op .set pO (cn lD (cn Q8 (cn Bh Qrw)))
abbrev Qr1:T Lf:=ou [Qr0,Qi,bJ,bY,Qa,Qa,gW]
abbrev Qr2:T Lf:=sp Il (ou [.op .set pO (cn lD (cn Kw (cn Bh Qrw))),Qi,bJ,bY,Qa,Qa,gW]) nN
abbrev Qr3:T Lf:=ou [Qr0,Qi,bJ,bY,Qw,Qa,gW]
abbrev Qr4:T Lf:=ou [Qry,Qi,bJ,bY,Qa,Qa,gW]
abbrev Qr5:SE:=.op .set pO (cn lD (cn wW (cn Bh (cn Io (cn Jv (cn Qf Qrv))))))
abbrev Qr6:SE:=.op .set pO (cn lD (cn wW (cn (mk Qp2) Qrw)))
abbrev Qr7:SE:=.op .set pO (cn lD (cn wW (cn Qp5 Qrw)))
abbrev Qr8:SE:=.add Qw (.sub (ln Qru) Qw)
abbrev Qr9:SE:=cn Bh (cn Io (cn Jv (cn Qib Qrv)))
abbrev Qsa:SE:=cn Bh (cn Io (cn Jv (cn (.op .snoc Qrn Q8) Qrv)))
abbrev Qsb:T Lf:=ou [pO,Qa,Qa,Qa,Qa,Qa,Qa]
def nP:T Lf:=sp (.eq (a0 9050 Wp) Qw) (sp (.eq Qo5 Qa) (sp Qoc (sp Qod Qfi (sp Qm Qfi (sp Qn (sp Wq Qfi (sp Qf1 (sp Qo6 (sp Qo7 fl Qfi) fl) Qfi)) Qfi))) fl) (sp (.eq Qo5 Qw) (sp Qoc (sp Qod Qpj (sp Qm Qpj (sp Qn (sp Wq Qpj (sp Qf1 (sp Qo6 (sp Qo7 (sp Qpk (sp Qpl (sp Qf3 (sp Il nN Qpr) (sp Qge Qps (sp Qgh Qps (sp Qgi (sp LQ Qpt Qpu) (sp Qgm (sp LQ Qpt (sp Qgn sZ Qpu)) (sp Qgp (sp Il nN (sp Qpv (sp LQ (ou [.op .set pO (cn lD (cn wW Qpw)),Qi,bJ,bY,Qa,Qa,gW]) sZ) nN)) (sp Qgu (sp Qpv nN (sp Qpx (sp Qpy Qp0 fl) fl)) (sp Qg5 (sp Il nN (sp Qpv Qpr nN)) (sp Qg7 (sp Qp1 (ou [Qp3,Qi,bJ,bY,Qa,Qa,gW]) sZ) (sp Qha (sp Qp1 (ou [Qp3,Qi,bJ,bY,Qw,Qa,gW]) Qpu) (sp Qhd (sp Qp4 (ou [Qp6,Qi,bJ,bY,Qa,Qa,gW]) nN) (sp Qhw (sp (.lt Qa Ku) (ou [.op .set pO (cn lD (cn wW (cn Bh (cn Io (cn Jv (cn Qh Qiy)))))),Qi,bJ,bY,fF,Qa,gW]) sZ) (sp Qhy sZ (sp Qhp (ou [Qpi,Qi,bJ,bY,Qpb,Qa,gW]) (sp Qhs (ou [.op .set pO (cn lD (cn wW (cn Qht Qpg))),Qi,bJ,bY,fF,Qa,gW]) (sp Qh1 (sp Qh2 fl (sp Qp7 (sp Qh4 (sp Il (sp Qpx (sp Qpy Qp8 fl) fl) nN) (sp Qqa (sp Qpx (sp Qpy Qqc fl) fl) nN)) fl)) (sp Qim Qpu (sp Qin Qp0 (sp Qip (sp Qpv (sp Qh2 fl (sp Qp7 (sp Qh4 Qpr (sp Qqd (ou [.op .set Qqe Qph,Qi,bJ,bY,Qa,Qa,gW]) sZ)) fl)) sZ) (sp Qiq (sp Qqf (sp Qqg (ou [.op .set pO (cn lD (cn wW (cn kG (cn Io (cn Qqh Qct))))),Qi,bJ,bY,Qpe,Qa,uV]) (ou [Qp6,Qi,bJ,bY,Qpe,Qa,uV])) nN) (sp Qis (sp Qqi (ou [Qpi,Qi,bJ,bY,fF,Qa,gW]) sZ) (sp Qiu (sp Qqj (sp Il nN (sp LQ Qpt sZ)) Qpu) (sp Qiv (sp Il (ou [.op .set pO (cn lD (cn Kw (cn Bh (cn Qf (cn Jv Qct))))),Qi,bJ,bY,Qa,Qa,gW]) nN) (sp Qhh (sp Qqk nN (sp Qql nN (sp Qqn nN (sp Qqo nN (ou [.op .set pO (cn lD (cn wW (cn (mk Qqm) Qpg))),Qi,bJ,bY,Qqm,Qa,gW]))))) (sp Qhk (sp Qp1 (ou [Qp3,Qi,bJ,bY,Qp2,Qa,gW]) nN) (sp Qhn (sp Qqp Qpu sZ) sZ)))))))))))))))))))))))))) fl) fl) Qpj) fl) Qpj)) Qpj))) fl) (sp (.eq Qo5 gW) (sp Qoc (sp Qod Qqv (sp Qm Qqv (sp Qn (sp Wq Qqv (sp Qf1 (sp Qo6 (sp Qo7 (sp Qpk (sp Qpl (sp Qf3 (sp Il nN Qqx) (sp Qge Qqy (sp Qgh Qqy (sp Qgi (sp LQ Qqz Qq0) (sp Qgm (sp LQ Qqz (sp Qgn sZ Qq0)) (sp Qgp (sp Il nN (sp Qpv (sp LQ (ou [.op .set pO (cn lD (cn wW Qq1)),Qi,bJ,bY,Qa,Qa,gW]) sZ) nN)) (sp Qgu (sp Qpv nN (sp Qpx (sp Qpy Qq2 fl) fl)) (sp Qg5 (sp Il nN (sp Qpv Qqx nN)) (sp Qg7 (sp Qp1 (ou [Qq3,Qi,bJ,bY,Qa,Qa,gW]) sZ) (sp Qha (sp Qp1 (ou [Qq3,Qi,bJ,bY,Qw,Qa,gW]) Qq0) (sp Qhd (sp Qp4 (ou [Qq4,Qi,bJ,bY,Qa,Qa,gW]) nN) (sp Qhw (sp (.lt Qq5 Ku) (sp (.lt Qq5 Qgr) (ou [.op .set pO (cn lD (cn wW (cn Bh (cn Io (cn Jv (cn Qh (cn (.op .snoc Kt Qht) kG))))))),Qi,bJ,bY,fF,Qa,gW]) fl) sZ) (sp Qhy (sp (.lt Qa Qq5) (sp Qq6 fl (sp Qq7 fl (ou [.op .set pO (cn lD (cn wW (cn Bh (cn Io (cn Jv (cn Qh (cn Qq8 kG))))))),Qi,bJ,bY,nm (el Kt Qa),Qa,gW]))) sZ) (sp Qhp (ou [Qqu,Qi,bJ,bY,Qpb,Qa,gW]) (sp Qhs (ou [.op .set pO (cn lD (cn wW (cn Qht Qqs))),Qi,bJ,bY,fF,Qa,gW]) (sp Qh1 (sp Qh2 fl (sp Qp7 (sp Qh4 (sp Il (sp Qpx (sp Qpy (ou [.op .set pO (cn lD (cn Kw Qq1)),Qi,bJ,bY,Qa,Qa,uV]) fl) fl) nN) (sp Qqa (sp Qpx (sp Qpy (ou [.op .set Qqb (cn lD (cn wW Qq1)),Qi,bJ,bY,Qa,Qa,uV]) fl) fl) nN)) fl)) (sp Qim Qq0 (sp Qin Qq2 (sp Qip (sp Qpv (sp Qh2 fl (sp Qp7 (sp Qh4 Qqx (sp Qqd (ou [.op .set Qqe Qqt,Qi,bJ,bY,Qa,Qa,gW]) sZ)) fl)) sZ) (sp Qiq (sp Qqf (sp Qqg (ou [.op .set pO (cn lD (cn wW (cn kG (cn Io (cn Qqh (cn Qh (cn Kt kG))))))),Qi,bJ,bY,Qpe,Qa,uV]) (ou [Qq4,Qi,bJ,bY,Qpe,Qa,uV])) nN) (sp Qis (sp Qqi (ou [Qqu,Qi,bJ,bY,fF,Qa,gW]) sZ) (sp Qiu (sp Qqj (sp Il nN (sp LQ Qqz sZ)) Qq0) (sp Qiv (sp Il (ou [.op .set pO (cn lD (cn Kw (cn Bh (cn Qf Qqr)))),Qi,bJ,bY,Qa,Qa,gW]) nN) (sp Qhh (sp Qqk nN (sp Qql nN (sp Qqn nN (sp Qqo nN (ou [.op .set pO (cn lD (cn wW (cn (mk Qqm) Qqs))),Qi,bJ,bY,Qqm,Qa,gW]))))) (sp Qhk (sp Qp1 (ou [Qq3,Qi,bJ,bY,Qp2,Qa,gW]) nN) (sp Qhn (sp Qqp Qq0 sZ) sZ)))))))))))))))))))))))))) fl) fl) Qqv) fl) Qqv)) Qqv))) fl) (sp (.eq Qo5 uV) (sp Qoc (sp Qod Qrc (sp Qm Qrc (sp Qn (sp Wq Qrc (sp Qf1 (sp Qo6 (sp Qo7 (sp Qpk (sp Qrd (sp Qf3 (sp Il nN (sp LQ Qrf sZ)) (sp Qge Qrg (sp Qgh Qrg (sp Qgi (sp LQ Qrh Qri) (sp Qgm (sp LQ Qrh (sp Qgn sZ Qri)) (sp Qgp (sp Il nN (sp Qrj (sp LQ (sp (.lt Qq5 Qgr) (ou [.op .set pO (cn lD (cn wW (cn Bh (cn Io (cn Jv (cn (.op .snoc Kt Q8) Qcs)))))),Qi,bJ,bY,Qa,Qa,gW]) fl) sZ) nN)) (sp Qgu (sp Qrj nN (sp Qrk (sp Qrl Qp0 (sp Qrm (ou [.op .set pO (cn lD (cn wW (cn Bh (cn Io (cn Jv (cn Qrn Qcs)))))),Qi,bJ,bY,Qa,Qa,gW]) fl)) fl)) (sp Qg5 (sp Il nN (sp Qrj (sp LQ (sp Qro Qrf sZ) sZ) nN)) (sp Qg7 (sp Qp1 (ou [Qrp,Qi,bJ,bY,Qa,Qa,gW]) sZ) (sp Qha (sp Qp1 (ou [Qrp,Qi,bJ,bY,Qw,Qa,gW]) Qri) (sp Qhd (sp Qp4 (ou [Qrq,Qi,bJ,bY,Qa,Qa,gW]) nN) (sp Qhw (sp (.lt Qa Ku) (ou [.op .set pO (cn lD (cn wW (cn Bh (cn Io (cn Jv (cn Kt Qiy)))))),Qi,bJ,bY,fF,Qa,gW]) sZ) (sp Qhy sZ (sp Qhp (ou [Qrb,Qi,bJ,bY,Qpb,Qa,gW]) (sp Qhs (ou [.op .set pO (cn lD (cn wW (cn Qht Qq9))),Qi,bJ,bY,fF,Qa,gW]) (sp Qh1 (sp Qh2 fl (sp Qp7 (sp Qh4 (sp Il (sp Qrk (sp Qrl Qp8 (sp Qrm (sp Qrr (ou [.op .set pO (cn lD (cn Kw Qrs)),Qi,bJ,bY,Qa,Qa,uV]) fl) fl)) fl) nN) (sp Qqa (sp Qrk (sp Qrl Qqc (sp Qrm (sp Qrr (ou [.op .set Qqb (cn lD (cn wW Qrs)),Qi,bJ,bY,Qa,Qa,uV]) fl) fl)) fl) nN)) fl)) (sp Qim (sp Qro Qri (sp Qq6 fl (sp Qq7 fl (ou [.op .set pO (cn lD (cn wW (cn Bh (cn Io (cn Jv (cn Qq8 Qcs)))))),Qi,bJ,bY,Qrt,Qa,gW])))) (sp Qin (ou [Qpz,Qi,bJ,bY,Qq5,Qa,gW]) (sp Qip (sp Qrj (sp Qh2 fl (sp Qp7 (sp Qh4 (sp LQ Qrf sZ) (sp Qqd (ou [.op .set Qqe Qra,Qi,bJ,bY,Qa,Qa,gW]) sZ)) fl)) sZ) (sp Qiq (sp Qqf (sp Qqg (ou [.op .set pO (cn lD (cn wW (cn kG (cn Io (cn Qqh (cn Kt Qcs)))))),Qi,bJ,bY,Qpe,Qa,uV]) (ou [Qrq,Qi,bJ,bY,Qpe,Qa,uV])) nN) (sp Qis (sp Qqi (ou [Qrb,Qi,bJ,bY,fF,Qa,gW]) sZ) (sp Qiu (sp Qqj (sp Il nN (sp LQ Qrh sZ)) Qri) (sp Qiv (sp Il (ou [.op .set pO (cn lD (cn Kw (cn Bh (cn Qf (cn Jv (cn Kt Qcs)))))),Qi,bJ,bY,Qa,Qa,gW]) nN) (sp Qhh (sp Qqk nN (sp Qql nN (sp Qqn nN (sp Qqo nN (ou [.op .set pO (cn lD (cn wW (cn (mk Qqm) Qq9))),Qi,bJ,bY,Qqm,Qa,gW]))))) (sp Qhk (sp Qp1 (ou [Qrp,Qi,bJ,bY,Qp2,Qa,gW]) nN) (sp Qhn (sp Qqp Qri sZ) sZ)))))))))))))))))))))))))) fl) fl) Qrc) fl) Qrc)) Qrc))) fl) (sp (.eq Qo5 YP) (sp Qoc (sp Qod Qrz (sp Qm Qrz (sp Qn (sp Wq Qrz (sp Qf1 (sp Qo6 (sp Qo7 (sp Qpk (sp Qrd (sp Qf3 (sp Il nN (sp LQ Qr1 sZ)) (sp Qge Qr2 (sp Qgh Qr2 (sp Qgi (sp LQ Qr3 Qr4) (sp Qgm (sp LQ Qr3 (sp Qgn sZ Qr4)) (sp Qgp (sp Il nN (sp Qrj (sp LQ (sp (.lt Qq5 Qgr) (ou [.op .set pO (cn lD (cn wW (cn Bh (cn Io (cn Jv (cn (.op .snoc Kt Q8) Qrv)))))),Qi,bJ,bY,Qa,Qa,gW]) fl) sZ) nN)) (sp Qgu (sp Qrj nN (sp Qrk (sp Qrl (ou [Qr5,Qi,bJ,bY,Qa,Qa,gW]) (sp Qrm (ou [.op .set pO (cn lD (cn wW (cn Bh (cn Io (cn Jv (cn Qrn Qrv)))))),Qi,bJ,bY,Qa,Qa,gW]) fl)) fl)) (sp Qg5 (sp Il nN (sp Qrj (sp LQ (sp Qro Qr1 sZ) sZ) nN)) (sp Qg7 (sp Qp1 (ou [Qr6,Qi,bJ,bY,Qa,Qa,gW]) sZ) (sp Qha (sp Qp1 (ou [Qr6,Qi,bJ,bY,Qw,Qa,gW]) Qr4) (sp Qhd (sp Qp4 (ou [Qr7,Qi,bJ,bY,Qa,Qa,gW]) nN) (sp Qhw (sp (.lt (ln Qru) Ku) (sp (.lt (ln Qru) Qgr) (ou [.op .set pO (cn lD (cn wW (cn Bh (cn Io (cn Jv (cn Kt (cn (.op .snoc Qru Qht) kG))))))),Qi,bJ,bY,fF,Qa,gW]) fl) sZ) (sp Qhy (sp (.lt Qa (ln Qru)) (sp (.lt (.sub (ln Qru) Qw) Qa) fl (sp (.lt (ln Qru) Qr8) fl (ou [.op .set pO (cn lD (cn wW (cn Bh (cn Io (cn Jv (cn Kt (cn (.op .drop (.op .take Qru Qr8) Qw) kG))))))),Qi,bJ,bY,nm (el Qru Qa),Qa,gW]))) sZ) (sp Qhp (ou [Qry,Qi,bJ,bY,Qpb,Qa,gW]) (sp Qhs (ou [.op .set pO (cn lD (cn wW (cn Qht Qrw))),Qi,bJ,bY,fF,Qa,gW]) (sp Qh1 (sp Qh2 fl (sp Qp7 (sp Qh4 (sp Il (sp Qrk (sp Qrl (ou [.op .set pO (cn lD (cn Kw Qr9)),Qi,bJ,bY,Qa,Qa,uV]) (sp Qrm (sp Qrr (ou [.op .set pO (cn lD (cn Kw Qsa)),Qi,bJ,bY,Qa,Qa,uV]) fl) fl)) fl) nN) (sp Qqa (sp Qrk (sp Qrl (ou [.op .set Qqb (cn lD (cn wW Qr9)),Qi,bJ,bY,Qa,Qa,uV]) (sp Qrm (sp Qrr (ou [.op .set Qqb (cn lD (cn wW Qsa)),Qi,bJ,bY,Qa,Qa,uV]) fl) fl)) fl) nN)) fl)) (sp Qim (sp Qro Qr4 (sp Qq6 fl (sp Qq7 fl (ou [.op .set pO (cn lD (cn wW (cn Bh (cn Io (cn Jv (cn Qq8 Qrv)))))),Qi,bJ,bY,Qrt,Qa,gW])))) (sp Qin (ou [Qr5,Qi,bJ,bY,Qq5,Qa,gW]) (sp Qip (sp Qrj (sp Qh2 fl (sp Qp7 (sp Qh4 (sp LQ Qr1 sZ) (sp Qqd (ou [.op .set Qqe Qrx,Qi,bJ,bY,Qa,Qa,gW]) sZ)) fl)) sZ) (sp Qiq (sp Qqf (sp Qqg (ou [.op .set pO (cn lD (cn wW (cn kG (cn Io (cn Qqh (cn Kt Qrv)))))),Qi,bJ,bY,Qpe,Qa,uV]) (ou [Qr7,Qi,bJ,bY,Qpe,Qa,uV])) nN) (sp Qis (sp Qqi (ou [Qry,Qi,bJ,bY,fF,Qa,gW]) sZ) (sp Qiu (sp Qqj (sp Il nN (sp LQ Qr3 sZ)) Qr4) (sp Qiv (sp Il (ou [.op .set pO (cn lD (cn Kw (cn Bh (cn Qf (cn Jv (cn Kt Qrv)))))),Qi,bJ,bY,Qa,Qa,gW]) nN) (sp Qhh (sp Qqk nN (sp Qql nN (sp Qqn nN (sp Qqo nN (ou [.op .set pO (cn lD (cn wW (cn (mk Qqm) Qrw))),Qi,bJ,bY,Qqm,Qa,gW]))))) (sp Qhk (sp Qp1 (ou [Qr6,Qi,bJ,bY,Qp2,Qa,gW]) nN) (sp Qhn (sp Qqp Qr4 sZ) sZ)))))))))))))))))))))))))) fl) fl) Qrz) fl) Qrz)) Qrz))) fl) (sp (.eq Qo5 Yz) (sp Wq (sp Qoc (sp Qod Qsb (sp Qm Qsb (sp Qn Qsb Qsb))) fl) (sp Qpk fl (sp Qoc (sp Qod Qsb (sp Qm Qsb (sp Qn (sp Qf1 (sp Qo6 (sp Qo7 fl Qsb) fl) Qsb) Qsb))) fl))) fl)))))) fl
def akX:T Lf:=sp (.lt (.lit 64) qC) Qji (sp (.lt Qit Qc) Qji (ju 4051 [Qa,Qd,Qb]))
abbrev Qsc:List SE:=[Qb,Qk,Qz,ce 1 Qy,Q1,ce 3 Qy,nm (ce 4 Qy)]
def acZ:T Lf:=sp (.lt Qd Qc) (sp Qjk fl (sp (.eq (a0 4200 Qsc) Qw) (sp (.eq (rr 4200 Qsc 0) Qa) Qji (ju 4051 [Qjn,Qb,Qk])) fl)) (ju 4052 [Qa,Qb,Qk])
def acY:T Lf:=sp Yy (sp Qjk fl (sp (.lt (.lit 120) (ln (ce 1 (el Qk Qd)))) Qji (sp (.lt (.lit 4000) (ln (ce 2 (el Qk Qd)))) Qji (ju 4053 [Qd,Qa,Qb,Qk,ce 0 (el Qk Qd),ce 1 (el Qk Qd),ce 2 (el Qk Qd)])))) bQ
abbrev Qsd:SE:=el fF Qb
abbrev Qse:List SE:=[Qk,Qi,bJ,bY,fF,nm (ce 0 Qsd),nm (ce 1 Qsd),nm (ce 2 Qsd),nm (ce 3 Qsd),nm (ce 4 Qsd),nm (ce 5 Qsd),ce 6 Qsd]
def acX:T Lf:=sp (.lt Qb (ln fF)) (sp QA fl (sp (.eq (a0 4250 Qse) Qw) (sp (.eq (rr 4250 Qse 0) Qa) Qji (ju 4054 [Qd,Qb,Qa,Qk,Qi,bJ,bY,fF])) fl)) (ju 4052 [Qjn,Qk,Qi])
abbrev Qsf:SE:=el (ce 6 (el kJ Qb)) Qk
abbrev Qsg:List SE:=[nm (ce 0 Qsf),ce 1 Qsf,nm (ce 2 Qsf),ce 3 Qsf,TS]
abbrev Qsh:List SE:=[nm (ce 0 Qsf),ce 1 Qsf,nm (ce 2 Qsf),ce 3 Qsf,ln fF]
def QO:T Lf:=sp QA fl (sp (.lt Qb (ln kJ)) (sp (.lt Qk (ln (ce 6 (el kJ Qb)))) (sp FT fl (sp (.eq (a0 4300 Qsg) Qw) (sp (.lt Qlu (rr 4300 Qsg 0)) Qji (sp (.eq (a0 4350 Qsh) Qw) (sp (.eq (rr 4350 Qsh 0) Qa) Qji (ju 4054 [Qd,Qb,Dn,Qi,bJ,bY,fF,kJ])) fl)) fl)) (ju 4053 [Qd,Wx,Qi,bJ,bY,fF,kJ])) fl)
abbrev Qsi:T Lf:=ju 4101 [FN,Qd,Qa,Qb,Qk,Qi,bJ,bY,fF,kJ,nJ,uQ,Ky]
abbrev Qsj:T Lf:=sp Qjt bQ (sp (.lt Qir nJ) bQ (sp Qjy bQ Qsi))
abbrev Qsk:T Lf:=sp Qjw bQ (sp Qjx Qsj bQ)
abbrev Qsl:T Lf:=sp Qju Qsk Qsk
def QN:T Lf:=sp Qjv (sp Qjr bQ (sp Qjs (sp Wq Qsl bQ) bQ)) (sp Qj6 (sp Qjr bQ (sp Qjs (sp Wq (sp Qju bQ Qsk) (sp Qju bQ Qsk)) bQ)) (sp Qj2 (sp Qjr bQ (sp Qjs (sp Wq Qsl Qsl) bQ)) (sp Qjr bQ (sp Qjs (sp Wq (sp Qju bQ (sp Qjw (sp Qj3 (sp Qjx Qsj bQ) bQ) (sp Qjx (sp Qjt bQ (sp (.lt Qir nJ) bQ (sp Qjy (sp Qj4 Qsi bQ) Qsi))) (sp Qj5 Qsj bQ)))) (sp Qj5 (sp Qju bQ (sp Qjw bQ (sp Qjx Qsj Qsj))) bQ)) bQ))))
abbrev Qsm:SE:=nm (el FN Qk)
abbrev Qsn:T Lf:=sp (.eq Qb uV) (sp Qjt bQ (sp (.lt bJ nJ) bQ gV)) (sp (.eq Qb Yz) (sp Qjt bQ (sp (.lt nJ bJ) gV bQ)) (sp (.eq Qb Qg4) (sp Qjt bQ (sp (.lt Qhi nJ) bQ gV)) (sp (.eq Qb Qet) gV (sp (.eq Qb Qgg) (sp Qlx (sp (.lt bJ (ln Yw)) bQ gV) bQ) (sp Qlx gV bQ)))))
def acW:T Lf:=sp (.lt Qk (ln FN)) (sp FT fl (sp (.lt Qsm Qa) bQ (sp (.lt Qsm Qd) (sp (.eq (a0 4400 [Qsm,.op .take FN Qk]) Qw) (sp (.lt (rr 4400 [Qsm,.op .take FN Qk] 0) Qa) (ju 4101 [Qd,Qb,Dn,Qi,bJ,bY,fF,kJ,nJ,uQ,Ky,FN,Yw]) bQ) fl) bQ))) (sp Qk3 Qsn (sp (.lt Qa (ln FN)) bQ (sp (.eq uQ Qa) Qsn bQ)))
def akW:T Lf:=sp (.eq Qd (.lit 24)) Qko (sp (.eq Qd (.lit 25)) Qkq (sp (.eq Qd (.lit 26)) Qkr (sp (.eq (a0 4450 Qg) Qw) (ou [rr 4450 Qg 0]) fl)))
def akV:T Lf:=sp (.eq Qk uV) Qk0 (sp (.eq Qk Qgg) Qk0 (sp (.eq Qk Yz) Qk1 (sp (.eq Qk YP) Qk2 (sp (.eq Qk Qet) gV (sp (.lt Qk Qw) bQ (sp (.lt Qk Qet) Qkz bQ))))))
abbrev Qso:SB:=.lt fF Qw
abbrev Qsp:SB:=.lt Qhr fF
abbrev Qsq:SB:=.eq (a0 4500 [kJ,qC]) Qw
abbrev Qsr:SB:=.eq (rr 4500 [kJ,qC] 0) Qa
abbrev Qss:SB:=.eq (rr 4500 [uQ,wr (.add Qdq Qw)] 0) Qa
abbrev Qst:SB:=.eq (rr 4500 [nJ,Qey] 0) Qa
abbrev Qsu:T Lf:=sp (.eq (a0 4600 [fF]) Qw) (sp (.eq (rr 4600 [fF] 0) Qa) (sp (.eq nJ Qh5) gV bQ) (sp Qst bQ gV)) fl
def BF:T Lf:=sp (.eq (a0 4500 [nJ,Qey]) Qw) (sp (.eq (a0 4500 [uQ,wr (.add Qdq Qw)]) Qw) (sp Qk4 (sp Qso bQ (sp Qsp bQ (sp Qsq (sp Qsr bQ (sp Qk3 fl (sp Qld (sp (.eq (a0 4450 [fF]) Qw) (sp (.eq Qle (rr 4450 [fF] 0)) (sp (.eq (a0 4550 [fF]) Qw) (sp (.eq (ln FN) (rr 4550 [fF] 0)) (sp (.eq fF Qit) (sp Qss bQ Qsu) Qsu) bQ) fl) bQ) fl) fl))) fl))) (sp Qk5 (sp Qsq (sp Qsr bQ (sp Qk3 fl (sp Qld Qli fl))) fl) (sp Qk6 (sp Qst bQ Qlk) (sp Qk7 (sp Qss bQ Qlk) (sp Qk8 (sp Qss bQ gV) (sp Qk9 (sp Qst bQ gV) (sp Qla (sp Qst bQ (sp Qss bQ gV)) bQ))))))) fl) fl
def acV:T Lf:=sp Qd1 (ou [.lit 10000]) (ju 4301 [bJ,Qw,Qa,Qd,Qb,Qk,Qi])
def acU:T Lf:=sp (.lt Qk (ln fF)) (sp (.lt Qlu Qb) Qd2 (sp FT fl (sp (.eq (a0 4300 Qd4) Qw) (ju 4301 [Qd,wr (.add Qb (rr 4300 Qd4 0)),Dn,Qi,bJ,bY,fF]) fl))) Qd2
def akU:T Lf:=ju 4351 [bJ,Qa,Qd,Qb,Qk,Qi]
abbrev Qsv:List SE:=[nm (ce 0 Qdu),ce 1 Qdu,nm (ce 2 Qdu),ce 3 Qdu,Qd]
def acT:T Lf:=sp (.lt Qb (ln bY)) (sp QA fl (sp (.eq (a0 4350 Qsv) Qw) (sp (.eq (rr 4350 Qsv 0) Qa) bQ (ju 4351 [Qd,Wx,Qk,Qi,bJ,bY])) fl)) (sp (.eq Qk Qw) (sp (.eq (ln bY) Qa) (sp (.eq Qn9 kG) (sp (.lt bJ Qa) bQ gV) bQ) bQ) (sp (.eq Qk gW) (sp (.eq (ln bY) Qa) (sp (.lt bJ Qa) bQ (sp (.lt bJ Qd) (sp (.eq (a0 4650 [Qi]) Qw) (sp (.eq (rr 4650 [Qi] 0) Qa) bQ gV) fl) bQ)) bQ) (sp (.eq Qk uV) (sp (.eq bJ Qa) (sp (.eq (ln bY) Qw) (sp (.eq Qn9 Qn4) gV bQ) (sp (.eq (ln bY) gW) (sp (.eq Qn9 Qn5) gV (sp (.eq Qn9 Qn4) gV (sp (.eq Qn9 Qn6) gV (sp (.eq Qn9 Qn7) gV (sp (.eq Qn9 Qn8) gV bQ))))) bQ)) bQ) bQ)))
def akT:T Lf:=ju 4401 Qeh
abbrev Qsw:SB:=.eq (nm (el Qb Qk)) Qd
def acS:T Lf:=sp (.lt Qk Qc) (sp FT fl (sp Qsw (ou [Qk]) (ju 4401 Qel))) (ou [Qh5])
def akS:T Lf:=sp Qj6 gV (sp Qj2 gV (sp Qkj gV (sp Qjv gV (sp Qj4 Qkk (sp Qj5 Qkk (sp (.eq Qd Qg4) Qkk (sp Qj3 Qkk (sp Qkl Qkm (sp (.eq Qd Qhc) Qkm (sp Qkn Qkm (sp (.eq Qd (.lit 12)) Qko (sp (.eq Qd (.lit 13)) Qko (sp (.eq Qd (.lit 14)) Qko (sp Qkp Qkq (sp (.eq Qd Qit) Qkr (sp Qks Qkt (sp (.eq Qd (.lit 18)) Qkt (sp (.eq Qd Qhm) Qkt (sp (.eq Qd TS) Qku (sp Qkv Qku (sp Qkw Qkx (sp (.eq Qd Qhr) Qkx bQ))))))))))))))))))))))
def akR:T Lf:=sp Qjk bQ (sp (.lt Qd Qb) gV bQ)
def akQ:T Lf:=sp Qjv gV (sp Qks gV (sp (.eq Qd TS) gV (sp (.eq Qd Qhr) gV bQ)))
def akP:T Lf:=sp Qkj gV (sp Qjv gV (sp Qkn gV (sp Qkv gV (sp Qkw gV bQ))))
def akO:T Lf:=sp (.eq (a0 4700 Qno) Qw) (sp (.eq (rr 4700 Qno 6) Qa) (sp (.eq (rr 4700 Qno 0) gW) (sp (.eq (rr 4700 Qno 4) Qa) (sp (.eq (rr 4700 Qno 5) qC) gV bQ) bQ) bQ) bQ) fl
def acR:T Lf:=sp (.lt (.lit 16384) qC) Qnp (sp QA Qnq (sp (.lt qC Qb) Qnq (ju 4701 [Qd,Qb,Qb])))
abbrev Qsx:List SE:=[.op .sub Qd (cn (mk Qb) (cn (mk Dn) kG))]
abbrev Qsy:T Lf:=ju 4702 [Qd,Qk,Qw,Qa]
def WL:T Lf:=sp Wv (sp QA fl (sp (.lt Dn Qb) fl (sp (.lt qC Dn) fl (sp (.eq (a0 4850 Qsx) Qw) (sp (.eq (rr 4850 Qsx 0) Qa) Qsy (ju 4701 Qel)) fl)))) Qsy
def acQ:T Lf:=sp (.lt Qi Qb) (sp Qm fl (sp Qd5 (sp (.eq Qlw Qhc) (ju 4702 [Qd,Qb,Dn,Qx]) (ju 4702 Qeg)) fl)) (sp (.eq Qb qC) (ou [Yz,kG,Qa,Qk,Qb,Qb,Qa,Qa]) (ju 4703 [Qd,Qb,Qk,Qb,Wx]))
abbrev Qsz:SE:=.op .sub Qd (cn (mk Qb) (cn Q8 kG))
abbrev Qs0:SE:=rr 4750 [Qsz] 0
abbrev Qs1:T Lf:=ou [Qa,kG,Qa,Qa,Qa,Qa,.lit 100,Qk]
abbrev Qs2:T Lf:=sp (.lt Qi Qb) fl (sp (.lt qC Qi) fl (sp (.eq (a0 4750 [Qsz]) Qw) (sp (.eq Qs0 Qa) Qs1 (sp (.eq Qs0 Qw) (sp (.eq (a0 22000 [Qsz]) Qw) (sp (.eq (rr 22000 [Qsz] 1) Qa) Qs1 (ou [Qs0,kG,rr 22000 [Qsz] 0,Qk,Qb,Qi,Qa,Qa])) fl) (ou [Qs0,Qsz,Qa,Qk,Qb,Qi,Qa,Qa]))) fl))
abbrev Qs3:SE:=wr (.add Qb gW)
abbrev Qs4:List SE:=[.op .sub Qd (cn (mk Qb) (cn (mk bJ) kG))]
abbrev Qs5:SB:=.lt Qa (rr 4750 Qs4 0)
abbrev Qs6:SE:=wr (.add bJ Qw)
abbrev Qs7:T Lf:=ju 4703 [Qd,Qb,Qk,bJ,Qs6]
def QM:T Lf:=sp (.lt qC bJ) (sp QA fl Qs2) (sp (.lt Qs3 bJ) (sp QA fl (sp (.lt bJ Qb) fl (sp (.eq (a0 4750 Qs4) Qw) (sp Qs5 Qs7 Qs2) fl))) (sp QA fl (sp (.lt bJ Qb) fl (sp (.eq (a0 4750 Qs4) Qw) (sp Qs5 Qs7 (ju 4703 [Qd,Qb,Qk,Qi,Qs6])) fl))))
abbrev Qs8:List SE:=[Qd,.dat (.p (.i 48) (.p (.i 49) (.p (.i 50) (.p (.i 51) (.p (.i 52) (.p (.i 53) (.p (.i 54) (.p (.i 55) (.p (.i 56) (.p (.i 57) (.i 0)))))))))))]
abbrev Qs9:SE:=.dat (.p (.i 45) (.p (.i 62) (.i 0)))
abbrev Qta:List SE:=[nm Yv,.dat (.p (.i 60) (.p (.i 43) (.p (.i 45) (.p (.i 42) (.p (.i 40) (.p (.i 41) (.p (.i 123) (.p (.i 125) (.p (.i 59) (.i 0))))))))))]
abbrev Qtb:T Lf:=sp (.eq yD Qs9) Qko (sp (.eq yD Qn7) Qko (sp (.eq qC Qw) (sp (.eq (a0 4950 Qta) Qw) (sp (.eq (rr 4950 Qta 0) Qa) bQ Qko) fl) bQ))
def acP:T Lf:=sp (.eq yD kG) bQ (sp (.eq (a0 4900 Qs8) Qw) (sp (.eq (rr 4900 Qs8 0) Qa) (sp Qen (sp (.eq (a0 4950 [nm Yv,.dat b2]) Qw) (sp (.eq (rr 4950 [nm Yv,.dat b2] 0) Qa) Qtb (sp (.eq (a0 4900 [Qd,.dat b3]) Qw) (sp (.eq (rr 4900 [Qd,.dat b3] 0) Qa) Qtb (sp (.eq (a0 4800 Qg) Qw) (sp (.eq (rr 4800 Qg 0) Qa) Qkk Qkm) fl)) fl)) fl) fl) gV) fl)
def akN:T Lf:=ju 4801 Qno
abbrev Bf:T Lf:=ju 4801 [Qd,Wx]
def acO:T Lf:=sp (.lt Qb (.lit 37)) (sp QA fl (sp (.eq Qb Qa) (sp (.eq yD (.dat (.p (.i 97) (.p (.i 99) (.p (.i 113) (.p (.i 117) (.p (.i 105) (.p (.i 114) (.p (.i 101) (.i 0)))))))))) gV Bf) (sp (.eq Qb Qw) (sp (.eq yD (.dat (.p (.i 97) (.p (.i 100) (.p (.i 100) (.i 0)))))) gV Bf) (sp (.eq Qb gW) (sp (.eq yD (.dat (.p (.i 97) (.p (.i 114) (.p (.i 114) (.p (.i 105) (.p (.i 118) (.p (.i 101) (.i 0))))))))) gV Bf) (sp (.eq Qb uV) (sp (.eq yD (.dat (.p (.i 98) (.p (.i 97) (.p (.i 114) (.p (.i 114) (.p (.i 105) (.p (.i 101) (.p (.i 114) (.i 0)))))))))) gV Bf) (sp (.eq Qb YP) (sp (.eq yD (.dat (.p (.i 98) (.p (.i 114) (.p (.i 111) (.p (.i 97) (.p (.i 100) (.p (.i 99) (.p (.i 97) (.p (.i 115) (.p (.i 116) (.i 0)))))))))))) gV Bf) (sp (.eq Qb Yz) (sp (.eq yD (.dat (.p (.i 99) (.p (.i 111) (.p (.i 110) (.p (.i 100) (.i 0))))))) gV Bf) (sp (.eq Qb Qcc) (sp (.eq yD (.dat (.p (.i 100) (.p (.i 111) (.i 0))))) gV Bf) (sp (.eq Qb Qg4) (sp (.eq yD (.dat (.p (.i 100) (.p (.i 111) (.p (.i 110) (.p (.i 101) (.i 0))))))) gV Bf) (sp (.eq Qb Qgg) (sp (.eq yD (.dat (.p (.i 101) (.p (.i 108) (.p (.i 115) (.p (.i 101) (.i 0))))))) gV Bf) (sp (.eq Qb Qet) (sp (.eq yD (.dat (.p (.i 105) (.p (.i 102) (.i 0))))) gV Bf) (sp (.eq Qb Qhc) (sp (.eq yD (.dat (.p (.i 108) (.p (.i 111) (.p (.i 99) (.p (.i 107) (.i 0))))))) gV Bf) (sp (.eq Qb (.lit 11)) (sp (.eq yD (.dat (.p (.i 108) (.p (.i 111) (.p (.i 99) (.p (.i 107) (.p (.i 102) (.p (.i 111) (.p (.i 114) (.i 0)))))))))) gV Bf) (sp (.eq Qb (.lit 12)) (sp (.eq yD (.dat (.p (.i 108) (.p (.i 111) (.p (.i 111) (.p (.i 112) (.i 0))))))) gV Bf) (sp (.eq Qb (.lit 13)) (sp (.eq yD (.dat (.p (.i 109) (.p (.i 117) (.p (.i 116) (.p (.i 101) (.p (.i 120) (.i 0)))))))) gV Bf) (sp (.eq Qb (.lit 14)) (sp (.eq yD (.dat (.p (.i 111) (.p (.i 110) (.p (.i 99) (.p (.i 101) (.i 0))))))) gV Bf) (sp (.eq Qb (.lit 15)) (sp (.eq yD (.dat (.p (.i 112) (.p (.i 117) (.p (.i 116) (.i 0)))))) gV Bf) (sp (.eq Qb Qit) (sp (.eq yD (.dat (.p (.i 113) (.p (.i 117) (.p (.i 101) (.p (.i 117) (.p (.i 101) (.i 0)))))))) gV Bf) (sp (.eq Qb (.lit 17)) (sp (.eq yD (.dat (.p (.i 114) (.p (.i 101) (.p (.i 97) (.p (.i 100) (.i 0))))))) gV Bf) (sp (.eq Qb (.lit 18)) (sp (.eq yD (.dat (.p (.i 114) (.p (.i 101) (.p (.i 108) (.p (.i 101) (.p (.i 97) (.p (.i 115) (.p (.i 101) (.i 0)))))))))) gV Bf) (sp (.eq Qb Qhm) (sp (.eq yD (.dat (.p (.i 114) (.p (.i 108) (.p (.i 111) (.p (.i 99) (.p (.i 107) (.i 0)))))))) gV Bf) (sp (.eq Qb TS) (sp (.eq yD (.dat (.p (.i 114) (.p (.i 117) (.p (.i 110) (.p (.i 108) (.p (.i 111) (.p (.i 99) (.p (.i 107) (.i 0)))))))))) gV Bf) (sp (.eq Qb (.lit 21)) (sp (.eq yD (.dat (.p (.i 114) (.p (.i 119) (.p (.i 108) (.p (.i 111) (.p (.i 99) (.p (.i 107) (.i 0))))))))) gV Bf) (sp (.eq Qb (.lit 22)) (sp (.eq yD (.dat (.p (.i 115) (.p (.i 101) (.p (.i 109) (.i 0)))))) gV Bf) (sp (.eq Qb Qhr) (sp (.eq yD (.dat (.p (.i 115) (.p (.i 101) (.p (.i 116) (.i 0)))))) gV Bf) (sp (.eq Qb (.lit 24)) (sp (.eq yD (.dat (.p (.i 115) (.p (.i 105) (.p (.i 103) (.p (.i 110) (.p (.i 97) (.p (.i 108) (.i 0))))))))) gV Bf) (sp (.eq Qb (.lit 25)) (sp (.eq yD (.dat (.p (.i 116) (.p (.i 97) (.p (.i 107) (.p (.i 101) (.i 0))))))) gV Bf) (sp (.eq Qb (.lit 26)) (sp (.eq yD (.dat (.p (.i 116) (.p (.i 104) (.p (.i 114) (.p (.i 101) (.p (.i 97) (.p (.i 100) (.i 0))))))))) gV Bf) (sp (.eq Qb Qf5) (sp (.eq yD (.dat (.p (.i 116) (.p (.i 114) (.p (.i 121) (.p (.i 97) (.p (.i 99) (.p (.i 113) (.p (.i 117) (.p (.i 105) (.p (.i 114) (.p (.i 101) (.i 0))))))))))))) gV Bf) (sp (.eq Qb (.lit 28)) (sp (.eq yD (.dat (.p (.i 116) (.p (.i 114) (.p (.i 121) (.p (.i 108) (.p (.i 111) (.p (.i 99) (.p (.i 107) (.i 0)))))))))) gV Bf) (sp (.eq Qb (.lit 29)) (sp (.eq yD (.dat (.p (.i 117) (.p (.i 110) (.p (.i 108) (.p (.i 111) (.p (.i 99) (.p (.i 107) (.i 0))))))))) gV Bf) (sp (.eq Qb (.lit 30)) (sp (.eq yD (.dat (.p (.i 118) (.p (.i 97) (.p (.i 114) (.i 0)))))) gV Bf) (sp (.eq Qb (.lit 31)) (sp (.eq yD (.dat (.p (.i 119) (.p (.i 97) (.p (.i 105) (.p (.i 116) (.i 0))))))) gV Bf) (sp (.eq Qb (.lit 32)) (sp (.eq yD (.dat (.p (.i 119) (.p (.i 97) (.p (.i 105) (.p (.i 116) (.p (.i 102) (.p (.i 111) (.p (.i 114) (.i 0)))))))))) gV Bf) (sp (.eq Qb (.lit 33)) (sp (.eq yD (.dat (.p (.i 119) (.p (.i 97) (.p (.i 105) (.p (.i 116) (.p (.i 111) (.p (.i 110) (.i 0))))))))) gV Bf) (sp (.eq Qb (.lit 34)) (sp (.eq yD (.dat (.p (.i 119) (.p (.i 108) (.p (.i 111) (.p (.i 99) (.p (.i 107) (.i 0)))))))) gV Bf) (sp (.eq Qb (.lit 35)) (sp (.eq yD (.dat (.p (.i 119) (.p (.i 114) (.p (.i 105) (.p (.i 116) (.p (.i 101) (.i 0)))))))) gV Bf) (sp (.eq yD (.dat (.p (.i 119) (.p (.i 117) (.p (.i 110) (.p (.i 108) (.p (.i 111) (.p (.i 99) (.p (.i 107) (.i 0)))))))))) gV Bf)))))))))))))))))))))))))))))))))))))) bQ
def acN:T Lf:=ju 4851 Qno
abbrev Qtd:SE:=nm Qoq
abbrev Qte:T Lf:=ju 4851 [Qd,Wx]
abbrev Qtf:T Lf:=ju 4852 [Qd,Wx]
abbrev Qtg:List SE:=[Qtd,.dat (.p (.i 9) (.p (.i 10) (.p (.i 13) (.p (.i 32) (.i 0)))))]
def WJ:T Lf:=sp Qop (sp QA fl (sp (.eq Qtd Qhc) Qte (sp (.eq Qtd (.lit 35)) Qtf (sp (.eq (a0 4950 Qtg) Qw) (sp (.eq (rr 4950 Qtg 0) Qa) bQ Qte) fl)))) gV
def acM:T Lf:=sp Qop (sp QA fl (sp (.eq Qtd Qhc) Qte (sp (.eq Qtd (.lit 35)) Qtf Qtf))) gV
def akM:T Lf:=ju 4901 Qeh
def acL:T Lf:=sp Wv (sp FT fl (sp (.eq (a0 4950 [Qek,Qb]) Qw) (sp (.eq (rr 4950 [Qek,Qb] 0) Qa) bQ (ju 4901 Qel)) fl)) gV
def akL:T Lf:=ju 4951 Qeh
def acK:T Lf:=sp (.lt Qk Qc) (sp FT fl (sp Qsw gV (ju 4951 Qel))) bQ
def Y1:T Lf:=ju 22001 Qg
abbrev Qth:SE:=cn (mk qC) kG
abbrev Qti:T Lf:=ju 22002 [Qd,Qa,Qa]
def Y0:T Lf:=sp (.lt Qw qC) (sp (.eq (nm Yv) (.lit 48)) (sp (.lt qC qC) fl (ju 22001 [.op .sub Qd (cn Qf Qth)])) (sp (.lt Qhm qC) Qky (sp (.eq qC Qhm) (sp (.eq (.op .slt (.dat b4) Qd) Qa) Qti Qky) Qti))) Qti
def Ug:T Lf:=sp Wv (sp FT fl (ju 22002 [Qd,wr (.add (wr (.mul Qhc Qb)) (wr (.wrap .u8 (.sub Qek (.lit 48))))),Dn])) (ou [Qb,Qw])
abbrev Qtj:List SE:=[Qd,Qb,Qk,Qi]
def akJ:T Lf:=sp (.eq (a0 5400 Qtj) Qw) (sp (.lt (rr 5400 Qtj 3) Qa) (ou [rr 5400 Qtj 0,rr 5400 Qtj 1,rr 5400 Qtj 2,Qa]) (ou [rr 5400 Qtj 0,rr 5400 Qtj 1,rr 5400 Qtj 2,Qw])) fl
abbrev Qtk:SE:=wr (.sub bY Qw)
def akI:T Lf:=sp (.lt Qtk Qa) (ou [Qtk,fF,Qa]) (sp (.lt TS bJ) (ou [Qtk,fF,Qa]) (ju 5051 [bJ,Qi,Qey,Qa,Qtk,fF,Qd,Qb,Qk]))
abbrev Qtl:List SE:=[Qc0,ce 1 Qo,Qc2,ce 3 Qo,Qjn,bJ,bY]
abbrev Qtm:SE:=.op .norm kJ Qa
abbrev Qtn:T Lf:=ou [bJ,bY,Qa]
abbrev Qto:T Lf:=ou [bJ,bY,Qw]
def acJ:T Lf:=sp Ql (sp Qm fl (sp Qn (sp (.eq (a0 5050 Qtl) Qw) (sp (.eq (rr 5050 Qtl 2) Qa) (ou [rr 5050 Qtl 0,rr 5050 Qtl 1,Qa]) (ju 5051 [Qd,Qb,Qk,Qx,rr 5050 Qtl 0,rr 5050 Qtl 1,fF,kJ,nJ])) fl) fl)) (sp (.eq fF Qw) (sp (.eq Qc Qa) (sp (.eq Qtm kG) (sp Qjt Qtn Qto) Qtn) Qtn) (sp (.eq fF gW) (sp (.eq Qc Qa) (sp Qjt Qtn (sp (.lt nJ bY) (sp (.eq (a0 12900 [kJ,Qa]) Qw) (sp (.eq (rr 12900 [kJ,Qa] 0) Qa) Qtn (sp (.eq (rr 12900 [kJ,Qa] 0) Qw) Qto fl)) fl) Qtn)) Qtn) (sp (.eq fF uV) (sp Qlx (sp (.eq Qc Qw) (sp (.eq Qtm Qn4) Qto Qtn) (sp (.eq Qc gW) (sp (.eq Qtm Qn5) Qto (sp (.eq Qtm Qn4) Qto (sp (.eq Qtm Qn6) Qto (sp (.eq Qtm Qn7) Qto (sp (.eq Qtm Qn8) Qto Qtn))))) Qtn)) Qtn) Qtn)))
def akH:T Lf:=ju 5101 LW
def ayG:T Lf:=ou [Qb]
def akG:T Lf:=ju 5151 LW
def ayF:T Lf:=ou [Qd,Qb,Qw]
def akF:T Lf:=ju 5201 LW
def ayE:T Lf:=ou [Qw,Qd,Qb,Qw]
def akE:T Lf:=ju 5251 [Qb,Qd,qC,Qa,Qk]
abbrev Qtp:SB:=.eq (a0 1150 [Qc0,ce 1 Qo,Qc2,ce 3 Qo]) Qw
abbrev Qtq:SB:=.eq (rr 1150 [Qc0,ce 1 Qo,Qc2,ce 3 Qo] 0) Qa
abbrev Qtr:SB:=.eq (a0 5450 [ce 3 Qo,Qjn,Qs6]) Qw
abbrev Qts:List SE:=[Qd,Qb,Qk,Qx,rr 5450 [ce 3 Qo,Qjn,Qs6] 0]
def acI:T Lf:=sp Ql (sp Qm fl (sp Qn (sp (.lt Qlu Qs6) fl (sp (.lt TS Qd) fl (sp Qtp (sp Qtq fl (sp Qtr (ju 5251 Qts) fl)) fl))) fl)) (ou [bJ,Qb])
def akD:T Lf:=ju 5301 [Qd,Qa,Qb,Qk,Qi]
abbrev Qtt:List SE:=[Qos,Qi,bJ]
abbrev Qtu:T Lf:=sp (.eq (a0 5500 Qtt) Qw) (sp (.eq (rr 5500 Qtt 2) Qa) (ou [Qk,rr 5500 Qtt 0,rr 5500 Qtt 1,Qa]) (ju 5301 [Qd,Wx,Qk,rr 5500 Qtt 0,rr 5500 Qtt 1])) fl
def acH:T Lf:=sp (.lt Qb Qd) (sp QA fl (sp Qok (sp (.eq Qom gW) (sp (.eq (.op .NK bJ Qor) Qa) (ou [Qk,Qi,bJ,Qa]) (sp (.eq (nm (.op .NP bJ Qor)) Qa) (ou [Qk,Qi,bJ,Qa]) Qtu)) Qtu) fl)) (ou [Qk,Qi,bJ,Qw])
def akC:T Lf:=ju 5351 [Qd,Qa,Qb,Qw,Qk,Qi]
abbrev Qtv:T Lf:=ou [Qk,Qi,bJ,bY,Qa]
abbrev Qtw:List SE:=[Qos,Qi,bJ,bY]
abbrev Qtx:T Lf:=sp (.eq (a0 5600 Qtw) Qw) (sp (.eq (rr 5600 Qtw 3) Qa) (ou [Qk,rr 5600 Qtw 0,rr 5600 Qtw 1,rr 5600 Qtw 2,Qa]) (ju 5351 [Qd,Wx,Qk,rr 5600 Qtw 0,rr 5600 Qtw 1,rr 5600 Qtw 2])) fl
def acG:T Lf:=sp (.lt Qb Qd) (sp QA fl (sp Qok (sp (.eq Qom gW) (sp (.eq (.op .NK bY Qor) Qa) Qtv (sp (.eq (nm (.op .NP bY Qor)) Qa) Qtv Qtx)) Qtx) fl)) (ou [Qk,Qi,bJ,bY,Qw])
def akB:T Lf:=ju 5401 [Qd,qC,Qa,Qb,Qk,Qi]
def acF:T Lf:=sp YO (sp FT fl (sp Wv (sp (.eq (a0 800 [Qe1,Qe2,Qez,Qe3,Qdq]) Qw) (sp (.eq (rr 800 [Qe1,Qe2,Qez,Qe3,Qdq] 0) Qa) (ou [Qi,bJ,bY,Qk]) (ju 5401 [Qd,Qb,Dn,Qi,bJ,bY])) fl) fl)) (ou [Qi,bJ,bY,Qh5])
def akA:T Lf:=ju 5451 [Qb,Qd,qC,Qa,Qk]
def ajZ:T Lf:=sp Ql (sp Qm fl (sp Qn (sp (.lt Qlu Qs6) fl (sp (.lt TS Qd) fl (sp Qtp (sp Qtq fl (sp Qtr (ju 5451 Qts) fl)) fl))) fl)) (ou [bJ])
def ajX:T Lf:=ju 5501 [Qd,qC,Qa,Qb,Qk]
abbrev Qty:List SE:=[Qe3,Qi,bJ]
abbrev Qtz:T Lf:=sp (.eq (a0 5500 Qty) Qw) (sp (.eq (rr 5500 Qty 2) Qa) (ou [rr 5500 Qty 0,rr 5500 Qty 1,Qa]) (ju 5501 [Qd,Qb,Dn,rr 5500 Qty 0,rr 5500 Qty 1])) fl
def ajW:T Lf:=sp YO (sp FT fl (sp Wv (sp (.eq Qe1 gW) (sp (.eq (.op .NK bJ Qe2) Qa) (ou [Qi,bJ,Qa]) (sp (.eq (nm (.op .NP bJ Qe2)) Qa) (ou [Qi,bJ,Qa]) Qtz)) Qtz) fl)) (ou [Qi,bJ,Qw])
def ayD:T Lf:=ju 5551 [Qd,qC,Qa,Qw,Qb,Qk]
abbrev Qt0:SB:=.eq (.op .NK bY Qe2) Qa
abbrev Qt1:T Lf:=ou [Qi,bJ,bY,Qa]
abbrev Qt2:SB:=.eq (nm (.op .NP bY Qe2)) Qa
abbrev Qt3:List SE:=[Qe3,Qi,bJ,bY]
abbrev Qt4:SB:=.eq (rr 5600 Qt3 3) Qa
abbrev Qt5:T Lf:=ou [rr 5600 Qt3 0,rr 5600 Qt3 1,rr 5600 Qt3 2,Qa]
abbrev Qt6:List SE:=[Qd,Qb,Dn,rr 5600 Qt3 0,rr 5600 Qt3 1,rr 5600 Qt3 2]
abbrev Qt7:T Lf:=sp (.eq (a0 5600 Qt3) Qw) (sp Qt4 Qt5 (ju 5551 Qt6)) fl
def ayC:T Lf:=sp YO (sp FT fl (sp Wv (sp (.eq Qe1 gW) (sp Qt0 Qt1 (sp Qt2 Qt1 Qt7)) Qt7) fl)) (ou [Qi,bJ,bY,Qw])
def ajV:T Lf:=ju 5601 [Qd,qC,Qa,Qb,Qk,Qi]
abbrev Qt8:T Lf:=sp (.eq (a0 5600 Qt3) Qw) (sp Qt4 Qt5 (ju 5601 Qt6)) fl
def ajU:T Lf:=sp YO (sp FT fl (sp Wv (sp (.eq Qe1 gW) (sp Qt0 Qt1 (sp Qt2 Qt1 Qt8)) Qt8) fl)) (ou [Qi,bJ,bY,Qw])
abbrev Qt9:List SE:=[Qd,Qb,Qk,Qi,bJ,bY,fF,kJ,nJ,uQ,Ky,FN,Yw]
abbrev Qua:SE:=rr 12050 Qt9 14
abbrev Qub:T Lf:=ou [Qa,Qd,Qb,Qk,Qi,bJ,bY,fF,kJ,nJ,uQ,Ky,FN,Yw]
def Ur:T Lf:=sp (.eq (a0 12050 Qt9) Qw) (sp (.eq (rr 12050 Qt9 0) Qa) (sp (.eq Qua Qh5) Qub (ju 12001 [Qd,Qb,Qk,Qi,bJ,bY,fF,kJ,nJ,uQ,Ky,FN,Yw,Qd,Qua,wr (.add Qua Qw)])) fl) fl
abbrev Quc:SB:=.eq (nm (el Qed Qef)) Qb
abbrev Qud:List SE:=[Qd,Qb,Qk,Qi,bJ,bY,fF,kJ,nJ,uQ,Ky,FN,Yw,Qed,PL,wr (.add Qef Qw)]
abbrev Que:SB:=.lt PL Qa
abbrev Quf:List SE:=[Qd,Qb,Qk,Qi,bJ,bY,fF,kJ,nJ,uQ,Ky,FN,Yw,.op .set Qed (cn (mk PL) (mk (nm (el Qed Qef)))),wr (.add PL Qw),wr (.add Qef Qw)]
abbrev Qug:T Lf:=sp Que fl (sp (.lt Qka PL) fl (sp (.lt (.sub Qka PL) Qa) fl (sp (.eq (.add PL (.sub Qka PL)) Qka) (ou [Qw,Qd,Qb,Qk,Qi,bJ,bY,fF,kJ,nJ,uQ,Ky,FN,Yw,PL,.op .fill Qed (cn (mk PL) kG),Qka]) fl)))
def MJ:T Lf:=sp (.lt Qef Qka) (sp (.lt Qef Qa) fl (sp Quc (ju 12001 Qud) (sp Que fl (sp (.lt PL Qka) (ju 12001 Quf) fl)))) Qug
abbrev Quh:List SE:=[Qd,Qb,Qk,Qi,bJ,bY,fF,kJ,nJ,uQ,Ky,FN,Yw,qC,Qa]
def Zh:T Lf:=ju 12051 Quh
abbrev Qui:SB:=.eq (nm (el Qd PL)) Qb
abbrev Quj:T Lf:=ou [Qa,Qd,Qb,Qk,Qi,bJ,bY,fF,kJ,nJ,uQ,Ky,FN,Yw,PL]
abbrev Quk:List SE:=[Qd,Qb,Qk,Qi,bJ,bY,fF,kJ,nJ,uQ,Ky,FN,Yw,Qed,wr (.add PL Qw)]
abbrev Qul:T Lf:=ou [Qa,Qd,Qb,Qk,Qi,bJ,bY,fF,kJ,nJ,uQ,Ky,FN,Yw,Qh5]
def MI:T Lf:=sp (.lt PL Qed) (sp Que fl (sp (.lt PL qC) (sp Qui Quj (ju 12051 Quk)) fl)) Qul
abbrev Qum:SE:=rr 12150 Qt9 14
def Uo:T Lf:=sp (.eq (a0 12150 Qt9) Qw) (sp (.eq (rr 12150 Qt9 0) Qa) (sp (.eq Qum Qh5) Qub (ju 12101 [Qd,Qb,Qk,Qi,bJ,bY,fF,kJ,nJ,uQ,Ky,FN,Yw,Qd,Qum,wr (.add Qum Qw)])) fl) fl
def MH:T Lf:=sp (.lt Qef Qka) (sp (.lt Qef Qa) fl (sp Quc (ju 12101 Qud) (sp Que fl (sp (.lt PL Qka) (ju 12101 Quf) fl)))) Qug
def Zg:T Lf:=ju 12151 Quh
def MG:T Lf:=sp (.lt PL Qed) (sp Que fl (sp (.lt PL qC) (sp Qui Quj (ju 12151 Quk)) fl)) Qul
def Zf:T Lf:=sp (.eq (a0 12250 Qt9) Qw) (sp (.eq (rr 12250 Qt9 0) Qa) Qub fl) fl
def Ze:T Lf:=ju 12251 Qt9
def Zd:T Lf:=ou [Qa,Qd,Qb,Qk,Qi,bJ,bY,fF,kJ,nJ,uQ,Ky,FN,Yw]
def Zc:T Lf:=sp (.eq (a0 12350 Qt9) Qw) (sp (.eq (rr 12350 Qt9 0) Qa) Qub fl) fl
def Zb:T Lf:=ju 12351 Qt9
def Za:T Lf:=ou [Qa,Qd,Qb,Qk,Qi,bJ,bY,fF,kJ,nJ,uQ,Ky,FN,Yw]
abbrev Qun:SB:=.eq (a0 1400 [Qd,Qmh,Qb,kG,Qk]) Qw
abbrev Quo:SB:=.eq (rr 1400 [Qd,Qmh,Qb,kG,Qk] 0) Qa
abbrev Qup:T Lf:=ou [Qa,Qd,Qb,Qk,Qi,bJ,bY,fF]
abbrev Quq:SB:=.lt Qhr bJ
abbrev Qur:SB:=.eq bY Qa
abbrev Qus:SB:=.eq (a0 1250 [bJ]) Qw
abbrev Qut:SB:=.eq (rr 1250 [bJ] 0) Qa
abbrev Quu:SB:=.eq (a0 1300 [bJ]) Qw
abbrev Quv:SB:=.eq (rr 1300 [bJ] 0) Qa
abbrev Quw:SB:=.eq (a0 5100 [gW,Qw]) Qw
abbrev Qux:T Lf:=sp Quw (ou [Qw,Qd,Qb,Qk,Qi,bJ,bY,fF]) fl
abbrev Quy:SB:=.eq (a0 1000 [kG]) Qw
abbrev Quz:SB:=.eq (rr 1000 [kG] 0) Qa
def Y9:T Lf:=sp Qun (sp Quo Qup (sp Qd1 Qup (sp Quq Qup (sp Qur (sp Qus (sp Qut (sp Quu (sp Quv Qux (sp Quy (sp Quz Qup Qux) fl)) fl) Qup) fl) Qup)))) fl
abbrev Qu0:SE:=.dat (.p (.i 98) (.i 0))
abbrev Qu1:SB:=.eq (a0 1400 [Qw,Qu0,Qd,kG,Qb]) Qw
abbrev Qu2:SB:=.eq (rr 1400 [Qw,Qu0,Qd,kG,Qb] 0) Qa
abbrev Qu3:T Lf:=ou [Qa,Qd,Qb,Qk,Qi,bJ,bY,fF,kJ,nJ]
abbrev Qu4:SB:=.eq (a0 1400 [Qk,Qmh,Qi,Qu0,bJ]) Qw
abbrev Qu5:SB:=.eq (rr 1400 [Qk,Qmh,Qi,Qu0,bJ] 0) Qa
abbrev Qu6:SB:=.eq (a0 1250 [fF]) Qw
abbrev Qu7:SB:=.eq (rr 1250 [fF] 0) Qa
abbrev Qu8:SB:=.eq (a0 1300 [fF]) Qw
abbrev Qu9:SB:=.eq (rr 1300 [fF] 0) Qa
abbrev Qva:T Lf:=sp Quw (ou [Qw,Qd,Qb,Qk,Qi,bJ,bY,fF,kJ,nJ]) fl
def Y8:T Lf:=sp Qu1 (sp Qu2 Qu3 (sp Qu4 (sp Qu5 Qu3 (sp Qso Qu3 (sp Qsp Qu3 (sp Qjx (sp Qu6 (sp Qu7 (sp Qu8 (sp Qu9 Qva (sp Quy (sp Quz Qu3 Qva) fl)) fl) Qu3) fl) Qu3)))) fl)) fl
def Y7:T Lf:=sp Qun (sp Quo Qup (sp Qd1 Qup (sp Quq Qup (sp Qur (sp Qus (sp Qut (sp Quu (sp Quv Qup Qux) fl) Qup) fl) Qup)))) fl
def Y6:T Lf:=sp Qu1 (sp Qu2 Qu3 (sp Qu4 (sp Qu5 Qu3 (sp Qso Qu3 (sp Qsp Qu3 (sp Qjx (sp Qu6 (sp Qu7 (sp Qu8 (sp Qu9 Qu3 Qva) fl) Qu3) fl) Qu3)))) fl)) fl
abbrev Qvb:T Lf:=ou [Qa,Qd,Qb,Qk,Qi,bJ,bY,fF,kJ]
abbrev Qvc:SB:=.eq (ln fF) (rr 1250 [bJ] 0)
abbrev Qvd:T Lf:=sp (.eq (a0 5250 [fF,gW,Qw]) Qw) (ou [Qw,Qd,Qb,Qk,Qi,bJ,bY,fF,kJ,ln fF,rr 5250 [fF,gW,Qw] 1]) fl
def Un:T Lf:=sp Qun (sp Quo Qvb (sp Qd1 Qvb (sp Quq Qvb (sp Qur (sp Qus (sp Qvc (sp Quu (sp Quv Qvd (sp Quy (sp Quz Qvb Qvd) fl)) fl) Qvb) fl) Qvb)))) fl
abbrev Qve:T Lf:=ou [Qa,Qd,Qb,Qk,Qi,bJ,bY,fF,kJ,nJ,uQ]
abbrev Qvf:SB:=.eq (ln nJ) (rr 1250 [fF] 0)
abbrev Qvg:T Lf:=sp (.eq (a0 5250 [nJ,gW,Qw]) Qw) (ou [Qw,Qd,Qb,Qk,Qi,bJ,bY,fF,kJ,nJ,uQ,ln nJ,rr 5250 [nJ,gW,Qw] 1]) fl
def Um:T Lf:=sp Qu1 (sp Qu2 Qve (sp Qu4 (sp Qu5 Qve (sp Qso Qve (sp Qsp Qve (sp Qjx (sp Qu6 (sp Qvf (sp Qu8 (sp Qu9 Qvg (sp Quy (sp Quz Qve Qvg) fl)) fl) Qve) fl) Qve)))) fl)) fl
def Ul:T Lf:=sp Qun (sp Quo Qvb (sp Qd1 Qvb (sp Quq Qvb (sp Qur (sp Qus (sp Qvc (sp Quu (sp Quv Qvb Qvd) fl) Qvb) fl) Qvb)))) fl
def Uk:T Lf:=sp Qu1 (sp Qu2 Qve (sp Qu4 (sp Qu5 Qve (sp Qso Qve (sp Qsp Qve (sp Qjx (sp Qu6 (sp Qvf (sp Qu8 (sp Qu9 Qve Qvg) fl) Qve) fl) Qve)))) fl)) fl
def Uj:T Lf:=ju 12801 [Qd,Qb,Qb]
abbrev Qvh:SE:=.op .idx (.op .sub Qd (cn Qkf Qth)) Qhc
def MF:T Lf:=sp Wv (sp FT fl (sp (.lt Qek Qa) fl (sp (.lt Qek Qnw) (sp (.eq (nm (el (.dat b0) Qek)) Qw) (ju 12801 Qel) (sp (.eq (nm (el (.dat b0) Qek)) gW) (sp (.lt qC qC) fl (sp (.lt Qvh Qa) (ou [Qa,Qd,Qb,qC]) (ju 12801 [Qd,Qb,wr (.add Qk Qvh)]))) (ou [Qa,Qd,Qb,Qk]))) fl))) (ou [Qa,Qd,Qb,Qk])
abbrev Qvi:SE:=.op .norm (.op .sub Qd (cn (mk Qb) Qth)) Qa
abbrev Qvj:T Lf:=ou [Qa,Qd,Qb,wr (.add Wx Qw)]
abbrev Qvk:SE:=.op .norm (.op .sub Qd (cn (mk Qb) (cn (mk Qs3) kG))) Qa
def MC:T Lf:=sp QA fl (sp Qop (sp (.lt Qtd Qa) fl (sp (.lt Qtd Qnw) (sp (.eq (nm (el (.dat b0) Qtd)) Yz) (sp (.lt qC Qs3) (sp (.lt qC qC) fl (sp (.eq Qvi Qs9) Qvj (sp (.eq Qvi Qn7) Qvj (ou [Qa,Qd,Qb,Wx])))) (sp (.lt Qs3 Qb) fl (sp (.eq Qvk Qs9) Qvj (sp (.eq Qvk Qn7) Qvj (ou [Qa,Qd,Qb,Wx]))))) (ju 12851 [Qd,Qb,nm (el (.dat b0) Qtd),Wx])) fl)) fl)
abbrev Qvl:T Lf:=ou [Qa,Qd,Qb,Qi]
def IC:T Lf:=sp Qd5 (sp Qm fl (sp (.lt Qlw Qa) fl (sp (.lt Qlw Qnw) (sp (.eq (nm (el (.dat b0) Qlw)) uV) (ju 12851 Qeg) (sp (.eq (nm (el (.dat b0) Qlw)) YP) (sp (.eq Qk YP) (ju 12851 Qeg) Qvl) Qvl)) fl))) Qvl
def Y4:T Lf:=ju 20001 Qg
def Y3:T Lf:=ou [Qa,Qd]
def Y2:T Lf:=ju 20051 Qeh
def Ui:T Lf:=sp Wv (sp FT fl (sp (.eq Qek Qb) (ju 20051 Qel) (ju 20052 [Qd,Qb,.op .snoc kG (mk Qek),Dn]))) Q7
def Uh:T Lf:=sp Qd5 (sp Qm fl (sp (.eq Qlw Qb) (ju 20052 Qeg) (sp (.lt Qcw Qgr) (ju 20052 [Qd,Qb,.op .snoc Qk (mk Qlw),Qx]) fl))) (ou [Qw,Qd,Qb,Qk])
def Y5:T Lf:=sp (.eq (a0 1000 Qg) Qw) (sp (.eq (rr 1000 Qg 0) Qa) Q7 (ou [Qw,Qd,Qb])) fl
end
theorem apR:S.tree 9000=QL:=by kernel_rfl
theorem X6:S.tree 9001=vW:=by kernel_rfl
theorem ayT:S.tree 9002=ajS:=by kernel_rfl
theorem ayS:S.tree 9003=ajR:=by kernel_rfl
theorem apQ:S.tree 9004=acE:=by kernel_rfl
theorem apP:S.tree 9005=acD:=by kernel_rfl
theorem apO:S.tree 9006=acC:=by kernel_rfl
theorem apN:S.tree 9007=acB:=by kernel_rfl
theorem apM:S.tree 9050=acA:=by kernel_rfl
theorem apL:S.tree 9051=QK:=by kernel_rfl
theorem apK:S.tree 9052=abZ:=by kernel_rfl
theorem apJ:S.tree 9053=abY:=by kernel_rfl
theorem apI:S.tree 9054=abX:=by kernel_rfl
theorem apH:S.tree 9055=abW:=by kernel_rfl
theorem X5:S.tree 9056=QJ:=by kernel_rfl
theorem e100:S.tree 100=aDS:=by kernel_rfl
theorem axE:S.tree 101=aDR:=by kernel_rfl
theorem axD:S.tree 102=aDQ:=by kernel_rfl
theorem aDi:S.tree 103=aDP:=by kernel_rfl
theorem aDh:S.tree 150=aDO:=by kernel_rfl
theorem axC:S.tree 151=aDN:=by kernel_rfl
theorem aDg:S.tree 200=auB:=by kernel_rfl
theorem VG:S.tree 201=t201:=by kernel_rfl
theorem axB:S.tree 202=alF:=by kernel_rfl
theorem e250:S.tree 250=auA:=by kernel_rfl
theorem e251:S.tree 251=alE:=by kernel_rfl
theorem e300:S.tree 300=alD:=by kernel_rfl
theorem e301:S.tree 301=YZ:=by kernel_rfl
theorem e302:S.tree 302=atZ:=by kernel_rfl
theorem axA:S.tree 350=alC:=by kernel_rfl
theorem awZ:S.tree 351=YX:=by kernel_rfl
theorem aDf:S.tree 400=lF:=by kernel_rfl
theorem aFF:S.tree 450=aBx:=by kernel_rfl
theorem aDe:S.tree 451=atY:=by kernel_rfl
theorem aDd:S.tree 452=atX:=by kernel_rfl
theorem aDc:S.tree 453=atW:=by kernel_rfl
theorem aDb:S.tree 454=atV:=by kernel_rfl
theorem aDa:S.tree 455=atU:=by kernel_rfl
theorem aC9:S.tree 456=atT:=by kernel_rfl
theorem aC8:S.tree 500=akK:=by kernel_rfl
theorem apX:S.tree 501=YW:=by kernel_rfl
theorem aFE:S.tree 550=ajY:=by kernel_rfl
theorem aC7:S.tree 551=atS:=by kernel_rfl
theorem aFD:S.tree 552=aDM:=by kernel_rfl
theorem aFC:S.tree 553=aDL:=by kernel_rfl
theorem aFz:S.tree 600=aBw:=by kernel_rfl
theorem aC6:S.tree 650=atQ:=by kernel_rfl
theorem aFy:S.tree 700=aBv:=by kernel_rfl
theorem P6:S.tree 750=Me:=by kernel_rfl
theorem aFx:S.tree 800=aBu:=by kernel_rfl
theorem aFw:S.tree 850=aBt:=by kernel_rfl
theorem aC5:S.tree 851=ajT:=by kernel_rfl
theorem aFv:S.tree 900=aBs:=by kernel_rfl
theorem aFu:S.tree 950=aBr:=by kernel_rfl
theorem KI:S.tree 951=IB:=by kernel_rfl
theorem KH:S.tree 952=Iz:=by kernel_rfl
theorem KG:S.tree 953=vV:=by kernel_rfl
theorem KF:S.tree 954=vU:=by kernel_rfl
theorem aAn:S.tree 1000=alM:=by kernel_rfl
theorem afO:S.tree 1050=WR:=by kernel_rfl
theorem aAm:S.tree 1100=alL:=by kernel_rfl
theorem aAl:S.tree 1101=ayH:=by kernel_rfl
theorem arQ:S.tree 1102=adF:=by kernel_rfl
theorem aAk:S.tree 1150=alK:=by kernel_rfl
theorem aAj:S.tree 1200=alJ:=by kernel_rfl
theorem aAi:S.tree 1250=alI:=by kernel_rfl
theorem aAh:S.tree 1300=alH:=by kernel_rfl
theorem aAg:S.tree 1350=alG:=by kernel_rfl
theorem afN:S.tree 1400=WQ:=by kernel_rfl
theorem aAf:S.tree 3750=alB:=by kernel_rfl
theorem afM:S.tree 3751=JA:=by kernel_rfl
theorem aqT:S.tree 3752=MB:=by kernel_rfl
theorem aAe:S.tree 3800=alA:=by kernel_rfl
theorem aqS:S.tree 3801=adE:=by kernel_rfl
theorem afL:S.tree 3850=WO:=by kernel_rfl
theorem aqR:S.tree 3851=adD:=by kernel_rfl
theorem aqQ:S.tree 3852=adC:=by kernel_rfl
theorem aAd:S.tree 3900=akZ:=by kernel_rfl
theorem aqP:S.tree 3901=WM:=by kernel_rfl
theorem aAc:S.tree 3950=akY:=by kernel_rfl
theorem aAb:S.tree 3951=adB:=by kernel_rfl
theorem aqO:S.tree 3952=adA:=by kernel_rfl
theorem oV:S.tree 4000=nP:=by kernel_rfl
theorem aAa:S.tree 4050=akX:=by kernel_rfl
theorem aqN:S.tree 4051=acZ:=by kernel_rfl
theorem aqM:S.tree 4052=acY:=by kernel_rfl
theorem aqL:S.tree 4053=acX:=by kernel_rfl
theorem aqK:S.tree 4054=QO:=by kernel_rfl
theorem azZ:S.tree 4100=QN:=by kernel_rfl
theorem aqJ:S.tree 4101=acW:=by kernel_rfl
theorem azY:S.tree 4150=akW:=by kernel_rfl
theorem azX:S.tree 4200=akV:=by kernel_rfl
theorem EG:S.tree 4250=BF:=by kernel_rfl
theorem aqI:S.tree 4300=acV:=by kernel_rfl
theorem aqH:S.tree 4301=acU:=by kernel_rfl
theorem azW:S.tree 4350=akU:=by kernel_rfl
theorem aqG:S.tree 4351=acT:=by kernel_rfl
theorem azV:S.tree 4400=akT:=by kernel_rfl
theorem aqF:S.tree 4401=acS:=by kernel_rfl
theorem azU:S.tree 4450=akS:=by kernel_rfl
theorem azT:S.tree 4500=akR:=by kernel_rfl
theorem azS:S.tree 4550=akQ:=by kernel_rfl
theorem azR:S.tree 4600=akP:=by kernel_rfl
theorem azQ:S.tree 4650=akO:=by kernel_rfl
theorem aqE:S.tree 4700=acR:=by kernel_rfl
theorem afK:S.tree 4701=WL:=by kernel_rfl
theorem aqD:S.tree 4702=acQ:=by kernel_rfl
theorem X7:S.tree 4703=QM:=by kernel_rfl
theorem azP:S.tree 4750=acP:=by kernel_rfl
theorem azO:S.tree 4800=akN:=by kernel_rfl
theorem aqC:S.tree 4801=acO:=by kernel_rfl
theorem aqB:S.tree 4850=acN:=by kernel_rfl
theorem afJ:S.tree 4851=WJ:=by kernel_rfl
theorem aqA:S.tree 4852=acM:=by kernel_rfl
theorem azN:S.tree 4900=akM:=by kernel_rfl
theorem apZ:S.tree 4901=acL:=by kernel_rfl
theorem azM:S.tree 4950=akL:=by kernel_rfl
theorem apY:S.tree 4951=acK:=by kernel_rfl
theorem aqV:S.tree 22000=Y1:=by kernel_rfl
theorem aqU:S.tree 22001=Y0:=by kernel_rfl
theorem aaV:S.tree 22002=Ug:=by kernel_rfl
theorem azL:S.tree 5000=akJ:=by kernel_rfl
theorem azK:S.tree 5050=akI:=by kernel_rfl
theorem apW:S.tree 5051=acJ:=by kernel_rfl
theorem azJ:S.tree 5100=akH:=by kernel_rfl
theorem azI:S.tree 5101=ayG:=by kernel_rfl
theorem azH:S.tree 5150=akG:=by kernel_rfl
theorem azG:S.tree 5151=ayF:=by kernel_rfl
theorem azF:S.tree 5200=akF:=by kernel_rfl
theorem azE:S.tree 5201=ayE:=by kernel_rfl
theorem azD:S.tree 5250=akE:=by kernel_rfl
theorem apV:S.tree 5251=acI:=by kernel_rfl
theorem azC:S.tree 5300=akD:=by kernel_rfl
theorem apU:S.tree 5301=acH:=by kernel_rfl
theorem azB:S.tree 5350=akC:=by kernel_rfl
theorem apT:S.tree 5351=acG:=by kernel_rfl
theorem azA:S.tree 5400=akB:=by kernel_rfl
theorem apS:S.tree 5401=acF:=by kernel_rfl
theorem ayZ:S.tree 5450=akA:=by kernel_rfl
theorem ayY:S.tree 5451=ajZ:=by kernel_rfl
theorem ayX:S.tree 5500=ajX:=by kernel_rfl
theorem ayW:S.tree 5501=ajW:=by kernel_rfl
theorem aFB:S.tree 5550=ayD:=by kernel_rfl
theorem aFA:S.tree 5551=ayC:=by kernel_rfl
theorem ayV:S.tree 5600=ajV:=by kernel_rfl
theorem ayU:S.tree 5601=ajU:=by kernel_rfl
theorem abD:S.tree 12000=Ur:=by kernel_rfl
theorem VK:S.tree 12001=MJ:=by kernel_rfl
theorem arP:S.tree 12050=Zh:=by kernel_rfl
theorem abC:S.tree 12051=MI:=by kernel_rfl
theorem abB:S.tree 12100=Uo:=by kernel_rfl
theorem VJ:S.tree 12101=MH:=by kernel_rfl
theorem arO:S.tree 12150=Zg:=by kernel_rfl
theorem abA:S.tree 12151=MG:=by kernel_rfl
theorem arN:S.tree 12200=Zf:=by kernel_rfl
theorem arM:S.tree 12250=Ze:=by kernel_rfl
theorem arL:S.tree 12251=Zd:=by kernel_rfl
theorem arK:S.tree 12300=Zc:=by kernel_rfl
theorem arJ:S.tree 12350=Zb:=by kernel_rfl
theorem arI:S.tree 12351=Za:=by kernel_rfl
theorem arH:S.tree 12400=Y9:=by kernel_rfl
theorem arG:S.tree 12450=Y8:=by kernel_rfl
theorem arF:S.tree 12500=Y7:=by kernel_rfl
theorem arE:S.tree 12550=Y6:=by kernel_rfl
theorem arD:S.tree 12600=Un:=by kernel_rfl
theorem arC:S.tree 12650=Um:=by kernel_rfl
theorem arB:S.tree 12700=Ul:=by kernel_rfl
theorem arA:S.tree 12750=Uk:=by kernel_rfl
theorem aaZ:S.tree 12800=Uj:=by kernel_rfl
theorem aaY:S.tree 12801=MF:=by kernel_rfl
theorem VI:S.tree 12850=MC:=by kernel_rfl
theorem VH:S.tree 12851=IC:=by kernel_rfl
theorem aqY:S.tree 20000=Y4:=by kernel_rfl
theorem aqX:S.tree 20001=Y3:=by kernel_rfl
theorem aqW:S.tree 20050=Y2:=by kernel_rfl
theorem aaX:S.tree 20051=Ui:=by kernel_rfl
theorem aaW:S.tree 20052=Uh:=by kernel_rfl
theorem aqZ:S.tree 12900=Y5:=by kernel_rfl
end Go.As.Try
end
section
namespace Go.As.Try
open Go hiding Stat Spec shape
open Go.As Go.Proofs
set_option maxRecDepth 100000
def listed:List Nat:=[9000,9001,9002,9003,9004,9005,9006,9007,9050,9051,9052,9053,9054,9055,9056,100,101,102,103,150,151,200,201,202,250,251,300,301,302,350,351,400,450,451,452,453,454,455,456,500,501,550,551,552,553,600,650,700,750,800,850,851,900,950,951,952,953,954,1000,1050,1100,1101,1102,1150,1200,1250,1300,1350,1400,3750,3751,3752,3800,3801,3850,3851,3852,3900,3901,3950,3951,3952,4000,4050,4051,4052,4053,4054,4100,4101,4150,4200,4250,4300,4301,4350,4351,4400,4401,4450,4500,4550,4600,4650,4700,4701,4702,4703,4750,4800,4801,4850,4851,4852,4900,4901,4950,4951,22000,22001,22002,5000,5050,5051,5100,5101,5150,5151,5200,5201,5250,5251,5300,5301,5350,5351,5400,5401,5450,5451,5500,5501,5550,5551,5600,5601,12000,12001,12050,12051,12100,12101,12150,12151,12200,12250,12251,12300,12350,12351,12400,12450,12500,12550,12600,12650,12700,12750,12800,12801,12850,12851,20000,20001,20050,20051,20052,12900]
noncomputable def trees:List (T Lf):=[QL,vW,ajS,ajR,acE,acD,acC,acB,acA,QK,abZ,abY,abX,abW,QJ,aDS,aDR,aDQ,aDP,aDO,aDN,auB,t201,alF,auA,alE,alD,YZ,atZ,alC,YX,lF,aBx,atY,atX,atW,atV,atU,atT,akK,YW,ajY,atS,aDM,aDL,aBw,atQ,aBv,Me,aBu,aBt,ajT,aBs,aBr,IB,Iz,vV,vU,alM,WR,alL,ayH,adF,alK,alJ,alI,alH,alG,WQ,alB,JA,MB,alA,adE,WO,adD,adC,akZ,WM,akY,adB,adA,nP,akX,acZ,acY,acX,QO,QN,acW,akW,akV,BF,acV,acU,akU,acT,akT,acS,akS,akR,akQ,akP,akO,acR,WL,acQ,QM,acP,akN,acO,acN,WJ,acM,akM,acL,akL,acK,Y1,Y0,Ug,akJ,akI,acJ,akH,ayG,akG,ayF,akF,ayE,akE,acI,akD,acH,akC,acG,akB,acF,akA,ajZ,ajX,ajW,ayD,ayC,ajV,ajU,Ur,MJ,Zh,MI,Uo,MH,Zg,MG,Zf,Ze,Zd,Zc,Zb,Za,Y9,Y8,Y7,Y6,Un,Um,Ul,Uk,Uj,MF,MC,IC,Y4,Y3,Y2,Ui,Uh,Y5]
theorem ahK:listed.map S.tree=trees:=by simp only [listed,trees,List.map,apR,X6,ayT,ayS,apQ,apP,apO,apN,apM,apL,apK,apJ,apI,apH,X5,e100,axE,axD,aDi,aDh,axC,aDg,VG,axB,e250,e251,e300,e301,e302,axA,awZ,aDf,aFF,aDe,aDd,aDc,aDb,aDa,aC9,aC8,apX,aFE,aC7,aFD,aFC,aFz,aC6,aFy,P6,aFx,aFw,aC5,aFv,aFu,KI,KH,KG,KF,aAn,afO,aAm,aAl,arQ,aAk,aAj,aAi,aAh,aAg,afN,aAf,afM,aqT,aAe,aqS,afL,aqR,aqQ,aAd,aqP,aAc,aAb,aqO,oV,aAa,aqN,aqM,aqL,aqK,azZ,aqJ,azY,azX,EG,aqI,aqH,azW,aqG,azV,aqF,azU,azT,azS,azR,azQ,aqE,afK,aqD,X7,azP,azO,aqC,aqB,afJ,aqA,azN,apZ,azM,apY,aqV,aqU,aaV,azL,azK,apW,azJ,azI,azH,azG,azF,azE,azD,apV,azC,apU,azB,apT,azA,apS,ayZ,ayY,ayX,ayW,aFB,aFA,ayV,ayU,abD,VK,arP,abC,abB,VJ,arO,abA,arN,arM,arL,arK,arJ,arI,arH,arG,arF,arE,arD,arC,arB,arA,aaZ,aaY,VI,VH,aqY,aqX,aqW,aaX,aaW,aqZ]
theorem ajL:trees.all (YK [])=true:=by kernel_rfl
theorem aDm:aAq (lim 441 feT) 441 listed=true:=by kernel_rfl
theorem atI (j:Nat):YK [] (S.tree j)=true:=by
 cases h:AZ St.t j with
 |none=>exact agF (S:=St) h
 |some e=>
  have hm:S.tree j∈trees:=by rw [<- ahK];exact aJo (cov aDm (fun k hk=>anH hk) h)
  exact aHz.1 ajL _ hm
noncomputable def L:uN:=lim' S.tree
theorem bU (j:Nat) (xs:List Int):L j xs=fin L (fD (bZ L (low xs)) (S.tree j)):=aBR atI j xs
end Go.As.Try
end
section
namespace Go.As.Try
open Go hiding Stat
open Go.As Go.Proofs Go.RowKit Go.ChangeShapes Go.WideShapes Go.ChangeAt
open Go.Proofs.YtmnjojaejpcggaaGreatDoor
set_option maxRecDepth 100000
theorem own:ownKnob Tryz.prog.godebug=none:=by kernel_rfl
theorem laidOut:laidOutB Tryz.prog=true:=by kernel_rfl
def amK:TypeId->Option Nat:=JX (owns.take 11)
def ownB (P:Program) (own:TypeId->Option Nat) (l:List (Nat×Nat)):Bool:=l.all fun p=>match P.underlying p.1 with
 |some (.slice e)=>decide (yX P own 8 e=some (oU p.2))&&Nat.beq (P.cellsOf e) (oU p.2).length&&Nat.ble (CZ p.2) (P.bytesOf e)&&Nat.ble 1 (oU p.2).length
 |_=>false
theorem S9 {t i:Nat}: ∀{l:List (Nat×Nat)},JX l t=some i->(t,i)∈l
 |[],h=>by simp [JX] at h
 |(a,k)::l,h=>by
  unfold JX at h;split at h
  ·rename_i hb;have:=aHj hb;simp only [aHe] at h;subst this h;simp
  ·exact aH8 _ (S9 h)
theorem avC {P:Program} {l:List (Nat×Nat)} (h:ownB P (JX l) l=true):atC P (JX l):=by
 intro t i hti;have:=aHz.1 h _ (S9 hti);simp only at this;split at this
 ·rename_i e he;simp only [aHg,decide_eq_true_eq] at this;exact⟨e,8,he,this.1.1.1,aHj this.1.1.2,aHW this.1.2,aHW this.2⟩
 ·simp at this
theorem auZ:atC Tryz.prog amK:=avC (by kernel_rfl)
theorem avQ {W:World} (h:W.ShapedOpen Tryz.prog):base.ok (Zu W) W.heap:=by obtain⟨m,hm⟩:=LaysM.n144.s1_3 Tryz.laysM144 W h;exact⟨afX hm,m,by rw [<- uK]; exact hm⟩
def adY:DataW Unit->Value
 | .lit (.int k n)=> .int k n
 |_=>undef
def cellsD:DataW Unit->Array Value
 | .agg l=>(l.map adY).toArray
 |d=> #[adY d]
def aEw (d:DataW Unit):Obj->Obj
 | .cells _ t f=> .cells (cellsD d) t f
 |o=>o
noncomputable def aBS (h:Array Obj) (x:String×DataW Unit):Array Obj:=match Tryz.prog.globalNamed x.1 with
 |some g=>h.modify g (aEw x.2)
 |none=>h
noncomputable def laidWorld (os:Os):World:=
 { World.holding Tryz.prog os ⟨#[],#[],[]⟩ with heap:=Rows.primsTellRow.laid.foldl aBS (World.holding Tryz.prog os ⟨#[],#[],[]⟩).heap }
theorem HY {ro:Nat->Prop} {h:Array Obj} {i:Nat} {d:D} {v:Value} (r:Rd ro h (.sl i) d v):Dt ro h (.sl i) (enc d) v:=by show Rd ro h (.sl i) (dec (enc d)) v;rw [aC];exact r
theorem asW {ro:Nat->Prop} {h:Array Obj} {u:Value} (a:ayB [.one .bool] [1] ro h u):u= .bool true:=by
 obtain⟨us,fl,hs,hc,hu⟩:=a
 cases hs with
 |one c v hs=> cases hs;simp only [uU,RK.flat,aHU,aHM,aHx] at hc;obtain⟨n,ns',u',us',h1,h2,h3,h4⟩:=hc;simp only [List.cons.injEq] at h1 h2;obtain⟨rfl,_⟩:=h1;obtain⟨rfl,_⟩:=h2;rw [hu];exact h3
theorem asL {g j:Nat} {e:Ip} (hn:j∈S.nums g) (he:S.ents j=some e) (hp:e.pat=none) (hr:e.pK= [.one .bool]) {xs:List Int} (hL:L j xs=some [1]) {W:World} (hsh:W.ShapedOpen Tryz.prog) {vals fl:List Value} (h1:Shape e.PE vals fl) (h2:jU (Zu W) W.heap (uU e.PE) xs fl) :
 Calls Tryz.prog g vals.toArray W fun en W'=>en= .returned (.bool true)/\Below W.heap.size W W':=by
 obtain⟨n,hrun⟩:=UY hL;refine (alN aBy hn he hp n xs [1] hrun (Zu W) W vals fl (fun _ h=>h) (avQ hsh) h1 h2).mono fun en W' ⟨u,hu,hb,ro',_,_,_,ha⟩=>?_;rw [hr] at ha;rw [asW ha] at hu;exact⟨hu,hb⟩
end Go.As.Try
end
section
namespace Go.As
def prune (Y N:List SB):T Lf->T Lf
 | .fail=> .fail
 | .ret l=> .ret l
 | .split c x y=>match Y.contains c with
   |true=>prune Y N x
   |false=>match N.contains c with
    |true=>prune Y N y
    |false=> .split c (prune Y N x) (prune Y N y)
def zY (ρ:Nat->Int):List SB->Prop
 |[]=>True
 |c::l=>c.den ρ=true/\zY ρ l
def zW (ρ:Nat->Int):List SB->Prop
 |[]=>True
 |c::l=> ¬c.den ρ=true/\zW ρ l
theorem aiT {ρ:Nat->Int}: ∀{l:List SB},zY ρ l->∀c∈l,c.den ρ=true
 |[],_,c,h=>by simp at h
 |a::l,hz,c,h=>by
  rcases aHm.1 h with rfl|h
  ·exact hz.1
  ·exact aiT hz.2 c h
theorem aiW {ρ:Nat->Int}: ∀{l:List SB},zW ρ l->∀c∈l,c.den ρ=false
 |[],_,c,h=>by simp at h
 |a::l,hz,c,h=>by
  rcases aHm.1 h with rfl|h
  ·simpa using hz.1
  ·exact aiW hz.2 c h
theorem aiU {ρ:Nat->Int}: ∀{a b:List SB},zY ρ a->zY ρ b->zY ρ (a++b)
 |[],_,_,h=>h
 |_::_,_,h,h'=> ⟨h.1,aiU h.2 h'⟩
theorem aiX {ρ:Nat->Int}: ∀{a b:List SB},zW ρ a->zW ρ b->zW ρ (a++b)
 |[],_,_,h=>h
 |_::_,_,h,h'=> ⟨h.1,aiX h.2 h'⟩
theorem dO {ρ:Nat->Int} {Y N:List SB} (h:zY ρ Y/\zW ρ N): ∀t,fD ρ (prune Y N t)=fD ρ t
 | .fail=>rfl
 | .ret l=>rfl
 | .split c x y=>by
   simp only [prune,fD];split
   ·rename_i h';rw [aiT h.1 c (aJp.1 h'),aHd rfl];exact dO h x
   ·split
    ·rename_i h';rw [aiW h.2 c (aJp.1 h'),aHc (by simp)];exact dO h y
    ·simp only [fD,dO h x,dO h y]
theorem eG {ρ:Nat->Int} (Y N:List SB) {t:T Lf} {R:RS} (u:T Lf) (h:zY ρ Y/\zW ρ N) (k:prune Y N t=u) (h':fD ρ u=R):fD ρ t=R:=by rw [<- dO h t,k,h']
theorem zz :
 (∀{ρ:Nat->Int} (c:SB) (a b:T Lf),fD ρ (sp c a b)=if c.den ρ=true then fD ρ a else fD ρ b)/\
 (∀{ρ:Nat->Int} (l:List SE),fD ρ (ou l)= .out (l.map (SE.den ρ)))/\
 (∀{ρ:Nat->Int} (j:Nat) (l:List SE),fD ρ (ju j l)= .jump j (l.map (SE.den ρ)))/\
 (∀{ρ:Nat->Int},fD ρ fl= .no)/\
 (∀{ρ:Nat->Int} (a b:SE),((SB.lt a b).den ρ=true)=(a.den ρ<b.den ρ))/\
 (∀{ρ:Nat->Int} (a b:SE),((SB.eq a b).den ρ=true)=(a.den ρ=b.den ρ))/\
 (∀(F:uN) (lo:Nat->Int),(SE.aO 0).den (bZ F lo)=lo 0)/\
 (∀(F:uN) (lo:Nat->Int),(SE.aO 1).den (bZ F lo)=lo 1)/\
 (∀(F:uN) (lo:Nat->Int),(SE.aO 2).den (bZ F lo)=lo 2)/\
 (∀(F:uN) (lo:Nat->Int),(SE.aO 3).den (bZ F lo)=lo 3)/\
 (∀(F:uN) (lo:Nat->Int),(SE.aO 4).den (bZ F lo)=lo 4)/\
 (∀(F:uN) (lo:Nat->Int),(SE.aO 5).den (bZ F lo)=lo 5)/\
 (∀(F:uN) (lo:Nat->Int),(SE.aO 6).den (bZ F lo)=lo 6)/\
 (∀(F:uN) (lo:Nat->Int),(SE.aO 7).den (bZ F lo)=lo 7)/\
 (∀(F:uN) (lo:Nat->Int),(SE.aO 8).den (bZ F lo)=lo 8)/\
 (∀(F:uN) (lo:Nat->Int),(SE.aO 9).den (bZ F lo)=lo 9)/\
 (∀(F:uN) (lo:Nat->Int),(SE.aO 10).den (bZ F lo)=lo 10)/\
 (∀(F:uN) (lo:Nat->Int),(SE.aO 11).den (bZ F lo)=lo 11)/\
 (∀(F:uN) (lo:Nat->Int),(SE.aO 12).den (bZ F lo)=lo 12)/\
 (∀(F:uN) (lo:Nat->Int),(SE.aO 13).den (bZ F lo)=lo 13)/\
 (∀(F:uN) (lo:Nat->Int),(SE.aO 14).den (bZ F lo)=lo 14)/\
 (∀(F:uN) (lo:Nat->Int),(SE.aO 15).den (bZ F lo)=lo 15)/\
 (∀(F:uN) (lo:Nat->Int),(SE.aO 16).den (bZ F lo)=lo 16)/\
 (∀(F:uN) (lo:Nat->Int),(SE.aO 17).den (bZ F lo)=lo 17)/\
 (∀(F:uN) (lo:Nat->Int),(SE.aO 18).den (bZ F lo)=lo 18)/\
 (∀(F:uN) (lo:Nat->Int),(SE.aO 19).den (bZ F lo)=lo 19)/\
 (∀(F:uN) (lo:Nat->Int),(SE.aO 20).den (bZ F lo)=lo 20)/\
 (∀(F:uN) (lo:Nat->Int),(SE.aO 21).den (bZ F lo)=lo 21)/\
 (∀(F:uN) (lo:Nat->Int),(SE.aO 22).den (bZ F lo)=lo 22)/\
 (∀(F:uN) (lo:Nat->Int),(SE.aO 23).den (bZ F lo)=lo 23)/\
 (∀(F:uN) (lo:Nat->Int),(SE.aO 24).den (bZ F lo)=lo 24)/\
 (∀(F:uN) (lo:Nat->Int),(SE.aO 25).den (bZ F lo)=lo 25)/\
 (∀{ρ:Nat->Int} (n:Int),(SE.lit n).den ρ=n)/\
 (∀{ρ:Nat->Int} (d:D),(SE.dat d).den ρ=enc d)/\
 (∀{ρ:Nat->Int} (a:SE),(ln a).den ρ=((dec (a.den ρ)).l.length:Int))/\
 (∀{ρ:Nat->Int} (a:SE),(nm a).den ρ=(dec (a.den ρ)).n)/\
 (∀{ρ:Nat->Int} (j:Nat) (a:SE),(ce j a).den ρ=enc ((dec (a.den ρ)).hd j))/\
 (∀{ρ:Nat->Int} (a b:SE),(el a b).den ρ=enc ((dec (a.den ρ)).at (b.den ρ)))/\
 (∀{ρ:Nat->Int} (a b:SE),(cn a b).den ρ=enc (.p (dec (a.den ρ)) (dec (b.den ρ))))/\
 (∀{ρ:Nat->Int} (a:SE),(mk a).den ρ=enc (.i (a.den ρ)))/\
 (∀{ρ:Nat->Int} (a:SE),(wr a).den ρ=IntKind.i64.wrap (a.den ρ))/\
 (∀{ρ:Nat->Int} (a b:SE),(SE.add a b).den ρ=a.den ρ+b.den ρ)/\
 (∀{ρ:Nat->Int} (a b:SE),(SE.sub a b).den ρ=a.den ρ-b.den ρ)/\
 (∀{ρ:Nat->Int} (o:jC) (a b:SE),(SE.op o a b).den ρ=o.den (a.den ρ) (b.den ρ))/\
 (∀{F:uN} {lo:Nat->Int} (j:Nat) (l:List SE),(a0 j l).den (bZ F lo)=if (F j (l.map (SE.den (bZ F lo)))).isSome=true then 1 else 0)/\
 (∀{F:uN} {lo:Nat->Int} (j:Nat) (l:List SE) (i:Nat),(rr j l i).den (bZ F lo)=low ((F j (l.map (SE.den (bZ F lo)))).getD []) i)/\
 (∀{x:Int} {xs:List Int},low (x::xs) 0=x)/\
 (∀{x:Int} {xs:List Int} {i:Nat},low (x::xs) (i+1)=low xs i)/\
 (∀{f:SE->Int},List.map f []= [])/\
 (∀{f:SE->Int} {a:SE} {l:List SE},List.map f (a::l)=f a::List.map f l)/\
 (∀d:D,dec (enc d)=d)/\
 (∀n:Int,(D.i n).n=n)/\
 (∀{α:Type} (a:α),(some a).isSome=true)/\
 (∀{α:Type} (a b:α),(some a).getD b=a)/\
 (∀{α:Type} {_:Decidable True} (a b:α),ite True a b=a)/\
 (∀{α:Type} {_:Decidable False} (a b:α),ite False a b=b)/\
 (∀{ρ:Nat->Int},zY ρ []=True)/\
 (∀{ρ:Nat->Int} (c:SB) (l:List SB),zY ρ (c::l)=(c.den ρ=true/\zY ρ l))/\
 (∀{ρ:Nat->Int},zW ρ []=True)/\
 (∀{ρ:Nat->Int} (c:SB) (l:List SB),zW ρ (c::l)=(¬c.den ρ=true/\zW ρ l))/\
 (∀x y:Int,jC.den .len x y=((dec x).l.length:Int))/\
 (∀x y:Int,jC.den .at x y=enc ((dec x).at y))/\
 (∀(x y:Int) (j:Nat),jC.den (.cell j) x y=enc ((dec x).hd j))/\
 (∀x y:Int,jC.den .num x y=(dec x).n)/\
 (∀x y:Int,jC.den .mk x y=enc (.i x))/\
 (∀x y:Int,jC.den .cons x y=enc (.p (dec x) (dec y)))/\
 (∀x y:Int,jC.den .snoc x y=enc (dL ((dec x).l++ [dec y])))/\
 (∀x y:Int,jC.den .cat x y=enc (dL ((dec x).l++(dec y).l)))/\
 (∀x y:Int,jC.den .take x y=enc (iR (dec x) ((dec x).l.take y.toNat)))/\
 (∀x y:Int,jC.den .drop x y=enc (iR (dec x) ((dec x).l.drop y.toNat)))/\
 (∀(x:Int) (q v:D),jC.den .set x (enc (.p q v))=enc (dL (dV (dec x).l q.n v)))/\
 (∀x y:Int,jC.den .bit x y=enc (.i (if (dec x).n=0 then 0 else 1)))/\
 (∀x y:Int,jC.den .norm x y=enc (dec x))/\
 (∀x y:Int,jC.den .NK x y=if (rV (dec x).l (dec y)).isSome then 1 else 0)/\
 (∀x y:Int,jC.den .NP x y=enc ((rV (dec x).l (dec y)).getD (.i 0)))/\
 (∀(x:Int) (k v:D),jC.den .I9 x (enc (.p k v))=enc (dL (Fa (dec x).l k v)))/\
 (∀x y:Int,jC.den .rep x y=enc (dL (List.replicate x.toNat (dec y))))/\
 (∀(x:Int) (q v:D),jC.den .fill x (enc (.p q v))=enc (dL ((dec x).l.take q.n.toNat++List.replicate ((dec x).l.length-q.n.toNat) v)))/\
 (∀x y:Int,jC.den .sub x y=enc (dL (((dec x).l.take ((dec y).hd 1).n.toNat).drop ((dec y).hd 0).n.toNat)))/\
 (∀x y:Int,jC.den .idx x y=O7 (dec x).l y)/\
 (∀x y:Int,jC.den .cnt x y=asB (dec x).l y)/\
 (∀x y:Int,jC.den .con x y=if Hr (dec x).l (dec y).l then 1 else 0)/\
 (∀x y:Int,jC.den .slt x y=if X8 (dec x).l (dec y).l then 1 else 0)/\
 (∀x y:Int,jC.den .ZL x y=enc (dL (UO (dec x).l (dec y))))/\
 (∀p:Prop,(p/\True)=p)/\(∀p:Prop,(True/\p)=p)/\(¬False)=True:=
 ⟨fC,mZ,pF,IE,rU,jI,fun _ _=>aZ (by decide),fun _ _=>aZ (by decide),fun _ _=>aZ (by decide),fun _ _=>aZ (by decide),fun _ _=>aZ (by decide),fun _ _=>aZ (by decide),fun _ _=>aZ (by decide),fun _ _=>aZ (by decide),fun _ _=>aZ (by decide),fun _ _=>aZ (by decide),fun _ _=>aZ (by decide),fun _ _=>aZ (by decide),fun _ _=>aZ (by decide),fun _ _=>aZ (by decide),fun _ _=>aZ (by decide),fun _ _=>aZ (by decide),fun _ _=>aZ (by decide),fun _ _=>aZ (by decide),fun _ _=>aZ (by decide),fun _ _=>aZ (by decide),fun _ _=>aZ (by decide),fun _ _=>aZ (by decide),fun _ _=>aZ (by decide),fun _ _=>aZ (by decide),fun _ _=>aZ (by decide),fun _ _=>aZ (by decide),dF,jJ,jG,OX,arT,OY,VQ,VP,CV,den_add,axL,VO,jK,jD,aP _,aT _ _,rfl,rfl,aC,ZJ,fun _=>rfl,fun _ _=>rfl,fun _ _=>aHd trivial,fun _ _=>aHc id,rfl,fun _ _=>rfl,rfl,fun _ _=>rfl,fun _ _=>rfl,fun _ _=>rfl,fun _ _ _=>rfl,fun _ _=>rfl,fun _ _=>rfl,fun _ _=>rfl,fun _ _=>rfl,fun _ _=>rfl,fun _ _=>rfl,fun _ _=>rfl,fun _ _ _=>by show (match dec (enc _) with | .p q v=>_|_=>_)=_; rw [aC],fun _ _=>rfl,fun _ _=>rfl,fun _ _=>rfl,fun _ _=>rfl,fun _ _ _=>by show (match dec (enc _) with | .p q v=>_|_=>_)=_; rw [aC],fun _ _=>rfl,fun _ _ _=>by show (match dec (enc _) with | .p q v=>_|_=>_)=_; rw [aC],fun _ _=>rfl,fun _ _=>rfl,fun _ _=>rfl,fun _ _=>rfl,fun _ _=>rfl,fun _ _=>rfl,and_true,true_and,not_false_eq_true⟩
theorem zg:(∀(l:List D) (j:Nat),(dL l).hd j=(l[j]?).getD (.i 0))/\(∀(a:D) (l:List D),(a::l)[0]?=some a)/\(∀(a:D) (l:List D) (i:Nat),(a::l)[i+1]?=l[i]?):=⟨iV,fun _ _=>rfl,fun _ _ _=>rfl⟩
end Go.As
end
section
namespace Go.As.Try
open Go hiding Stat Spec shape
open Go.As
set_option maxRecDepth 100000
def Ends (p:List Int->Prop) (R:RS):Prop:= ∃ys,fin L R=some ys/\p ys
def Tot (j:Nat) (xs:List Int) (p:List Int->Prop):Prop:= ∃ys,L j xs=some ys/\p ys
theorem Tot.of {j:Nat} {xs:List Int} {p:List Int->Prop} (h:Ends p (fD (bZ L (low xs)) (S.tree j))):Tot j xs p:=by obtain⟨ys,h1,h2⟩:=h;exact⟨ys,by rw [bU]; exact h1,h2⟩
theorem Ends.ite {p:List Int->Prop} {c:Prop} [Decidable c] {a b:RS} (h1:c->Ends p a) (h2: ¬c->Ends p b):Ends p (if c then a else b):=by
 by_cases h:c
 ·rw [aHd h]; exact h1 h
 ·rw [aHc h]; exact h2 h
theorem Ends.out {p:List Int->Prop} {ys:List Int} (h:p ys):Ends p (.out ys):=⟨ys,rfl,h⟩
theorem Ends.jump {p:List Int->Prop} {j:Nat} {xs:List Int} (h:Tot j xs p):Ends p (.jump j xs):=h
def Fp (ys:List Int):Prop:= ∃c:Int,ys= [c]/\(c=0\/c=1)
theorem Fj:Fp [0]:=⟨0,rfl,.inl rfl⟩
theorem Fh:Fp [1]:=⟨1,rfl,.inr rfl⟩
def iC (x:D):D:=dL [.i (-1),.i (if (x.hd 0).n=3\/(x.hd 0).n=9 then (x.hd 2).n else 0),.i 0,.i 0,.i 1,.i 1]
theorem Pz (d0:D) (hlen:d0.l.length<=64): ∀(k i:Nat) (acc:List D),i+k=d0.l.length->acc.length=i->
 L 302 [enc (dL acc),enc d0,(d0.l.length:Int),(i:Int)]=some [enc (dL (acc++(d0.l.drop i).map iC))]
 |0,i,acc,h1,h2=>by rw [bU,e302];simp only [atZ,fC,mZ,rU,aZ,aP,aT,Nat.reduceLT,fin,List.map];rw [aHc (by omega)];simp only [fin,aZ,aP,Nat.reduceLT];rw [aHE (by omega)];simp
 |k+1,i,acc,h1,h2=>by
  have hi:i<d0.l.length:=by omega
  have hd:d0.l.drop i=d0.l[i]::d0.l.drop (i+1):=aHt hi;have ih:=fun x=>Pz d0 hlen k (i+1) (acc++ [x]) (by omega) (by simp [h2]);rw [bU,e302,hd];simp only [atZ,fC,mZ,pF,IE,rU,jI,aZ,jG,dF,OX,arT,OY,VO,VQ,VP,jJ,CV,den_add,aP,aT,Nat.reduceLT,List.map,aC,aA,bF hi];have w:=aX (n:=i) (by omega);have c1:(i:Int)<(d0.l.length:Int):=by omega
  have c2: ¬((i:Int)<0):=by omega
  have c3:(acc.length:Int)<1759218604440:=by omega
  simp only [c1,c2,c3,w,if_true,if_false,fin,jC.den,aC,aA];by_cases h3:(d0.l[i].hd 0).n=3
  ·simp only [h3,if_true,fin];have:=ih (iC d0.l[i]);simp only [iC,h3,true_or,if_true,dL] at this ⊢;rw [this];simp
  ·by_cases h9:(d0.l[i].hd 0).n=9
   ·simp only [aHc h3,aHd h9,fin];have:=ih (iC d0.l[i]);simp only [iC,aHd (Or.inr h9:(d0.l[i].hd 0).n=3\/(d0.l[i].hd 0).n=9),dL] at this ⊢;rw [this];simp
   ·simp only [aHc h3,aHc h9,fin];have:=ih (iC d0.l[i]);simp only [iC,h3,h9,or_self,if_false,dL] at this ⊢;rw [this];simp
def Bs (d:D):Prop:=d=dL d.l/\∀(i:Nat) (h:i<d.l.length),0<=(d.l[i]).n/\(d.l[i]).n<256
theorem JR (d:D) (hb:Bs d) (hlen:d.l.length<=1000000): ∀(k i:Nat) (n:Int),i+k=d.l.length->∃a b,L 1102 [n,enc d,(d.l.length:Int),(i:Int)]=some [a,b]
 |0,i,n,h1=>by rw [bU,arQ];simp only [adF,fC,mZ,rU,aZ,aP,aT,Nat.reduceLT,List.map,dF];rw [aHc (by omega)];exact⟨_,_,rfl⟩
 |k+1,i,n,h1=>by
  have hi:i<d.l.length:=by omega
  have ih:=fun x=>JR d hb hlen k (i+1) x (by omega);rw [bU,arQ];have w:=aX (n:=i) (by omega);have c1:(i:Int)<(d.l.length:Int):=by omega
  have c2: ¬((i:Int)<0):=by omega
  simp only [adF,fC,mZ,pF,IE,rU,aZ,aP,aT,Nat.reduceLT,List.map,dF,jG,aC,c1,c2,if_true,if_false,CV,den_add,w];split
  ·exact⟨_,_,rfl⟩
  ·exact ih _
theorem ZG (d:D) (hb:Bs d) (hlen:d.l.length<=1000000): ∃a b,L 1100 [enc d]=some [a,b]:=by
 rw [bU,aAm];simp only [alL,fC,pF,jI,aZ,aP,aT,Nat.reduceLT,List.map,dF,jG,aC];split
 ·show ∃a b,L 1101 []=some [a,b];rw [bU,aAl];exact⟨_,_,rfl⟩
 ·exact JR d hb hlen d.l.length 0 _ (by omega)
theorem TA (z:Int): ∀(l:List D) (i:Nat),xK z l (i:Int)= -1\/((i:Int)<=xK z l i/\xK z l i<(i:Int)+l.length)
 |[],i=> .inl rfl
 |d::l,i=>by
  have ih:=TA z l (i+1);have hc:((i+1:Nat):Int)=(i:Int)+1:=by omega
  rw [hc] at ih;have hl:((d::l).length:Int)=(l.length:Int)+1:=by simp
  cases d with
  |i n=>
   simp only [xK];split
   ·right; omega
   ·rcases ih with h|⟨h1,h2⟩
    ·left; exact h
    ·right; omega
  |p a b=>
   simp only [xK];rcases ih with h|⟨h1,h2⟩
   ·left; exact h
   ·right; omega
theorem asA {z:Int} {d:D} {l:List D} (h:d≠.i z) (h0: ¬O7 (d::l) z<0):1<=O7 (d::l) z/\O7 (d::l) z<(l.length:Int)+1:=by
 have h1:=TA z l 1
 have key:O7 (d::l) z=xK z l ((1:Nat):Int):=by
  unfold O7
  cases d with
  |i n=> simp only [xK];rw [aHc (by intro q; exact h (by rw [q]))];rfl
  |p a b=>rfl
 rw [key] at h0 ⊢;omega
theorem aFG:(b0.at 10).n=1:=by show (b0.at ((10:Nat):Int)).n=1;kernel_rfl
theorem Dc (d:D) (hb:Bs d) (hlen:d.l.length<=1000000) (x1:Int): ∀(k i:Nat),d.l.length-i<=k->i<=d.l.length->∃p:Nat,p<=d.l.length/\L 12801 [enc d,x1,(i:Int)]=some [0,enc d,x1,(p:Int)]
 |k,i,h1,h2=>by
  rw [bU,aaY];have c2: ¬((i:Int)<0):=by omega
  by_cases hi:i<d.l.length
  ·have c1:(i:Int)<(d.l.length:Int):=by omega
   have w:=aX (n:=i) (by omega);obtain⟨b1,b2⟩:=hb.2 i hi;have b1: ¬(d.l[i]).n<0:=by omega
   obtain⟨k,rfl⟩ : ∃k',k=k'+1:=⟨k-1,by omega⟩;have hdr:(d.l.take d.l.length).drop i=d.l[i]::d.l.drop (i+1):=by rw [aIF,aHt hi]
   simp only [MF,fC,mZ,pF,IE,rU,jI,aZ,aP,aT,Nat.reduceLT,List.map,dF,jJ,jG,aC,c1,c2,if_true,if_false,CV,den_add,w,OX,OY,bF hi,b1,b2];by_cases q1:(b0.at (d.l[i]).n).n=1
   ·simp only [q1,if_true];exact Dc d hb hlen x1 k (i+1) (by omega) (by omega)
   ·by_cases q2:(b0.at (d.l[i]).n).n=2
    ·simp only [aHc q1,aHd q2]
     have hne:d.l[i]≠.i 10:=by intro h;rw [h] at q1;exact q1 aFG
     simp only [aHi,if_false,VO,jC.den,VQ,VP,jJ,jG,aZ,dF,aP,aT,Nat.reduceLT,aC,D.hd,l_p,zF,ZJ,aHA,aHp,aHl,aHH,aA,hdr];split
     ·exact⟨d.l.length,aHh _,by simp [fin]⟩
     ·rename_i h0;obtain⟨g1,g2⟩:=asA hne h0;rw [aHI] at g2;obtain⟨m,hm⟩ : ∃m:Nat,O7 (d.l[i]::d.l.drop (i+1)) 10=(m:Int):=⟨(O7 (d.l[i]::d.l.drop (i+1)) 10).toNat,by omega⟩;have w2:IntKind.i64.wrap ((i:Int)+(m:Int))=((i+m:Nat):Int):=by rw [jX (by omega) (by omega)]; omega
      simp only [hm,w2,fin];exact Dc d hb hlen x1 k (i+m) (by omega) (by omega)
    ·simp only [aHc q1,aHc q2];exact⟨i,by omega,rfl⟩
  ·have c1: ¬(i:Int)<(d.l.length:Int):=by omega
   simp only [MF,fC,mZ,rU,aZ,aP,aT,Nat.reduceLT,List.map,dF,jG,aC,c1,if_false];exact⟨i,by omega,rfl⟩
theorem abJ (d:D) (hb:Bs d) (hlen:d.l.length<=1000000) (i:Nat) (hi:i<=d.l.length): ∃p:Nat,p<=d.l.length/\L 12800 [enc d,(i:Int)]=some [0,enc d,(i:Int),(p:Int)]:=by rw [bU,aaZ];simp only [Uj,pF,aZ,aP,aT,Nat.reduceLT,List.map];exact Dc d hb hlen _ _ i (aHh _) hi
theorem Tn (d:D) (hb:Bs d) (hlen:d.l.length<=1000000) (x1 x2:Int): ∀(k i:Nat),d.l.length-i<=k->i<=d.l.length->∃p:Nat,i<=p/\p<=d.l.length/\L 12851 [enc d,x1,x2,(i:Int)]=some [0,enc d,x1,(p:Int)]
 |k,i,h1,h2=>by
  rw [bU,VH];have c2: ¬((i:Int)<0):=by omega
  by_cases hi:i<d.l.length
  ·have c1:(i:Int)<(d.l.length:Int):=by omega
   have w:=aX (n:=i) (by omega);obtain⟨b1,b2⟩:=hb.2 i hi;have b1: ¬(d.l[i]).n<0:=by omega
   obtain⟨k,rfl⟩ : ∃k',k=k'+1:=⟨k-1,by omega⟩
   have ih: ∃p:Nat,i<=p/\p<=d.l.length/\L 12851 [enc d,x1,x2,((i+1:Nat):Int)]=some [0,enc d,x1,(p:Int)]:=by obtain⟨p,q1,q2,q3⟩:=Tn d hb hlen x1 x2 k (i+1) (by omega) (by omega);exact⟨p,by omega,q2,q3⟩
   simp only [IC,fC,mZ,pF,IE,rU,jI,aZ,aP,aT,Nat.reduceLT,List.map,dF,jJ,jG,aC,c1,c2,if_true,if_false,CV,den_add,w,OX,OY,bF hi,b1,b2];split
   ·exact ih
   ·split
    ·split
     ·exact ih
     ·exact⟨i,by omega,by omega,rfl⟩
    ·exact⟨i,by omega,by omega,rfl⟩
  ·have c1: ¬(i:Int)<(d.l.length:Int):=by omega
   simp only [IC,fC,mZ,rU,aZ,aP,aT,Nat.reduceLT,List.map,dF,jG,aC,c1,if_false];exact⟨i,by omega,by omega,rfl⟩
theorem aeA {l:List D} {a b:D} (h:enc (dL l)=enc (.p a (.p b (.i 0)))):l.length=2:=by have:=congrArg (fun d=>d.l.length) (gI h);simpa [D.l] using this
theorem apC (d:D) (hb:Bs d) (hlen:d.l.length<=1000000) (i:Nat) (hi:i<d.l.length): ∃p:Nat,i<p/\p<=d.l.length/\L 12850 [enc d,(i:Int)]=some [0,enc d,(i:Int),(p:Int)]:=by
 have c2: ¬((i:Int)<0):=by omega
 have c1:(i:Int)<(d.l.length:Int):=by omega
 have w:=aX (n:=i) (by omega);have w1:=aX (n:=i+1) (by omega);have w2:IntKind.i64.wrap ((i:Int)+2)=((i+2:Nat):Int):=by rw [jX (by omega) (by omega)]; omega
 obtain⟨b1,b2⟩:=hb.2 i hi;have b1: ¬(d.l[i]).n<0:=by omega
 have c3: ¬(((i+2:Nat):Int)<(i:Int)):=by omega
 rw [bU,VI];simp only [MC,fC,mZ,pF,IE,rU,jI,aZ,aP,aT,Nat.reduceLT,List.map,dF,jG,aC,c1,c2,c3,if_true,if_false,CV,den_add,w,w1,w2,OX,OY,bF hi,b1,b2,aHi,VO,jC.den,VQ,VP,jJ,D.hd,l_p,zF,ZJ,aHA,aHp,aHl,aHH];split
 ·split
  ·rename_i h5;split
   ·rename_i h6;have:=aeA h6;simp only [aHI,aHr] at this;omega
   ·split
    ·rename_i h6;have:=aeA h6;simp only [aHI,aHr] at this;omega
    ·exact⟨i+1,by omega,by omega,rfl⟩
  ·rename_i h5;split
   ·exact⟨i+1+1,by omega,by omega,rfl⟩
   ·split
    ·exact⟨i+1+1,by omega,by omega,rfl⟩
    ·exact⟨i+1,by omega,by omega,rfl⟩
 ·obtain⟨p,q1,q2,q3⟩:=Tn d hb hlen (i:Int) ((b0.at (d.l[i]).n).n) _ (i+1) (aHh _) (by omega);exact⟨p,by omega,q2,q3⟩
theorem Va {kids:D} (h:Wd (.sl 6) kids) {i:Nat} (hi:i<kids.l.length): ∃k s n ks,kids.l[i]=dL [.i k,s,.i n,ks]/\oG .u8 k/\Wd .str s/\oG .i64 n/\Wd (.sl 6) ks:=by
 obtain⟨r,h1,hl,hc⟩:=h.elN (cs:=[.int .u8,.str,.int .i64,.sl 6]) rfl _ (aHk hi)
 match r,hl with
 |[a,b,c,d],_=> obtain⟨k,rfl,hk⟩:=(hc 0 _ _ rfl rfl).i;obtain⟨n,rfl,hn⟩:=(hc 2 _ _ rfl rfl).i;exact⟨k,b,n,d,h1,hk,hc 1 _ _ rfl rfl,hn,hc 3 _ _ rfl rfl⟩
def E1:D:=.p (.i 1) (.p (.i 0) (.p (.i 0) (.p (.i 1) (.i 0))))
theorem axW:L 1150 [1,enc (.i 0),0,enc (.i 1)]=some [1]:=by rw [bU,aAk];simp only [alK,zz,zF,aHD,Int.reduceLT,Int.reduceEq];rfl
theorem ahY (a b:Int):L 5450 [enc (.i 1),a,b]=some [b]:=by rw [bU,ayZ];simp only [akA,zz,zF,aHD,fin];rw [bU,ayY];simp only [ajZ,zz];rfl
theorem D5:L 5250 [enc (dL [E1]),2,1]=some [2,enc (dL [E1])]:=by have h1:=axW;have h2:=ahY 3 2;have w1:IntKind.i64.wrap (1+1)=2:=jX (by omega) (by omega);have w2:IntKind.i64.wrap (2+1)=3:=jX (by omega) (by omega);have w3:IntKind.i64.wrap (0+1)=1:=jX (by omega) (by omega);have ha:(dL [E1]).at 0=E1:=rfl;have g0:E1.hd 0= .i 1:=rfl;have g1:E1.hd 1= .i 0:=rfl;have g2:E1.hd 2= .i 0:=rfl;have g3:E1.hd 3= .i 1:=rfl;rw [bU,azD];simp only [akE,zz,aA,aHq,aHD,aHn,fin];rw [bU,apV];simp only [acI,zz,aA,aHq,aHD,aHn,ha,g0,g1,g2,g3,w1,w2,w3,h1,h2,Int.reduceLT,Int.reduceEq,fin,aHs,aHi];rw [bU,apV];simp only [acI,zz,aHi];rfl
theorem agH (k m:Int):L 5500 [enc (.i 1),k,m]=some [k,m,1]:=by rw [bU,ayX];simp only [ajX,zz,zF,aHD,fin];rw [bU,ayW];simp only [ajW,zz];rfl
theorem agG (a k m:Int):L 5600 [enc (.i 1),a,k,m]=some [a,k,m,1]:=by rw [bU,ayV];simp only [ajV,zz,zF,aHD,fin];rw [bU,ayU];simp only [ajU,zz];rfl
theorem lK (k m:Int):L 5150 [k,m]=some [k,m,1]:=by rw [bU,azH];simp only [akG,zz,fin];rw [bU,azG];rfl
theorem lJ (k m:Int):L 5200 [k,m]=some [1,k,m,1]:=by rw [bU,azF];simp only [akF,zz,fin];rw [bU,azE];rfl
theorem Ls (k m:Int):L 5100 [k,m]=some [m]:=by rw [bU,azJ];simp only [akH,zz,fin];rw [bU,azI];rfl
theorem fA (k m:Int):L 5300 [1,enc (dL [E1]),k,m]=some [enc (dL [E1]),k,m,1]:=by have h2:=agH k m;have w3:IntKind.i64.wrap (0+1)=1:=jX (by omega) (by omega);have ha:(dL [E1]).at 0=E1:=rfl;have g0:E1.hd 0= .i 1:=rfl;have g1:E1.hd 1= .i 0:=rfl;have g3:E1.hd 3= .i 1:=rfl;rw [bU,azC];simp only [akD,zz,fin];rw [bU,apU];simp only [acH,zz,aA,aHq,aHD,aHn,ha,g0,g1,g3,w3,h2,Int.reduceLT,Int.reduceEq,fin,aHs,aHi];rw [bU,apU];simp only [acH,zz,aHi];rfl
theorem eY (k m:Int):L 5350 [1,enc (dL [E1]),k,m]=some [enc (dL [E1]),1,k,m,1]:=by have h2:=agG 1 k m;have w3:IntKind.i64.wrap (0+1)=1:=jX (by omega) (by omega);have ha:(dL [E1]).at 0=E1:=rfl;have g0:E1.hd 0= .i 1:=rfl;have g1:E1.hd 1= .i 0:=rfl;have g3:E1.hd 3= .i 1:=rfl;rw [bU,azB];simp only [akC,zz,fin];rw [bU,apT];simp only [acG,zz,aA,aHq,aHD,aHn,ha,g0,g1,g3,w3,h2,Int.reduceLT,Int.reduceEq,fin,aHs,aHi];rw [bU,apT];simp only [acG,zz,aHi];rfl
def isR (ys:List Int):Prop:= ∃b l,ys=b::l/\(b=0\/b=1)
def lQ (m:Nat):D:=dL (List.replicate m E1)
theorem yQ (m:Nat):(lQ m).l.length=m:=by unfold lQ; rw [aA,aIH]
def OkI (d0:D) (nl nc:Nat) (dx op ob into to:Int) (na:Nat):Prop:=
 (dx=1/\0<=ob/\ob<(d0.l.length:Int)/\(into= -1\/0<=into/\into<(nl:Int))/\(op=16->0<=to/\to<=(nc:Int)))\/
 (dx=2/\0<=ob/\ob<(d0.l.length:Int))\/(dx=3/\0<=into/\into<(nl:Int)/\(na:Int)=1)\/(dx=4/\0<=to/\to<=(nc:Int)/\(na:Int)=1)\/
 (dx=5/\0<=to/\to<=(nc:Int))\/(dx=6/\0<=into/\into<(nl:Int))\/(dx=7/\0<=into/\into<(nl:Int)/\0<=to/\to<=(nc:Int))
def OkO (d0:D) (k n:Int):Prop:=1<=k/\k<=9/\(k=1\/k=2\/k=6\/k=7->n=0)/\(k=3\/k=8->1<=n/\n<=1048576)/\(k=5->1<=n/\n<=16)/\(k=4->0<=n/\n<(d0.l.length:Int)/\((d0.at n).hd 0).n=1)
def BU (d0:D) (x:D):Prop:=OkO d0 (x.hd 0).n (x.hd 2).n
def ZC (d0 d1:D):Prop:=d0.l.length<=64/\d1.l.length<=16/\∀x∈d0.l,BU d0 x
def aEG (d0 x:D):Prop:= ∀y∈(x.hd 2).l,OkI d0 (x.hd 1).l.length (x.hd 2).l.length (y.hd 0).n (y.hd 1).n (y.hd 2).n (y.hd 3).n (y.hd 4).n (y.hd 6).l.length
def aEE (d0 d1:D) (ys:List Int):Prop:= ∃b:Int,ys= [b]/\(b=0\/b=120)/\(b=0->ZC d0 d1/\∀x∈d1.l,aEG d0 x)
theorem KR {d:D} (h:Wd (.sl 4) d) {i:Nat} (hi:i<d.l.length): ∃nm' lc cd,d.l[i]=dL [nm',lc,cd]/\Wd .str nm'/\Wd (.sl 2) lc/\Wd (.sl 5) cd:=by
 obtain⟨r,h1,hl,hc⟩:=h.elN (cs:=[.str,.sl 2,.sl 5]) rfl _ (aHk hi)
 match r,hl with
 |[a,b,c],_=>exact⟨a,b,c,h1,hc 0 _ _ rfl rfl,hc 1 _ _ rfl rfl,hc 2 _ _ rfl rfl⟩
theorem anS {d:D} (h:Wd (.sl 5) d) {i:Nat} (hi:i<d.l.length): ∃a b c e f g vI,d.l[i]=dL [.i a,.i b,.i c,.i e,.i f,.i g,vI]/\oG .u8 a/\oG .u8 b/\oG .i64 c/\oG .i64 e/\oG .i64 f/\oG .i64 g/\Wd (.sl 6) vI:=by
 obtain⟨r,h1,hl,hc⟩:=h.elN (cs:=[.int .u8,.int .u8,.int .i64,.int .i64,.int .i64,.int .i64,.sl 6]) rfl _ (aHk hi)
 match r,hl with
 |[a,b,c,e,f,g,vI],_=> obtain⟨a,rfl,ha⟩:=(hc 0 _ _ rfl rfl).i;obtain⟨b,rfl,hb⟩:=(hc 1 _ _ rfl rfl).i;obtain⟨c,rfl,hc'⟩:=(hc 2 _ _ rfl rfl).i;obtain⟨e,rfl,he⟩:=(hc 3 _ _ rfl rfl).i;obtain⟨f,rfl,hf⟩:=(hc 4 _ _ rfl rfl).i;obtain⟨g,rfl,hg⟩:=(hc 5 _ _ rfl rfl).i;exact⟨a,b,c,e,f,g,vI,h1,ha,hb,hc',he,hf,hg,hc 6 _ _ rfl rfl⟩
def isIff (p:Prop) (ys:List Int):Prop:= ∃c:Int,ys= [c]/\(c=0\/c=1)/\(c=1↔p)
theorem aG {p:Prop} (h: ¬p):isIff p [0]:=⟨0,rfl,.inl rfl,fun h'=>absurd h' (by omega),fun h'=>absurd h' h⟩
theorem aQ {p:Prop} (h:p):isIff p [1]:=⟨1,rfl,.inr rfl,fun _=>h,fun _=>rfl⟩
theorem isIff.eq {p:Prop} {a b:List Int} (h:isIff p a) (h':isIff p b):a=b:=by
 obtain⟨c,rfl,c1,c2⟩:=h;obtain⟨e,rfl,e1,e2⟩:=h';by_cases hp:p
 ·rw [c2.2 hp,e2.2 hp]
 ·have:c≠1:=fun h=>hp (c2.1 h);have:e≠1:=fun h=>hp (e2.1 h);rw [show c=e by omega]
theorem isIff.of {p q:Prop} {a:List Int} (h:isIff p a) (hpq:p↔q):isIff q a:=by obtain⟨c,h1,h2,h3⟩:=h;exact⟨c,h1,h2,h3.trans hpq⟩
theorem Tot.iff {j:Nat} {xs:List Int} {p q:Prop} (h:Tot j xs (isIff p)) (hpq:p↔q):Tot j xs (isIff q):=by obtain⟨ys,a,b⟩:=h;exact⟨ys,a,b.of hpq⟩
theorem Aq (a b:D):(enc a=enc b)=(a=b):=propext ⟨fun h=>gI h,fun h=>by rw [h]⟩
def bD (l:List Int):D:=dL (l.map .i)
def Ws (l:List Int):Prop:= ∀b∈l,0<=b/\b<256
theorem asV {d:D} (h:Wd .str d): ∃l,d=bD l/\Ws l:=by
 obtain⟨s,rfl⟩:=h.s;refine⟨s.data.toList.map fun b=>(b.toNat:Int),?_,fun b hb=>?_⟩
 ·unfold Bd wK bD;rw [aIy];rfl
 ·obtain⟨c,_,rfl⟩:=aHF.1 hb;have:=c.toNat_lt;omega
theorem Ym (l:List Int):(bD l).l=l.map .i:=by unfold bD; rw [aA]
theorem dZ (l:List Int):(bD l).l.length=l.length:=by rw [Ym,aH0]
theorem Df {l:List Int} {i:Nat} (h:i<l.length):((bD l).at (i:Int)).n=l[i]:=by rw [bF (by rw [dZ]; exact h)];simp only [Ym,List.getElem_map,D.n]
theorem aAu {l:List Int} (h:Ws l):Bs (bD l):=⟨by rw [Ym]; rfl,fun i hi=>by
 simp only [Ym,aH0,List.getElem_map,D.n] at hi ⊢
 exact h _ (aHk hi)⟩
theorem xO (l:List Int) (a b:Nat):dL (((bD l).l.take b).drop a)=bD ((l.take b).drop a):=by rw [Ym,bD,aJb,aIS]
theorem Ws.part {l:List Int} (h:Ws l) (a b:Nat):Ws ((l.take b).drop a):=fun x hx=>h x (aHS (aHQ hx))
def isLt (b:Int):Bool:=decide (97<=b/\b<=122\/65<=b/\b<=90\/b=95)
def PY (b:Int):Bool:=decide (48<=b/\b<=57)
def Ei (b:Int):Bool:=isLt b||PY b
theorem V8 {p:Int->Bool} (h:(List.range 256).all (fun k=>p (k:Int))=true) {b:Int} (h0:0<=b) (h1:b<256):p b=true:=by have:=aHz.1 h b.toNat (aH5.2 (by omega));rwa [show ((b.toNat:Nat):Int)=b by omega] at this
def aGh:List D:=[.p (.i 97) (.p (.i 99) (.p (.i 113) (.p (.i 117) (.p (.i 105) (.p (.i 114) (.p (.i 101) (.i 0))))))),.p (.i 97) (.p (.i 100) (.p (.i 100) (.i 0))),.p (.i 97) (.p (.i 114) (.p (.i 114) (.p (.i 105) (.p (.i 118) (.p (.i 101) (.i 0)))))),.p (.i 98) (.p (.i 97) (.p (.i 114) (.p (.i 114) (.p (.i 105) (.p (.i 101) (.p (.i 114) (.i 0))))))),.p (.i 98) (.p (.i 114) (.p (.i 111) (.p (.i 97) (.p (.i 100) (.p (.i 99) (.p (.i 97) (.p (.i 115) (.p (.i 116) (.i 0))))))))),.p (.i 99) (.p (.i 111) (.p (.i 110) (.p (.i 100) (.i 0)))),.p (.i 100) (.p (.i 111) (.i 0)),.p (.i 100) (.p (.i 111) (.p (.i 110) (.p (.i 101) (.i 0)))),.p (.i 101) (.p (.i 108) (.p (.i 115) (.p (.i 101) (.i 0)))),.p (.i 105) (.p (.i 102) (.i 0)),.p (.i 108) (.p (.i 111) (.p (.i 99) (.p (.i 107) (.i 0)))),.p (.i 108) (.p (.i 111) (.p (.i 99) (.p (.i 107) (.p (.i 102) (.p (.i 111) (.p (.i 114) (.i 0))))))),.p (.i 108) (.p (.i 111) (.p (.i 111) (.p (.i 112) (.i 0)))),.p (.i 109) (.p (.i 117) (.p (.i 116) (.p (.i 101) (.p (.i 120) (.i 0))))),.p (.i 111) (.p (.i 110) (.p (.i 99) (.p (.i 101) (.i 0)))),.p (.i 112) (.p (.i 117) (.p (.i 116) (.i 0))),.p (.i 113) (.p (.i 117) (.p (.i 101) (.p (.i 117) (.p (.i 101) (.i 0))))),.p (.i 114) (.p (.i 101) (.p (.i 97) (.p (.i 100) (.i 0)))),.p (.i 114) (.p (.i 101) (.p (.i 108) (.p (.i 101) (.p (.i 97) (.p (.i 115) (.p (.i 101) (.i 0))))))),.p (.i 114) (.p (.i 108) (.p (.i 111) (.p (.i 99) (.p (.i 107) (.i 0))))),.p (.i 114) (.p (.i 117) (.p (.i 110) (.p (.i 108) (.p (.i 111) (.p (.i 99) (.p (.i 107) (.i 0))))))),.p (.i 114) (.p (.i 119) (.p (.i 108) (.p (.i 111) (.p (.i 99) (.p (.i 107) (.i 0)))))),.p (.i 115) (.p (.i 101) (.p (.i 109) (.i 0))),.p (.i 115) (.p (.i 101) (.p (.i 116) (.i 0))),.p (.i 115) (.p (.i 105) (.p (.i 103) (.p (.i 110) (.p (.i 97) (.p (.i 108) (.i 0)))))),.p (.i 116) (.p (.i 97) (.p (.i 107) (.p (.i 101) (.i 0)))),.p (.i 116) (.p (.i 104) (.p (.i 114) (.p (.i 101) (.p (.i 97) (.p (.i 100) (.i 0)))))),.p (.i 116) (.p (.i 114) (.p (.i 121) (.p (.i 97) (.p (.i 99) (.p (.i 113) (.p (.i 117) (.p (.i 105) (.p (.i 114) (.p (.i 101) (.i 0)))))))))),.p (.i 116) (.p (.i 114) (.p (.i 121) (.p (.i 108) (.p (.i 111) (.p (.i 99) (.p (.i 107) (.i 0))))))),.p (.i 117) (.p (.i 110) (.p (.i 108) (.p (.i 111) (.p (.i 99) (.p (.i 107) (.i 0)))))),.p (.i 118) (.p (.i 97) (.p (.i 114) (.i 0))),.p (.i 119) (.p (.i 97) (.p (.i 105) (.p (.i 116) (.i 0)))),.p (.i 119) (.p (.i 97) (.p (.i 105) (.p (.i 116) (.p (.i 102) (.p (.i 111) (.p (.i 114) (.i 0))))))),.p (.i 119) (.p (.i 97) (.p (.i 105) (.p (.i 116) (.p (.i 111) (.p (.i 110) (.i 0)))))),.p (.i 119) (.p (.i 108) (.p (.i 111) (.p (.i 99) (.p (.i 107) (.i 0))))),.p (.i 119) (.p (.i 114) (.p (.i 105) (.p (.i 116) (.p (.i 101) (.i 0))))),.p (.i 119) (.p (.i 117) (.p (.i 110) (.p (.i 108) (.p (.i 111) (.p (.i 99) (.p (.i 107) (.i 0)))))))]
def Xw (z:Int):D:=(aGh[z.toNat]?).getD (.i 0)
def isKey (d:D):Prop:= ∃k:Nat,k<37/\d=Xw (k:Int)
theorem anK (d:D) (z:Int) (h0:0<=z) (h1:z<37):(d=Xw z->L 4801 [enc d,z]=some [1])/\(d≠Xw z->L 4801 [enc d,z]=L 4801 [enc d,z+1]):=by
 have w:IntKind.i64.wrap (z+1)=z+1:=jX (by omega) (by omega);rw [bU,aqC];have:z=0\/z=1\/z=2\/z=3\/z=4\/z=5\/z=6\/z=7\/z=8\/z=9\/z=10\/z=11\/z=12\/z=13\/z=14\/z=15\/z=16\/z=17\/z=18\/z=19\/z=20\/z=21\/z=22\/z=23\/z=24\/z=25\/z=26\/z=27\/z=28\/z=29\/z=30\/z=31\/z=32\/z=33\/z=34\/z=35\/z=36:=by omega
 rcases this with rfl|rfl|rfl|rfl|rfl|rfl|rfl|rfl|rfl|rfl|rfl|rfl|rfl|rfl|rfl|rfl|rfl|rfl|rfl|rfl|rfl|rfl|rfl|rfl|rfl|rfl|rfl|rfl|rfl|rfl|rfl|rfl|rfl|rfl|rfl|rfl|rfl<;>
 ·simp only [acO,zz,Aq,Int.reduceLT,Int.reduceEq,w];split
  ·rename_i h;exact⟨fun _=>rfl,fun h'=>absurd h h'⟩
  ·rename_i h;exact⟨fun h'=>absurd h' h,fun _=>rfl⟩
theorem Xv (d:D): ∀(m n:Nat),n+m=37->Tot 4801 [enc d,(n:Int)] (isIff (∃k:Nat,n<=k/\k<37/\d=Xw (k:Int)))
 |0,n,h=>by
  refine Tot.of ?_;rw [aqC];have c1: ¬(n:Int)<37:=by omega
  simp only [acO,zz,c1];exact .out (aG fun⟨k,a,b,_⟩=>by omega)
 |m+1,n,h=>by
  obtain⟨s1,s2⟩:=anK d (n:Int) (by omega) (by omega);by_cases hd:d=Xw (n:Int)
  ·exact⟨_,s1 hd,aQ ⟨n,aHh _,by omega,hd⟩⟩
  ·obtain⟨ys,h1,h2⟩:=Xv d m (n+1) (by omega);refine⟨ys,(s2 hd).trans h1,h2.of ⟨fun⟨k,a,b,c⟩=> ⟨k,by omega,b,c⟩,fun⟨k,a,b,c⟩=>?_⟩⟩;rcases aHw n k with h|h
   ·exact⟨k,h,b,c⟩
   ·rw [show k=n by omega] at c;exact absurd c hd
theorem aBU (d:D):Tot 4800 [enc d] (isIff (isKey d)):=by refine Tot.of ?_;rw [azO];simp only [akN,zz];exact .jump ((Xv d 37 0 (by omega)).iff ⟨fun⟨k,_,b,c⟩=> ⟨k,b,c⟩,fun⟨k,b,c⟩=> ⟨k,by omega,b,c⟩⟩)
theorem PD (x:Int) (k:D) (hk:k.l.length<=1000): ∀(j i:Nat),i+j=k.l.length->Tot 4951 [x,enc k,(i:Int)] (isIff (x∈(k.l.drop i).map D.n))
 |0,i,h=>by
  have c1: ¬(i:Int)<(k.l.length:Int):=by omega
  refine Tot.of ?_;rw [apY];simp only [acK,zz,c1];refine .out (aG ?_);rw [aHE (by omega)];simp
 |j+1,i,h=>by
  have hi:i<k.l.length:=by omega
  have c1:(i:Int)<(k.l.length:Int):=by omega
  have c2: ¬((i:Int)<0):=by omega
  have w:=aX (n:=i) (by omega);have ih:=PD x k hk j (i+1) (by omega);refine Tot.of ?_;rw [apY,aHt hi];simp only [acK,zz,c1,c2,bF hi,w];refine .ite (fun h=> .out (aQ ?_)) fun h=> .jump (ih.iff ?_)
  ·exact aHF.2 ⟨_,aHX ..,h⟩
  ·simp only [aHo,aHm];exact⟨.inr,fun h'=>h'.resolve_left fun e=>h e.symm⟩
theorem Dj (x:Int) (k:D) (hk:k.l.length<=1000):Tot 4950 [x,enc k] (isIff (x∈k.l.map D.n)):=by refine Tot.of ?_;rw [azM];simp only [akL,zz];exact .jump (PD x k hk k.l.length 0 (by omega))
def Ob (k:D) (p:Int->Bool):Bool:=(List.range 256).all fun z=>(k.l.map D.n).contains (z:Int) == p (z:Int)
theorem V7 {k:D} {p:Int->Bool} (h:Ob k p=true) {x:Int} (h0:0<=x) (h1:x<256):x∈k.l.map D.n↔p x=true:=by have:=V8 (p:=fun z=>(k.l.map D.n).contains z == p z) h h0 h1;rw [<- eq_of_beq this,aJp]
theorem RQ (l:List Int) (hb:Ws l) (k:D) (hk:k.l.length<=1000) (hl:l.length<=100000) (p:Int->Bool) (hp:Ob k p=true): ∀(j i:Nat),i+j=l.length->Tot 4901 [enc (bD l),enc k,(i:Int)] (isIff (∀b∈l.drop i,p b=true))
 |0,i,h=>by
  have c1: ¬(i:Int)<(l.length:Int):=by omega
  refine Tot.of ?_;rw [apZ];simp only [acL,zz,dZ,c1];refine .out (aQ ?_);rw [aHE (by omega)];simp
 |j+1,i,h=>by
  have hi:i<l.length:=by omega
  have c1:(i:Int)<(l.length:Int):=by omega
  have c2: ¬((i:Int)<0):=by omega
  have w:=aX (n:=i) (by omega);have ih:=RQ l hb k hk hl p hp j (i+1) (by omega);obtain⟨b1,b2⟩:=hb _ (aHk hi);obtain⟨ys,hA,c,rfl,hc,hx⟩:=Dj l[i] k hk;rw [V7 hp b1 b2] at hx;refine Tot.of ?_;rw [apZ,aHt hi];simp only [acL,zz,dZ,c1,c2,Df hi,w,hA];refine .ite (fun h=> .out (aG ?_)) fun h=> .jump (ih.iff ?_)
  ·intro h';have:=hx.2 (h' _ (aHX ..));omega
  ·have h1:=hx.1 (by omega);exact⟨fun q b hb=>(aHm.1 hb).elim (fun e=>e▸h1) (q b),fun q b hb=>q b (aH8 _ hb)⟩
theorem adP (l:List Int) (hb:Ws l) (k:D) (hk:k.l.length<=1000) (hl:l.length<=100000) (p:Int->Bool) (hp:Ob k p=true):Tot 4900 [enc (bD l),enc k] (isIff (∀b∈l,p b=true)):=by refine Tot.of ?_;rw [azN];simp only [akM,zz];exact .jump (RQ l hb k hk hl p hp l.length 0 (by omega))
theorem aEK:Ob b2 isLt=true:=by kernel_rfl
theorem aEJ:Ob b3 Ei=true:=by kernel_rfl
def nameP (l:List Int):Prop:=l.length<=16384/\(∃h:0<l.length,isLt l[0]=true)/\(∀b∈l,Ei b=true)/\¬isKey (bD l)
def dgD:D:=.p (.i 48) (.p (.i 49) (.p (.i 50) (.p (.i 51) (.p (.i 52) (.p (.i 53) (.p (.i 54) (.p (.i 55) (.p (.i 56) (.p (.i 57) (.i 0))))))))))
def sgD:D:=.p (.i 60) (.p (.i 43) (.p (.i 45) (.p (.i 42) (.p (.i 40) (.p (.i 41) (.p (.i 123) (.p (.i 125) (.p (.i 59) (.i 0)))))))))
theorem aEI:Ob dgD PY=true:=by kernel_rfl
def aBX (b:Int):Bool:=(sgD.l.map D.n).contains b
theorem aEH:Ob sgD aBX=true:=by kernel_rfl
theorem anE {b:Int} (h:isLt b=true) (h0:0<=b) (h1:b<256):PY b=false/\aBX b=false/\b≠61/\b≠45/\b≠35/\b≠10:=by have:=V8 (p:=fun k=>!(isLt k)||!(PY k)&&!(aBX k)) (by kernel_rfl) h0 h1;rw [h] at this;simp only [aIY,aII,aHg,aIj] at this;refine⟨this.1,this.2,?_⟩;simp only [isLt,decide_eq_true_eq] at h;omega
theorem kind_is (l:List Int) (hb:Ws l) (hl:l.length<=100000): ∃k:Int,L 4750 [enc (bD l)]=some [k]/\0<=k/\(k=2->∃h:0<l.length,isLt l[0]=true)/\
 (∀h:0<l.length,isLt l[0]=true->(k=0↔¬∀b∈l,Ei b=true)/\(k=2↔(∀b∈l,Ei b=true)/\¬isKey (bD l))/\k≠1):=by
 rw [bU,azP];by_cases h0:l.length=0
 ·obtain rfl:l= []:=aIk.1 h0;have:bD []= .i 0:=rfl;simp only [acP,zz,Aq,this];exact⟨0,rfl,by omega,fun h=>absurd h (by omega),fun h=>absurd h (by simp)⟩
 ·have hl0:0<l.length:=by omega
  have hne: ¬bD l= .i 0:=fun h=>by have:=congrArg (fun d=>d.l.length) h;simp only [dZ,D.l,aHD] at this;omega
  obtain⟨b1,b2⟩:=hb _ (aHk hl0);obtain⟨ys,hD,c,rfl,hc,hx⟩:=adP l hb dgD (aHW (by kernel_rfl)) hl PY aEI;obtain⟨ys,hL,e,rfl,he,hy⟩:=Dj l[0] As.Try.b2 (aHW (by kernel_rfl));rw [V7 aEK b1 b2] at hy;obtain⟨ys,hO,f,rfl,hf,hz⟩:=adP l hb b3 (aHW (by kernel_rfl)) hl Ei aEJ;obtain⟨ys,hK,g,rfl,hg,hk⟩:=aBU (bD l);obtain⟨ys,hS,u,rfl,hu,hs⟩:=Dj l[0] sgD (aHW (by kernel_rfl));rw [V7 aEH b1 b2] at hs;have hat:((bD l).at 0).n=l[0]:=Df hl0;have cl:(0:Int)<(l.length:Int):=by omega
  unfold dgD at hD;unfold sgD at hS;simp only [acP,zz,Aq,hne,hD,hat,hL,hO,hK,hS,dZ,cl]
  have fin0:isLt l[0]=true->(¬bD l= .p (.i 45) (.p (.i 62) (.i 0)))/\(¬bD l= .p (.i 61) (.p (.i 61) (.i 0)))/\c=0/\u=0:=fun q=>by
   obtain⟨q1,q2,q3,q4,_⟩:=anE q b1 b2;refine⟨fun h=>?_,fun h=>?_,?_,?_⟩
   ·rw [h] at hat; exact q4 hat.symm
   ·rw [h] at hat; exact q3 hat.symm
   ·have: ¬c=1:=fun h=>by
     have:=hx.1 h _ (aHk hl0);rw [q1] at this;cases this
    omega
   ·have: ¬u=1:=fun h=>by
     have:=hs.1 h;rw [q2] at this;cases this
    omega
  split
  ·rename_i hc0;split
   ·rename_i he0;have nl: ¬isLt l[0]=true:=fun h=>by have:=hy.2 h; omega
    repeat' first
     |exact⟨_,rfl,by omega,fun h=>absurd h (by omega),fun _ h=>absurd h nl⟩
     |split
   ·rename_i he1;have yl:isLt l[0]=true:=hy.1 (by omega);obtain⟨n1,n2,_,n4⟩:=fin0 yl;split
    ·rename_i hf0;have nw: ¬∀b∈l,Ei b=true:=fun h=>by have:=hz.2 h; omega
     repeat' first
      |exact⟨0,rfl,by omega,fun h=>absurd h (by omega),fun _ _=> ⟨⟨fun _=>nw,fun _=>rfl⟩,⟨fun h=>absurd h (by omega),fun h=>absurd h.1 nw⟩,by omega⟩⟩
      |split
    ·rename_i hf1;have yw:=hz.1 (by omega);split
     ·rename_i hg0;have nk: ¬isKey (bD l):=fun h=>by have:=hk.2 h; omega
      exact⟨2,rfl,by omega,fun _=> ⟨hl0,yl⟩,fun _ _=> ⟨⟨fun h=>absurd h (by omega),fun h=>absurd yw h⟩,⟨fun _=> ⟨yw,nk⟩,fun _=>rfl⟩,by omega⟩⟩
     ·rename_i hg1;have yk:=hk.1 (by omega);exact⟨3,rfl,by omega,fun h=>absurd h (by omega),fun _ _=> ⟨⟨fun h=>absurd h (by omega),fun h=>absurd yw h⟩,⟨fun h=>absurd h (by omega),fun h=>absurd yk h.2⟩,by omega⟩⟩
  ·rename_i hc0;exact⟨1,rfl,by omega,fun h=>absurd h (by omega),fun _ h=>absurd (fin0 h).2.2.1 hc0⟩
theorem Nv (l:List Int) (hb:Ws l) (hl:l.length<=100000): ∀(j i:Nat),i+j=l.length->Tot 4851 [enc (bD l),(i:Int)] Fp/\Tot 4852 [enc (bD l),(i:Int)] Fp
 |0,i,h=>by
  have c1: ¬(i:Int)<(l.length:Int):=by omega
  constructor
  ·refine Tot.of ?_;rw [afJ];simp only [WJ,zz,dZ,c1];exact .out Fh
  ·refine Tot.of ?_;rw [aqA];simp only [acM,zz,dZ,c1];exact .out Fh
 |j+1,i,h=>by
  have hi:i<l.length:=by omega
  have c1:(i:Int)<(l.length:Int):=by omega
  have c2: ¬((i:Int)<0):=by omega
  have w:=aX (n:=i) (by omega);obtain⟨i1,i2⟩:=Nv l hb hl j (i+1) (by omega);obtain⟨ys,hA,c,rfl,hc,hx⟩:=Dj l[i] (.p (.i 9) (.p (.i 10) (.p (.i 13) (.p (.i 32) (.i 0))))) (aHW (by kernel_rfl));constructor
  ·refine Tot.of ?_;rw [afJ];simp only [WJ,zz,dZ,c1,c2,Df hi,w,hA]
   repeat' first |exact .jump i1|exact .jump i2|exact .out Fj|refine .ite (fun _=>?_) (fun _=>?_)
  ·refine Tot.of ?_;rw [aqA];simp only [acM,zz,dZ,c1,c2,Df hi,w,hA]
   repeat' first |exact .jump i1|exact .jump i2|exact .out Fj|refine .ite (fun _=>?_) (fun _=>?_)
theorem amL (l:List Int) (hb:Ws l) (hl:l.length<=100000):Tot 4850 [enc (bD l)] Fp:=by refine Tot.of ?_;rw [aqB];simp only [acN,zz];exact .jump (Nv l hb hl l.length 0 (by omega)).1
theorem aFJ:(List.range 256).all (fun k=>!(isLt (k:Int))||!(((.p (.i 9) (.p (.i 10) (.p (.i 13) (.p (.i 32) (.i 0)))):D).l.map D.n).contains (k:Int)))=true:=by kernel_rfl
theorem amM (b:Int) (h:isLt b=true) (h0:0<=b) (h1:b<256):L 4850 [enc (bD [b])]=some [0]:=by
 obtain⟨_,_,_,_,n5,n6⟩:=anE h h0 h1;obtain⟨ys,hA,c,rfl,hc,hx⟩:=Dj b (.p (.i 9) (.p (.i 10) (.p (.i 13) (.p (.i 32) (.i 0))))) (aHW (by kernel_rfl))
 have hc0:c=0:=by
  have:=V8 (p:=fun k=>!(isLt k)||!(((.p (.i 9) (.p (.i 10) (.p (.i 13) (.p (.i 32) (.i 0)))):D).l.map D.n).contains k)) aFJ h0 h1;rw [h] at this
  have: ¬c=1:=fun q=>by have q:=hx.1 q;rw [<- aJp] at q;rw [q] at this;cases this
  omega
 subst hc0;have hat:((bD [b]).at 0).n=b:=Df (l:=[b]) (i:=0) (by simp);rw [bU,aqB];simp only [acN,zz,fin];rw [bU,afJ];simp only [WJ,zz,dZ,hat,n5,n6,hA,aHq,aHD,aHi,aHn,aHs,Int.reduceLT,fin]
def is2 (ys:List Int):Prop:= ∃a b:Int,ys= [a,b]
theorem Xl (l:List Int) (hl:l.length<=100000): ∀(j i:Nat) (n:Int),i+j=l.length->Tot 22002 [enc (bD l),n,(i:Int)] is2
 |0,i,n,h=>by
  have c1: ¬(i:Int)<(l.length:Int):=by omega
  refine Tot.of ?_;rw [aaV];simp only [Ug,zz,dZ,c1];exact .out ⟨_,_,rfl⟩
 |j+1,i,n,h=>by
  have c1:(i:Int)<(l.length:Int):=by omega
  have c2: ¬((i:Int)<0):=by omega
  have w:=aX (n:=i) (by omega);refine Tot.of ?_;rw [aaV];simp only [Ug,zz,dZ,c1,c2,w];exact .jump (Xl l hl j (i+1) _ (by omega))
theorem adS: ∀(m:Nat) (l:List Int),l.length<=m->l.length<=100000->Tot 22001 [enc (bD l)] is2
 |m,l,hm,hl=>by
  have e:=Xl l hl l.length 0 0 (by omega);have e':Tot 22002 [enc (bD l),0,0] is2:=e;refine Tot.of ?_;rw [aqU];simp only [Y0,zz,dZ,aHi,zg,D.hd,l_p,zF,aHl,ZJ,aHH,xO];refine .ite (fun h1=> .ite (fun _=>?_) fun _=>?_) fun _=> .jump e'
  ·obtain⟨m,rfl⟩ : ∃k,m=k+1:=⟨m-1,by omega⟩;exact .jump (adS m _ (by simp only [aHI,aHr,Int.toNat]; omega) (by simp only [aHI,aHr]; omega))
  ·repeat' first |exact .jump e'|exact .out ⟨_,_,rfl⟩|refine .ite (fun _=>?_) (fun _=>?_)
theorem Xk (l:List Int) (hl:l.length<=100000):Tot 22000 [enc (bD l)] is2:=by refine Tot.of ?_;rw [aqV];simp only [Y1,zz];exact .jump (adS l.length l (aHh _) hl)
theorem XI (l:List Int) (hb:Ws l) (hl:l.length<=16384): ∀(j i:Nat),i+j=l.length->∃p:Nat,i<=p/\p<=l.length/\L 4701 [enc (bD l),0,(i:Int)]=L 4702 [enc (bD l),(p:Int),1,0]
 |0,i,h=>by
  have c1: ¬(i:Int)<(l.length:Int):=by omega
  refine⟨i,aHh _,by omega,?_⟩;rw [bU,afK];simp only [WL,zz,dZ,c1,fin]
 |j+1,i,h=>by
  have c1:(i:Int)<(l.length:Int):=by omega
  have c2: ¬(((i+1:Nat):Int)<0):=by omega
  have c3: ¬(l.length:Int)<((i+1:Nat):Int):=by omega
  have w:=aX (n:=i) (by omega);obtain⟨p,p1,p2,p3⟩:=XI l hb hl j (i+1) (by omega);obtain⟨ys,hO,c,rfl,hc⟩:=amL ((l.take (i+1)).drop 0) (hb.part _ _) (by simp only [aHI,aHr]; omega);rw [bU,afK];simp only [WL,zz,dZ,c1,c2,c3,w,aHi,D.hd,l_p,zF,aHA,aHp,aHl,ZJ,aHH,xO,aI2,hO];rcases hc with rfl|rfl
  ·exact⟨i,aHh _,by omega,rfl⟩
  ·exact⟨p,by omega,p2,p3⟩
theorem avS (l:List Int) (hb:Ws l) (h0:0<l.length) (hl:isLt l[0]=true):L 4701 [enc (bD l),0,0]=L 4702 [enc (bD l),0,1,0]:=by
 obtain⟨b1,b2⟩:=hb _ (aHk h0);have hO:=amM _ hl b1 b2;have c1:(0:Int)<(l.length:Int):=by omega
 have c3: ¬(l.length:Int)<1:=by omega
 have w:IntKind.i64.wrap (0+1)=1:=jX (by omega) (by omega)
 have hp:(l.take 1).drop 0= [l[0]]:=by
  cases l with
  |nil=>simp at h0
  |cons a t=>simp
 rw [bU,afK];simp only [WL,zz,dZ,c1,c3,w,aHi,Int.reduceLT,D.hd,l_p,zF,aHA,aHp,aHl,ZJ,xO,aI2,Int.toNat_one,hp,hO,fin]
theorem Gu (l:List Int) (hb:Ws l) (hl:l.length<=16384) (p:Nat) (hp:p<=l.length): ∀(j i:Nat) (n:Int),i+j=p->∃n':Int,L 4702 [enc (bD l),(p:Int),n,(i:Int)]=if p=l.length then some [5,enc (.i 0),0,n',(p:Int),(p:Int),0,0] else L 4703 [enc (bD l),(p:Int),n',(p:Int),((p+1:Nat):Int)]
 |0,i,n,h=>by
  have c1: ¬(i:Int)<(p:Int):=by omega
  have w:=aX (n:=p) (by omega);have c2:((p:Int)=(l.length:Int))=(p=l.length):=by rw [aIN]
  refine⟨n,?_⟩;rw [bU,aqD];simp only [acQ,zz,dZ,c1,w,c2];split<;>rfl
 |j+1,i,n,h=>by
  have hi:i<l.length:=by omega
  have c1:(i:Int)<(p:Int):=by omega
  have c2: ¬((i:Int)<0):=by omega
  have c3:(i:Int)<(l.length:Int):=by omega
  have w:=aX (n:=i) (by omega);rw [bU,aqD];simp only [acQ,zz,dZ,c1,c2,c3,w,Df hi];split
  ·exact Gu l hb hl p hp j (i+1) _ (by omega)
  ·exact Gu l hb hl p hp j (i+1) _ (by omega)
def aEC (l:List Int) (p:Nat) (ys:List Int):Prop:= ∃k s n UR a e er el':Int,ys= [k,s,n,UR,a,e,er,el']/\(er=0->a=p/\∃E:Nat,E<=l.length/\e=E/\L 4750 [enc (bD ((l.take E).drop p))]=some [k])
theorem Ud (l:List Int) (hb:Ws l) (hl:l.length<=16384) (p:Nat) (UR:Int): ∀(j e to:Nat),to+j=l.length+1->p<=e->e<to->p<to->Tot 4703 [enc (bD l),(p:Int),UR,(e:Int),(to:Int)] (aEC l p)
 |j,e,to,h,h1,h2,h3=>by
  have hE:e<=l.length:=by omega
  obtain⟨k,hK,k0,_⟩:=kind_is ((l.take e).drop p) (hb.part _ _) (by simp only [aHI,aHr]; omega);obtain⟨ys,hN,n1,n2,rfl⟩:=Xk ((l.take e).drop p) (by simp only [aHI,aHr]; omega);have c1: ¬(p:Int)<0:=by omega
  have c2: ¬(e:Int)<(p:Int):=by omega
  have c3: ¬(l.length:Int)<(e:Int):=by omega
  have c5: ¬(to:Int)<(p:Int):=by omega
  by_cases hj:j=0
  ·have c4:(l.length:Int)<(to:Int):=by omega
   refine Tot.of ?_;rw [X7];simp only [QM,zz,dZ,c1,c2,c3,c4,D.hd,l_p,zF,aHA,aHp,aHl,ZJ,aHH,xO,hK,hN]
   repeat' first
    |exact .out ⟨_,_,_,_,_,_,_,_,rfl,fun h=>absurd h (by omega)⟩
    |exact .out ⟨_,_,_,_,_,_,_,_,rfl,fun _=> ⟨rfl,e,hE,rfl,hK⟩⟩
    |refine .ite (fun _=>?_) (fun _=>?_)
  ·obtain⟨j,rfl⟩ : ∃i,j=i+1:=⟨j-1,by omega⟩;have c4: ¬(l.length:Int)<(to:Int):=by omega
   have w:=aX (n:=to) (by omega);obtain⟨k',hK',_⟩:=kind_is ((l.take to).drop p) (hb.part _ _) (by simp only [aHI,aHr]; omega);have i1:=Ud l hb hl p UR j to (to+1) (by omega) (by omega) (by omega) (by omega);have i2:=Ud l hb hl p UR j e (to+1) (by omega) (by omega) (by omega) (by omega);refine Tot.of ?_;rw [X7];simp only [QM,zz,dZ,c1,c2,c3,c4,c5,D.hd,l_p,zF,aHA,aHp,aHl,ZJ,aHH,xO,hK,hN,hK',w]
   repeat' first
    |exact .jump i1
    |exact .jump i2
    |exact .out ⟨_,_,_,_,_,_,_,_,rfl,fun h=>absurd h (by omega)⟩
    |exact .out ⟨_,_,_,_,_,_,_,_,rfl,fun _=> ⟨rfl,e,hE,rfl,hK⟩⟩
    |refine .ite (fun _=>?_) (fun _=>?_)
theorem WH (l:List Int) (hb:Ws l) (hn:nameP l) (UR:Int): ∀(j e:Nat),e+j=l.length->L 4703 [enc (bD l),0,UR,(e:Int),((e+1:Nat):Int)]=some [2,enc (bD l),0,UR,0,(l.length:Int),0,0]
 |0,e,h=>by
  obtain⟨hl,⟨h0,h1⟩,h2,h3⟩:=hn;obtain⟨k,hK,k0,_,kk⟩:=kind_is l hb (by omega);obtain⟨_,k2,_⟩:=kk h0 h1;obtain rfl:=k2.2 ⟨h2,h3⟩;obtain rfl:e=l.length:=by omega
  have c2: ¬(l.length:Int)<0:=by omega
  have c4:(l.length:Int)<((l.length+1:Nat):Int):=by omega
  have hp:(l.take l.length).drop 0=l:=by simp
  rw [bU,X7];simp only [QM,zz,dZ,c2,c4,aHi,D.hd,l_p,zF,aHA,aHp,aHl,ZJ,aHH,xO,aI2,hp,hK,Int.reduceEq,fin]
 |j+1,e,h=>by
  have ih:=WH l hb hn UR j (e+1) (by omega);obtain⟨hl,⟨h0,h1⟩,h2,h3⟩:=hn;have hlen:((l.take (e+1)).drop 0).length=e+1:=by simp only [aHI,aHr]; omega
  obtain⟨k,hK,k0,_,kk⟩:=kind_is ((l.take (e+1)).drop 0) (hb.part _ _) (by omega);obtain⟨k1,_,_⟩:=kk (by omega) (by simpa using h1)
  have kp:0<k:=by have: ¬k=0:=fun q=>(k1.1 q) fun b hb=>h2 b (aHS (aHQ hb));omega
  have c2: ¬((e+1:Nat):Int)<0:=by omega
  have c4: ¬(l.length:Int)<((e+1:Nat):Int):=by omega
  have w:=aX (n:=e+1) (by omega);rw [bU,X7];simp only [QM,zz,dZ,c2,c4,aHi,D.hd,l_p,zF,aHA,aHp,aHl,ZJ,aHH,xO,aI2,hK,kp,w];split<;>exact ih
theorem amZ (l:List Int) (hb:Ws l):Tot 4650 [enc (bD l)] (isIff (nameP l)):=by
 have hno: ∀{k s n UR a e er el':Int},L 4700 [enc (bD l),0]=some [k,s,n,UR,a,e,er,el']->Tot 4650 [enc (bD l)] (isIff (er=0/\k=2/\a=0/\e=(l.length:Int))):=fun h=>by
  refine Tot.of ?_;rw [azQ];simp only [akO,zz,dZ,h]
  repeat' first
   |exact .out (aQ ⟨by assumption,by assumption,by assumption,by assumption⟩)
   |exact .out (aG fun h=>absurd h.1 (by assumption))
   |exact .out (aG fun h=>absurd h.2.1 (by assumption))
   |exact .out (aG fun h=>absurd h.2.2.1 (by assumption))
   |exact .out (aG fun h=>absurd h.2.2.2 (by assumption))
   |refine .ite (fun _=>?_) (fun _=>?_)
 by_cases hl:l.length<=16384
 ·have c1: ¬(16384:Int)<(l.length:Int):=by omega
  have c2: ¬(l.length:Int)<0:=by omega
  have h47:L 4700 [enc (bD l),0]=L 4701 [enc (bD l),0,0]:=by rw [bU,aqE];simp only [acR,zz,dZ,c1,c2,aHi,fin]
  by_cases hn:nameP l
  ·obtain⟨h0,h1⟩:=hn.2.1;have hf:=avS l hb h0 h1;obtain⟨n',hln⟩:=Gu l hb hl 0 (by omega) 0 0 1 rfl;rw [aHc (by omega)] at hln;have ht:=WH l hb hn n' l.length 0 (by omega);refine (hno (((h47.trans hf).trans hln).trans ht)).iff ⟨fun _=>hn,fun _=> ⟨rfl,rfl,rfl,rfl⟩⟩
  ·obtain⟨p,_,p2,p3⟩:=XI l hb hl l.length 0 (by omega);obtain⟨n',hln⟩:=Gu l hb hl p p2 p 0 1 (by omega);by_cases hp:p=l.length
   ·rw [aHd hp] at hln;exact (hno ((h47.trans p3).trans hln)).iff ⟨fun h=>absurd h.2.1 (by omega),fun h=>absurd h hn⟩
   ·rw [aHc hp] at hln;obtain⟨ys,hT,k,s,n,UR,a,e,er,el',rfl,hk⟩:=Ud l hb hl p n' (l.length-p) p (p+1) (by omega) (by omega) (by omega) (by omega);refine (hno (((h47.trans p3).trans hln).trans hT)).iff ⟨fun⟨q1,q2,q3,q4⟩=>?_,fun h=>absurd h hn⟩;obtain⟨r1,E,r2,r3,r4⟩:=hk q1;obtain rfl:p=0:=by omega
    obtain rfl:E=l.length:=by omega
    rw [aIF,aH4,q2] at r4;obtain⟨k',hK,_,kl,kk⟩:=kind_is l hb (by omega);rw [r4] at hK;simp only [aHe,List.cons.injEq,and_true] at hK;obtain⟨h0,h1⟩:=kl hK.symm;obtain⟨_,k2,_⟩:=kk h0 h1;obtain⟨w1,w2⟩:=k2.1 hK.symm;exact⟨hl,⟨h0,h1⟩,w1,w2⟩
 ·have c1:(16384:Int)<(l.length:Int):=by omega
  refine (hno (k:=0) (s:=enc (.i 0)) (n:=0) (UR:=0) (a:=0) (e:=0) (er:=3) (el':=0) ?_).iff ⟨fun h=>absurd h.1 (by omega),fun h=>absurd h.1 hl⟩;rw [bU,aqE];simp only [acR,zz,dZ,c1,fin]
theorem axP:(List.range 256).all (fun k=>((b0.at (k:Int)).n == 4) == isLt (k:Int)&&((b0.at (k:Int)).n == 3) == PY (k:Int))=true:=by kernel_rfl
theorem cls {b:Int} (h0:0<=b) (h1:b<256):((b0.at b).n=4↔isLt b=true)/\((b0.at b).n=3↔PY b=true):=by have:=V8 (p:=fun k=>((b0.at k).n == 4) == isLt k&&((b0.at k).n == 3) == PY k) axP h0 h1;simp only [aHg,beq_iff_eq] at this;obtain⟨p,q⟩:=this;exact⟨by rw [<- p,beq_iff_eq],by rw [<- q,beq_iff_eq]⟩
theorem Xc: ∀(x r:List D),(∀a∈x,a≠.i 32)->Jr (x++ [.i 32]) r=true->x=r.takeWhile fun a=>a≠.i 32
 |[],r,_,h=>by
  cases r with
  |nil=>rfl
  |cons a r=>
   simp only [aHx,Jr,aHg] at h;have ha:D.i 32=a:=by simpa using h.1
   subst ha;simp
 |a::x,[],_,h=>by simp [Jr] at h
 |a::x,b::r,hx,h=>by
  simp only [aHM,Jr,aHg] at h;have ha:a=b:=by simpa using h.1
  subst ha;have hne:=hx a (aHX ..);rw [List.takeWhile_cons,aHd (by simpa using hne),<- Xc x r (fun c hc=>hx c (aH8 _ hc)) h.2]
def wordsOf:List D->List (List D)
 |[]=>[]
 |a::r=>if a= .i 32 then (r.takeWhile fun a=>a≠.i 32)::wordsOf r else wordsOf r
theorem Yf (x:List D) (hx: ∀a∈x,a≠.i 32): ∀r:List D,Hr r (.i 32::(x++ [.i 32]))=true->x∈wordsOf r
 |[],h=>by simp [Hr,Jr] at h
 |a::r,h=>by
  simp only [Hr,Jr,aIh,aHg] at h;rcases h with ⟨h1,h2⟩|h
  ·have ha:D.i 32=a:=by simpa using h1
   subst ha;simp only [wordsOf,if_true];exact aHm.2 (.inl (Xc x r hx h2))
  ·have:=Yf x hx r h;simp only [wordsOf];split
   ·exact aH8 _ this
   ·exact this
theorem YS:(wordsOf b1.l).all (fun x=>x.isEmpty||(List.range 37).any fun k=>decide (dL x=Xw (k:Int)))=true:=by kernel_rfl
theorem anJ:(List.range 37).all (fun k=>Hr b1.l ((.i 32::(Xw (k:Int)).l)++ [.i 32]))=true:=by kernel_rfl
theorem afW (l:List Int) (h0:0<l.length) (hw: ∀b∈l,Ei b=true):Hr b1.l ((.i 32::(bD l).l)++ [.i 32])=true↔isKey (bD l):=by
 constructor
 ·intro h
  have hx: ∀a∈(bD l).l,a≠D.i 32:=by intro a ha;rw [Ym] at ha;obtain⟨b,hb,rfl⟩:=aHF.1 ha;intro q;injection q with q;have:=hw b hb;rw [q] at this;revert this;decide
  have:=Yf _ hx _ h;have:=aHz.1 YS _ this;rw [aIh] at this;rcases this with h|h
  ·have:=congrArg List.length (List.isEmpty_iff.1 h);rw [dZ] at this;simp only [aHD] at this;omega
  ·obtain⟨k,hk,h⟩:=aJm.1 h;exact⟨k,aH5.1 hk,by have:=of_decide_eq_true h; rw [Ym] at this; exact this⟩
 ·rintro⟨k,hk,h⟩;rw [h];exact aHz.1 anJ _ (aH5.2 hk)
theorem aiL (l:List Int) (hb:Ws l) (hl:l.length<=16384) (h0:0<l.length) (h1:isLt l[0]=true) (x:Int):L 12800 [enc (bD l),0]=some [0,enc (bD l),0,0]:=by
 obtain⟨b1,b2⟩:=hb _ (aHk h0);have c1:(0:Int)<(l.length:Int):=by omega
 have hc:=(cls b1 b2).1.2 h1;have b1: ¬l[0]<0:=by omega
 have hat:((bD l).at 0).n=l[0]:=Df h0;rw [bU,aaZ];simp only [Uj,zz,fin];rw [bU,aaY];simp only [MF,zz,dZ,c1,hat,b1,b2,hc,aHi,Int.reduceEq,fin]
theorem Fz (l:List Int) (hb:Ws l) (hl:l.length<=16384) (x1:Int): ∀(j i:Nat),i+j=l.length->∃p:Nat,i<=p/\p<=l.length/\(p=l.length↔∀b∈l.drop i,Ei b=true)/\L 12851 [enc (bD l),x1,4,(i:Int)]=some [0,enc (bD l),x1,(p:Int)]
 |0,i,h=>by
  have c1: ¬(i:Int)<(l.length:Int):=by omega
  refine⟨i,aHh _,by omega,⟨fun _=>?_,fun _=>by omega⟩,?_⟩
  ·rw [aHE (by omega)]; simp
  ·rw [bU,VH];simp only [IC,zz,dZ,c1,fin]
 |j+1,i,h=>by
  have hi:i<l.length:=by omega
  have c1:(i:Int)<(l.length:Int):=by omega
  have c2: ¬((i:Int)<0):=by omega
  have w:=aX (n:=i) (by omega);obtain⟨b1,b2⟩:=hb _ (aHk hi);obtain⟨q1,q2⟩:=cls b1 b2;have b1: ¬l[i]<0:=by omega
  obtain⟨p,p1,p2,p3,p4⟩:=Fz l hb hl x1 j (i+1) (by omega);have hd:l.drop i=l[i]::l.drop (i+1):=aHt hi;rw [bU,VH,hd];simp only [IC,zz,dZ,c1,c2,w,Df hi,b1,b2]
  have good:Ei l[i]=true->(p=l.length↔∀b∈l[i]::l.drop (i+1),Ei b=true):=fun g=>
   p3.trans ⟨fun q b hb=>(aHm.1 hb).elim (fun e=>e▸g) (q b),fun q b hb=>q b (aH8 _ hb)⟩
  split
  ·rename_i h3;exact⟨p,by omega,p2,good (by simp only [Ei,q2.1 h3,Bool.or_true]),p4⟩
  ·rename_i h3;split
   ·rename_i h4;exact⟨p,by omega,p2,good (by simp only [Ei,q1.1 h4,aJR]),p4⟩
   ·rename_i h4;refine⟨i,aHh _,by omega,⟨fun q=>by omega,fun q=>?_⟩,rfl⟩;have:=q _ (aHX ..);simp only [Ei,aIh] at this;rcases this with h|h
    ·exact absurd (q1.2 h) h4
    ·exact absurd (q2.2 h) h3
theorem I8 (l:List Int) (hb:Ws l):Tot 1000 [enc (bD l)] (isIff (nameP l)):=by
 have hno: ∀{k s n UR a e er el':Int},L 1050 [enc (bD l),0]=some [k,s,n,UR,a,e,er,el']->Tot 1000 [enc (bD l)] (isIff (er=0/\k=2/\IntKind.i64.wrap (e-a)=(l.length:Int))):=fun h=>by
  refine Tot.of ?_;rw [aAn];simp only [alM,zz,dZ,h]
  repeat' first
   |exact .out (aQ ⟨by assumption,by assumption,by assumption⟩)
   |exact .out (aG fun h=>absurd h.1 (by assumption))
   |exact .out (aG fun h=>absurd h.2.1 (by assumption))
   |exact .out (aG fun h=>absurd h.2.2 (by assumption))
   |refine .ite (fun _=>?_) (fun _=>?_)
 have bs:=aAu hb;by_cases hg:(16384:Int)<(l.length:Int)
 ·refine (hno (k:=0) (s:=enc (.i 0)) (n:=0) (UR:=0) (a:=0) (e:=0) (er:=3) (el':=0) ?_).iff ⟨fun h=>absurd h.1 (by omega),fun h=>absurd h.1 (by omega)⟩;rw [bU,afO];simp only [WR,zz,dZ,hg,fin]
 ·have hl:l.length<=16384:=by omega
  obtain⟨p,hp,hB⟩:=abJ (bD l) bs (by rw [dZ]; omega) 0 (by omega);rw [dZ] at hp;have hB':L 12800 [enc (bD l),0]=some [0,enc (bD l),0,(p:Int)]:=hB
  have hp0: ∀h0:0<l.length,isLt l[0]=true->p=0:=fun h0 h1=>by have:=aiL l hb hl h0 h1 0;rw [hB'] at this;simp only [aHe,List.cons.injEq,and_true,true_and] at this;omega
  have c0: ¬((0:Int)<0):=by omega
  have c1: ¬((l.length:Int)<0):=by omega
  have c2: ¬((p:Int)<0):=by omega
  have c3: ¬((l.length:Int)<(p:Int)):=by omega
  by_cases he:(p:Int)=(l.length:Int)
  ·have c9: ¬((l.length:Int)<(l.length:Int)):=by omega
   refine (hno (k:=5) (s:=enc (.i 0)) (n:=0) (er:=0) (el':=0) (by
    rw [bU,afO];simp only [WR,zz,dZ,hg,c0,c1,hB',c2,c3,he,c9,fin]
    rfl)).iff ⟨fun h=>absurd h.2.1 (by omega),fun h=>?_⟩
   obtain⟨h0,h1⟩:=h.2.1;have:=hp0 h0 h1;omega
  ·obtain⟨e,h1,h2,hE⟩:=apC (bD l) bs (by rw [dZ]; omega) p (by rw [dZ]; omega);rw [dZ] at h2;have c4: ¬((e:Int)<(p:Int)):=by omega
   have c5: ¬((l.length:Int)<(e:Int)):=by omega
   have hq:=hb.part p e;have hql:((l.take e).drop p).length=e-p:=by simp only [aHI,aHr]; omega
   have hq0:0<((l.take e).drop p).length:=by omega
   obtain⟨b1',b2'⟩:=hq _ (aHk hq0);obtain⟨na,nb,hN⟩:=ZG _ (aAu hq) (by rw [dZ]; omega);obtain⟨q1,q2⟩:=cls b1' b2';have b1': ¬((l.take e).drop p)[0]<0:=by omega
   have hat:((bD ((l.take e).drop p)).at 0).n=((l.take e).drop p)[0]:=Df hq0;have c6:(0:Int)<(((l.take e).drop p).length:Int):=by omega
   have c7:(((l.take e).drop p).length:Int)<1000000000:=by omega
   have c8:((([D.i 32]++(bD ((l.take e).drop p)).l:List D).length:Nat):Int)<1000000000:=by simp only [aHC,aHq,aHD,dZ]; omega
   have l32:(D.p (.i 32) (.i 0)).l= [.i 32]:=rfl
   have hl0:p=0->∃h0:0<l.length,((l.take e).drop p)[0]=l[0]:=fun hp=>by subst hp;exact⟨by omega,by simp⟩
   have key: ∀{k s n UR a e' er el':Int},L 1050 [enc (bD l),0]=some [k,s,n,UR,a,e',er,el']->(er=0/\k=2->isLt ((l.take e).drop p)[0]=true/\¬Hr As.Try.b1.l ((.i 32::(bD ((l.take e).drop p)).l)++ [.i 32])=true/\a=(p:Int)/\e'=(e:Int))->
    (p=0->e=l.length->isLt ((l.take e).drop p)[0]=true->¬Hr As.Try.b1.l ((.i 32::(bD ((l.take e).drop p)).l)++ [.i 32])=true->er=0/\k=2/\a=(p:Int)/\e'=(e:Int))->Tot 1000 [enc (bD l)] (isIff (nameP l)):=fun {k s n UR a e' er el'} hL k1 k2=>by
    refine (hno hL).iff ⟨fun⟨g1,g2,g3⟩=>?_,fun hn=>?_⟩
    ·obtain⟨f1,f2,rfl,rfl⟩:=k1 ⟨g1,g2⟩;rw [jX (by omega) (by omega)] at g3;obtain rfl:p=0:=by omega
     obtain rfl:e=l.length:=by omega
     obtain⟨h0,hh⟩:=hl0 rfl;rw [hh] at f1;obtain⟨p',p1,p2,p3,p4⟩:=Fz l hb hl 0 (l.length-1) 1 (by omega)
     have hE0:L 12850 [enc (bD l),0]=some [0,enc (bD l),0,(p':Int)]:=by
      obtain⟨d1,d2⟩:=hb _ (aHk h0);have hc:=(cls d1 d2).1.2 f1;have d1: ¬l[0]<0:=by omega
      have aoJ:((bD l).at 0).n=l[0]:=Df h0;have e1:(0:Int)<(l.length:Int):=by omega
      have w:IntKind.i64.wrap (0+1)=1:=jX (by omega) (by omega);rw [bU,VI];simp only [MC,zz,dZ,e1,aoJ,d1,d2,hc,w,aHi,Int.reduceEq,fin];exact p4
     have hE1:L 12850 [enc (bD l),0]=some [0,enc (bD l),0,(l.length:Int)]:=hE;rw [hE0] at hE1;simp only [aHe,List.cons.injEq,and_true,true_and] at hE1;have hw1:=p3.1 (by omega)
     have hw: ∀b∈l,Ei b=true:=fun b hb=>by
      have:l=l[0]::l.drop 1:=by have:=aHt h0;simpa using this
      rw [this] at hb;rcases aHm.1 hb with rfl|hb
      ·simp only [Ei,f1,aJR]
      ·exact hw1 b hb
     have hll:(l.take l.length).drop 0=l:=by simp
     rw [hll] at f2;exact⟨hl,⟨h0,f1⟩,hw,fun q=>f2 ((afW l h0 hw).2 q)⟩
    ·obtain⟨_,⟨h0,f1⟩,hw,f2⟩:=hn;obtain rfl:p=0:=hp0 h0 f1;obtain⟨p',p1,p2,p3,p4⟩:=Fz l hb hl 0 (l.length-1) 1 (by omega)
     have hE0:L 12850 [enc (bD l),0]=some [0,enc (bD l),0,(p':Int)]:=by
      obtain⟨d1,d2⟩:=hb _ (aHk h0);have hc:=(cls d1 d2).1.2 f1;have d1: ¬l[0]<0:=by omega
      have aoJ:((bD l).at 0).n=l[0]:=Df h0;have e1:(0:Int)<(l.length:Int):=by omega
      have w:IntKind.i64.wrap (0+1)=1:=jX (by omega) (by omega);rw [bU,VI];simp only [MC,zz,dZ,e1,aoJ,d1,d2,hc,w,aHi,Int.reduceEq,fin];exact p4
     have hE1:L 12850 [enc (bD l),0]=some [0,enc (bD l),0,(e:Int)]:=hE;rw [hE0] at hE1;simp only [aHe,List.cons.injEq,and_true,true_and] at hE1;have:p'=l.length:=p3.2 fun b hb=>hw b (aHQ hb);obtain rfl:e=l.length:=by omega
     obtain⟨_,hh⟩:=hl0 rfl;have hll:(l.take l.length).drop 0=l:=by simp
     obtain⟨g1,g2,rfl,rfl⟩:=k2 rfl rfl (by rw [hh]; exact f1) (by rw [hll]; exact fun q=>f2 ((afW l h0 hw).1 q));exact⟨g1,g2,jX (by omega) (by omega)⟩
   have n61:isLt ((l.take e).drop p)[0]=true->¬bD ((l.take e).drop p)= .p (.i 61) (.i 0):=fun g h=>by
    rw [h] at hat
    have:(61:Int)=((l.take e).drop p)[0]:=hat
    rw [<- this] at g;revert g;decide
   have h50:L 1050 [enc (bD l),0]=L 1050 [enc (bD l),0]:=rfl
   conv at h50=>rhs; rw [bU,afO]
   simp only [WR,zz,dZ,hg,c0,c1,hB',hE,c2,c3,c4,c5,he,D.hd,l_p,zF,ZJ,aHA,aHp,aHl,aHH,aI2,xO,hat,b1',b2',c6,c7,c8,hN,q1,q2,Aq,aA] at h50
   have ldg:isLt ((l.take e).drop p)[0]=true->¬PY ((l.take e).drop p)[0]=true:=fun g h=>by rw [(anE g (by omega) b2').1] at h;cases h
   by_cases gd:PY ((l.take e).drop p)[0]=true
   ·rw [aHd gd] at h50;split at h50
    ·exact key h50 (fun h=>absurd h.1 (by omega)) (fun _ _ h=>absurd gd (ldg h))
    ·exact key h50 (fun h=>absurd h.2 (by omega)) (fun _ _ h=>absurd gd (ldg h))
   ·rw [aHc gd] at h50;by_cases gl:isLt ((l.take e).drop p)[0]=true
    ·have g61:=n61 gl;rw [aHd gl] at h50;by_cases gc:Hr As.Try.b1.l ([D.i 32]++(bD ((l.take e).drop p)).l++ [.i 32])=true
     ·rw [aHc (by rw [aHd gc]; omega)] at h50;rw [aHc g61] at h50;exact key h50 (fun h=>absurd h.2 (by omega)) (fun _ _ _ h=>absurd gc h)
     ·rw [aHd (by rw [aHc gc])] at h50;rw [aHc g61] at h50;exact key h50 (fun _=> ⟨gl,gc,rfl,rfl⟩) (fun _ _ _ _=> ⟨rfl,rfl,rfl,rfl⟩)
    ·rw [aHc gl] at h50;split at h50
     ·split at h50
      ·exact key h50 (fun h=>absurd h.1 (by omega)) (fun _ _ h=>absurd h gl)
      ·exact key h50 (fun h=>absurd h.2 (by omega)) (fun _ _ h=>absurd h gl)
     ·exact key h50 (fun h=>absurd h.1 (by omega)) (fun _ _ h=>absurd h gl)
def Si (s:D):Prop:=nameP (s.l.map D.n)
theorem aFL (l:List Int):(bD l).l.map D.n=l:=by rw [Ym,aIy];exact aI7 _
theorem ZI {s:D} (h:Wd .str s):Tot 1000 [enc s] (isIff (Si s)):=by obtain⟨l,rfl,hb⟩:=asV h;unfold Si;rw [aFL];exact I8 l hb
theorem ahI {s:D} (h:Wd .str s):Tot 4650 [enc s] (isIff (Si s)):=by obtain⟨l,rfl,hb⟩:=asV h;unfold Si;rw [aFL];exact amZ l hb
theorem ajM {s:D} (h:Wd .str s): ∃b,(b=0\/b=1)/\(b=1↔Si s)/\L 12900 [enc s,0]=some [b,enc s,0]:=by
 obtain⟨ys,h,b,rfl,hb1,hb2⟩:=ZI h;rw [bU,aqZ];simp only [Y5,zz,h];rcases hb1 with rfl|rfl
 ·exact⟨0,.inl rfl,hb2,rfl⟩
 ·exact⟨1,.inr rfl,hb2,rfl⟩
def NI (loc k:Int) (s:D) (n:Int) (ks:D):Prop:=
 (k=1/\(ks.l.length:Int)=0/\s= .i 0/\0<=n)\/(k=2/\(ks.l.length:Int)=0/\0<=n/\n<loc/\Si s)\/
 (k=3/\n=0/\(((ks.l.length:Int)=1/\s= .p (.i 45) (.i 0))\/((ks.l.length:Int)=2/\(s= .p (.i 43) (.i 0)\/s= .p (.i 45) (.i 0)\/s= .p (.i 42) (.i 0)\/s= .p (.i 61) (.p (.i 61) (.i 0))\/s= .p (.i 60) (.i 0)))))
def Ox:Nat->Int->D->Prop
 |0,_,_=>False
 |v+1,loc,e=>(∀k∈(e.hd 3).l,Ox v loc k)/\NI loc (e.hd 0).n (e.hd 1) (e.hd 2).n (e.hd 3)
def Ou:Nat->D->Prop
 |0,_=>False
 |v+1,e=> ∀k∈(e.hd 3).l,Ou v k
def parts:Nat->D->Nat
 |0,_=>0
 |v+1,e=>1+((e.hd 3).l.map (parts v)).sum
theorem afE: ∀(v:Nat) (loc:Int) (e:D),Ox v loc e->Ou v e
 |0,_,_,h=>h
 |v+1,loc,e,h=>fun k hk=>afE v loc k (h.1 k hk)
theorem GY {kids:D} (h:Wd (.sl 6) kids) {i:Nat} (hi:i<kids.l.length): ∃k s n ks,kids.l[i]=dL [.i k,s,.i n,ks]/\oG .u8 k/\Wd .str s/\oG .i64 n/\Wd (.sl 6) ks/\(kids.l[i].hd 0).n=k/\kids.l[i].hd 1=s/\(kids.l[i].hd 2).n=n/\kids.l[i].hd 3=ks:=by obtain⟨k,s,n,ks,he,h1,h2,h3,h4⟩:=Va h hi;exact⟨k,s,n,ks,he,h1,h2,h3,h4,by rw [he,iV]; rfl,by rw [he,iV]; rfl,by rw [he,iV]; rfl,by rw [he,iV]; rfl⟩
def isW (v:Nat) (loc left:Int) (e:D) (ys:List Int):Prop:= ∃lf c:Int,ys= [lf,loc,c]/\(c=0\/c=1)/\(c=1↔Ox v loc e/\(parts v e:Int)<=left)/\(c=1->lf=left-parts v e)
def aBW (v:Nat) (loc left:Int) (l:List D) (p:Prop) (ys:List Int):Prop:= ∃lf c:Int,ys= [lf,loc,c]/\(c=0\/c=1)/\(c=1↔(∀k∈l,Ox v loc k)/\((l.map (parts v)).sum:Int)<=left/\p)/\(c=1->lf=left-(l.map (parts v)).sum)
theorem avJ {v:Nat} {loc left:Int} {p:Prop} (h0:0<=left) (h: ¬p):aBW v loc left [] p [left,loc,0]:=⟨_,_,rfl,.inl rfl,⟨fun h=>absurd h (by omega),fun h'=>absurd h'.2.2 h⟩,fun h=>absurd h (by omega)⟩
theorem anN {v:Nat} {loc left:Int} {p:Prop} (h0:0<=left) (h:p):aBW v loc left [] p [left,loc,1]:=⟨_,_,rfl,.inr rfl,⟨fun _=> ⟨by simp,by simpa using h0,h⟩,fun _=>rfl⟩,fun _=>by simp⟩
theorem JG: ∀(v deep:Nat),deep+v=21->∀(k n left loc:Int) (s kids e:D),Wd .str s->Wd (.sl 6) kids->0<=left->left<=1000->(e.hd 0).n=k->e.hd 1=s->(e.hd 2).n=n->e.hd 3=kids->
 Tot 5050 [k,enc s,n,enc kids,(deep:Int),left,loc] (isW v loc left e)
 |v,deep,hm,k,n,left,loc,s,kids,e,hs,hk,hl0,hl1,g0,g1,g2,g3=>by
  have wl:IntKind.i64.wrap (left-1)=left-1:=jX (by omega) (by omega);refine Tot.of ?_;rw [azK];simp only [akI,zz,wl]
  have p1:0<v->1<=parts v e:=fun h=>by obtain⟨v,rfl⟩ : ∃v',v=v'+1:=⟨v-1,by omega⟩;unfold parts;omega
  have no0: ¬Ox 0 loc e:=id;refine .ite (fun hh=> .out ⟨_,0,rfl,.inl rfl,⟨fun h=>absurd h (by omega),fun h=>?_⟩,fun h=>absurd h (by omega)⟩) fun hh=> .ite (fun hd=> .out ⟨_,0,rfl,.inl rfl,⟨fun h=>absurd h (by omega),fun h=>?_⟩,fun h=>absurd h (by omega)⟩) fun hd=> .jump ?_
  ·rcases aIt v with rfl|hv
   ·exact absurd h.1 no0
   ·have:=p1 hv;omega
  ·obtain rfl:v=0:=by omega
   exact absurd h.1 no0
  obtain⟨v,rfl⟩ : ∃v',v=v'+1:=⟨v-1,by omega⟩;have ih:=JG v (deep+1) (by omega);have hlen:=hk.len;have w0:=aX (n:=deep) (by omega)
  have loop: ∀(j i:Nat) (l':Int),i+j=kids.l.length->0<=l'->l'<=1000->Tot 5051 [(deep:Int),enc kids,(kids.l.length:Int),(i:Int),l',loc,k,enc s,n] (aBW v loc l' (kids.l.drop i) (NI loc k s n kids)):=by
   intro j
   induction j with
   |zero=>
    intro i l' hi q0 q1;have c1: ¬(i:Int)<(kids.l.length:Int):=by omega
    obtain⟨b,hb,hb2,hR⟩:=ajM hs;refine Tot.of ?_;rw [apW,aHE (by omega)];simp only [acJ,zz,c1,hR,Aq]
    repeat' first
     |(refine .out (avJ q0 ?_); unfold NI; grind)
     |(refine .out (anN q0 ?_); unfold NI; grind)
     |refine .ite (fun _=>?_) (fun _=>?_)
    all_goals (exfalso; omega)
   |succ j ih2=>
    intro i l' hi q0 q1;have hil:i<kids.l.length:=by omega
    have c1:(i:Int)<(kids.l.length:Int):=by omega
    have c2: ¬((i:Int)<0):=by omega
    have w:=aX (n:=i) (by omega);obtain⟨k',s',n',ks',he,_,h1,_,h2,f0,f1,f2,f3⟩:=GY hk hil;obtain⟨ys,hR,lf,c,rfl,hc,hc1,hc2⟩:=ih k' n' l' loc s' ks' kids.l[i] h1 h2 q0 q1 f0 f1 f2 f3;have hd:kids.l.drop i=kids.l[i]::kids.l.drop (i+1):=aHt hil;refine Tot.of ?_;rw [apW,hd];simp only [acJ,zz,c1,c2,bF hil,he,zg,w0,w,hR];rw [<- he];refine .ite (fun hc0=> .out ⟨_,0,rfl,.inl rfl,⟨fun h=>absurd h (by omega),fun h=>?_⟩,fun h=>absurd h (by omega)⟩) fun hc0=> .jump ?_
    ·have e1:=h.1 _ (aHX ..);have e2:=h.2.1;simp only [aHo,aI3] at e2;have:=hc1.2 ⟨e1,by omega⟩;omega
    ·have hcc:c=1:=by omega
     obtain⟨e1,e2⟩:=hc1.1 hcc;have e3:=hc2 hcc;obtain⟨ys,hQ,lf',c',rfl,d0,d1,d2⟩:=ih2 (i+1) lf (by omega) (by omega) (by omega);refine⟨_,hQ,lf',c',rfl,d0,?_,fun h=>?_⟩
     ·simp only [aHo,aI3];refine d1.trans ⟨fun⟨a,b,c⟩=> ⟨fun k hk=>(aHm.1 hk).elim (fun e=>e▸e1) (a k),by omega,c⟩,fun⟨a,b,c⟩=> ⟨fun k hk=>a k (aH8 _ hk),by omega,c⟩⟩
     ·simp only [aHo,aI3];have:=d2 h;omega
  obtain⟨ys,hQ,lf,c,rfl,d0,d1,d2⟩:=loop kids.l.length 0 (left-1) (by omega) (by omega) (by omega);refine⟨_,hQ,lf,c,rfl,d0,?_,fun h=>?_⟩
  ·simp only [Ox,parts,g0,g1,g2,g3];refine d1.trans ?_;rw [aH4];exact⟨fun⟨a,b,c⟩=> ⟨⟨a,c⟩,by omega⟩,fun⟨⟨a,c⟩,b⟩=> ⟨a,by omega,c⟩⟩
  ·have:=d2 h;simp only [parts,g3];rw [aH4] at this;omega
theorem Z5 (loc:Int) {kids:D} (hw:Wd (.sl 6) kids) {i:Nat} (hi:i<kids.l.length): ∃k s n ks,kids.l[i]=dL [.i k,s,.i n,ks]/\Tot 800 [k,enc s,n,enc ks,loc] (isIff (Ox 20 loc kids.l[i]/\parts 20 kids.l[i]<=1000)):=by
 obtain⟨k,s,n,ks,he,_,h1,_,h2,f0,f1,f2,f3⟩:=GY hw hi;obtain⟨ys,hR,lf,c,rfl,hc,hc1,hc2⟩:=JG 20 1 (by omega) k n 1000 loc s ks _ h1 h2 (by omega) (by omega) f0 f1 f2 f3;have hR':L 5050 [k,enc s,n,enc ks,1,1000,loc]=some [lf,loc,c]:=hR;refine⟨k,s,n,ks,he,Tot.of ?_⟩;rw [aFx];simp only [aBu,zz,hR'];refine .ite (fun h=> .out (aG fun h'=>?_)) fun h=> .out (aQ ?_)
 ·have:=hc1.2 ⟨h'.1,by omega⟩;omega
 ·obtain⟨a,b⟩:=hc1.1 (by omega);exact⟨a,by omega⟩
def aED (v:Nat) (e:D) (ys:List Int):Prop:= ∃c:Int,ys= [c]/\0<=c/\c<=10000+1000*v/\(c<=1000↔Ou v e/\parts v e<=1000)/\(c<=1000->c=parts v e)
def aBZ (v:Nat) (m:Int) (l:List D) (ys:List Int):Prop:= ∃c:Int,ys= [c]/\0<=c/\c<=11000+1000*v/\(c<=1000↔(∀k∈l,Ou v k)/\m+(l.map (parts v)).sum<=1000)/\(c<=1000->c=m+(l.map (parts v)).sum)
theorem Yc: ∀(v:Nat),v<=20->∀(k n:Int) (s kids e:D),Wd (.sl 6) kids->e.hd 3=kids->Tot 4300 [k,enc s,n,enc kids,(v:Int)] (aED v e)
 |0,_,k,n,s,kids,e,hk,g3=>by refine Tot.of ?_;rw [aqI];simp only [acV,zz];refine .ite (fun _=> .out ⟨10000,rfl,by omega,by omega,⟨fun h=>absurd h (by omega),fun h=>absurd h.1 id⟩,fun h=>absurd h (by omega)⟩) fun h=>absurd h (by omega)
 |v+1,hv,k,n,s,kids,e,hk,g3=>by
  have ih:=Yc v (by omega);have hlen:=hk.len;have wv:IntKind.i64.wrap (((v+1:Nat):Int)-1)=(v:Int):=by rw [jX (by omega) (by omega)]; omega
  have loop: ∀(j i:Nat) (m:Int),i+j=kids.l.length->0<=m->m<=11000+1000*v->Tot 4301 [((v+1:Nat):Int),m,(i:Int),k,enc s,n,enc kids] (aBZ v m (kids.l.drop i)):=by
   intro j
   induction j with
   |zero=>
    intro i m hi m0 m1;have c1: ¬(i:Int)<(kids.l.length:Int):=by omega
    refine Tot.of ?_;rw [aqH,aHE (by omega)];simp only [acU,zz,c1];exact .out ⟨m,rfl,m0,m1,⟨fun h=> ⟨by simp,by simpa using h⟩,fun h=>by simpa using h.2⟩,fun _=>by simp⟩
   |succ j ih2=>
    intro i m hi m0 m1;have hil:i<kids.l.length:=by omega
    have c1:(i:Int)<(kids.l.length:Int):=by omega
    have c2: ¬((i:Int)<0):=by omega
    have w:=aX (n:=i) (by omega);obtain⟨k',s',n',ks',he,_,h1,_,h2,f0,f1,f2,f3⟩:=GY hk hil;obtain⟨ys,hR,c,rfl,hc0,hc1,hc2,hc3⟩:=ih k' n' s' ks' kids.l[i] h2 f3;have hd:kids.l.drop i=kids.l[i]::kids.l.drop (i+1):=aHt hil;refine Tot.of ?_;rw [aqH,hd];simp only [acU,zz,c1,c2,bF hil,he,zg,wv,w,hR];rw [<- he];refine .ite (fun hm=> .out ⟨m,rfl,m0,m1,⟨fun h=>absurd h (by omega),fun h=>?_⟩,fun h=>absurd h (by omega)⟩) fun hm=> .jump ?_
    ·have:=h.2;omega
    ·have wm:IntKind.i64.wrap (m+c)=m+c:=jX (by omega) (by omega);rw [wm];obtain⟨ys,hQ,c',rfl,d0,d1,d2,d3⟩:=ih2 (i+1) (m+c) (by omega) (by omega) (by omega);refine⟨_,hQ,c',rfl,d0,d1,?_,fun h=>?_⟩
     ·simp only [aHo,aI3];refine d2.trans ⟨fun⟨a,b⟩=>?_,fun⟨a,b⟩=>?_⟩
      ·obtain⟨x1,x2⟩:=hc2.1 (by omega);have:=hc3 (by omega);exact⟨fun k hk=>(aHm.1 hk).elim (fun e=>e▸x1) (a k),by omega⟩
      ·have x1:=a _ (aHX ..);have x2:=hc2.2 ⟨x1,by omega⟩;have:=hc3 x2;exact⟨fun k hk=>a k (aH8 _ hk),by omega⟩
     ·simp only [aHo,aI3];have y1:=d3 h;have y2:=(d2.1 h).2;have:=hc3 (by omega);omega
  refine Tot.of ?_;rw [aqI];have c1: ¬((v+1:Nat):Int)<1:=by omega
  simp only [acV,zz,c1];refine .jump ?_;obtain⟨ys,hQ,c',rfl,d0,d1,d2,d3⟩:=loop kids.l.length 0 1 (by omega) (by omega) (by omega);rw [aH4] at d2 d3;refine⟨_,hQ,c',rfl,d0,by omega,?_,fun h=>?_⟩
  ·simp only [Ou,parts,g3];refine d2.trans ⟨fun⟨a,b⟩=> ⟨a,by omega⟩,fun⟨a,b⟩=> ⟨a,by omega⟩⟩
  ·have:=d3 h;simp only [parts,g3];omega
theorem afD: ∀(v:Nat),∀(k n loc:Int) (s kids e:D),Wd .str s->Wd (.sl 6) kids->Ou v e->(e.hd 0).n=k->e.hd 1=s->(e.hd 2).n=n->e.hd 3=kids->Tot 4350 [k,enc s,n,enc kids,loc] (isIff (Ox v loc e))
 |0,k,n,loc,s,kids,e,hs,hk,hf,g0,g1,g2,g3=>absurd hf id
 |v+1,k,n,loc,s,kids,e,hs,hk,hf,g0,g1,g2,g3=>by
  have ih:=afD v;have hlen:=hk.len;simp only [Ou,g3] at hf
  have loop: ∀(j i:Nat),i+j=kids.l.length->Tot 4351 [loc,(i:Int),k,enc s,n,enc kids] (isIff ((∀x∈kids.l.drop i,Ox v loc x)/\NI loc k s n kids)):=by
   intro j
   induction j with
   |zero=>
    intro i hi;have c1: ¬(i:Int)<(kids.l.length:Int):=by omega
    obtain⟨ys,hR,b,rfl,hb,hb2⟩:=ahI hs;refine Tot.of ?_;rw [aqG,aHE (by omega)];simp only [acT,zz,c1,hR,Aq]
    repeat' first
     |(refine .out (aG fun h=>absurd h.2 ?_); unfold NI; grind)
     |(refine .out (aQ ⟨by simp,?_⟩); unfold NI; grind)
     |refine .ite (fun _=>?_) (fun _=>?_)
   |succ j ih2=>
    intro i hi;have hil:i<kids.l.length:=by omega
    have c1:(i:Int)<(kids.l.length:Int):=by omega
    have c2: ¬((i:Int)<0):=by omega
    have w:=aX (n:=i) (by omega);obtain⟨k',s',n',ks',he,_,h1,_,h2,f0,f1,f2,f3⟩:=GY hk hil;obtain⟨ys,hR,c,rfl,hc,hc1⟩:=ih k' n' loc s' ks' kids.l[i] h1 h2 (hf _ (aHk hil)) f0 f1 f2 f3;have hd:kids.l.drop i=kids.l[i]::kids.l.drop (i+1):=aHt hil;refine Tot.of ?_;rw [aqG,hd];simp only [acT,zz,c1,c2,bF hil,he,zg,w,hR];rw [<- he];refine .ite (fun h0=> .out (aG fun h=>?_)) fun h0=> .jump ((ih2 (i+1) (by omega)).iff ?_)
    ·have:=hc1.2 (h.1 _ (aHX ..));omega
    ·have h1:=hc1.1 (by omega);exact⟨fun⟨q,p⟩=> ⟨fun b hb=>(aHm.1 hb).elim (fun e=>e▸h1) (q b),p⟩,fun⟨q,p⟩=> ⟨fun b hb=>q b (aH8 _ hb),p⟩⟩
  refine Tot.of ?_;rw [azW];simp only [akU,zz];refine .jump ((loop kids.l.length 0 (by omega)).iff ?_);simp only [Ox,g0,g1,g2,g3,aH4]
def kOf (o:Int):Int:=if o<=4 then 1 else if o<=8 then 2 else if o<=11 then 3 else if o<=14 then 4 else if o=15 then 5 else if o=16 then 6 else if o<=19 then 7 else if o<=21 then 8 else 9
def LP (o:Int):Int:=if o=4\/o=17\/o=20\/o=23 then 1 else 0
def Ey (o:Int):Int:=if o=3\/o=4\/o=11\/o=21\/o=22 then 1 else 0
theorem dQ (o:Int):1<=kOf o/\kOf o<=9:=by unfold kOf; grind
theorem dS (o:Int):LP o=0\/LP o=1:=by unfold LP; grind
theorem dR (o:Int):Ey o=0\/Ey o=1:=by unfold Ey; grind
theorem iJ (o:Int):L 1200 [o]=some [kOf o]:=by
 have:Tot 1200 [o] (fun ys=>ys= [kOf o]):=by
  refine Tot.of ?_;rw [aAj];simp only [alJ,zz]
  repeat' first |(refine .out (congrArg (fun x=>[x]) ?_); unfold kOf; grind)|refine .ite (fun _=>?_) (fun _=>?_)
 obtain⟨ys,h,rfl⟩:=this;exact h
theorem xP (o:Int):L 1250 [o]=some [LP o]:=by
 have:Tot 1250 [o] (fun ys=>ys= [LP o]):=by
  refine Tot.of ?_;rw [aAi];simp only [alI,zz]
  repeat' first |(refine .out (congrArg (fun x=>[x]) ?_); unfold LP; grind)|refine .ite (fun _=>?_) (fun _=>?_)
 obtain⟨ys,h,rfl⟩:=this;exact h
theorem xH (o:Int):L 1300 [o]=some [Ey o]:=by
 have:Tot 1300 [o] (fun ys=>ys= [Ey o]):=by
  refine Tot.of ?_;rw [aAh];simp only [alH,zz]
  repeat' first |(refine .out (congrArg (fun x=>[x]) ?_); unfold Ey; grind)|refine .ite (fun _=>?_) (fun _=>?_)
 obtain⟨ys,h,rfl⟩:=this;exact h
theorem W9 (o:Int):L 4450 [o]=some [if 1<=o/\o<=23 then kOf o else 0]:=by
 have:Tot 4450 [o] (fun ys=>ys= [if 1<=o/\o<=23 then kOf o else 0]):=by
  refine Tot.of ?_;rw [azU];simp only [akS,zz]
  repeat' first |(refine .out (congrArg (fun x=>[x]) ?_); unfold kOf; grind)|refine .ite (fun _=>?_) (fun _=>?_)
 obtain⟨ys,h,rfl⟩:=this;exact h
theorem ZA (o:Int):L 4550 [o]=some [LP o]:=by
 have:Tot 4550 [o] (fun ys=>ys= [LP o]):=by
  refine Tot.of ?_;rw [azS];simp only [akQ,zz]
  repeat' first |(refine .out (congrArg (fun x=>[x]) ?_); unfold LP; grind)|refine .ite (fun _=>?_) (fun _=>?_)
 obtain⟨ys,h,rfl⟩:=this;exact h
theorem Zz (o:Int):L 4600 [o]=some [Ey o]:=by
 have:Tot 4600 [o] (fun ys=>ys= [Ey o]):=by
  refine Tot.of ?_;rw [azR];simp only [akP,zz]
  repeat' first |(refine .out (congrArg (fun x=>[x]) ?_); unfold Ey; grind)|refine .ite (fun _=>?_) (fun _=>?_)
 obtain⟨ys,h,rfl⟩:=this;exact h
theorem iP (n b:Int):Tot 4500 [n,b] (isIff (0<=n/\n<b)):=by refine Tot.of ?_;rw [azT];simp only [akR,zz];exact .ite (fun _=> .out (aG (by omega))) fun _=> .ite (fun _=> .out (aQ (by omega))) fun _=> .out (aG (by omega))
theorem O8 (k:Int):Tot 1350 [k] (isIff (k=3\/k=5\/k=8\/k=9)):=by
 refine Tot.of ?_;rw [aAg];simp only [alG,zz]
 repeat' first |exact .out (aQ (by omega))|exact .out (aG (by omega))|refine .ite (fun _=>?_) (fun _=>?_)
theorem ahN:(List.range 37).all (fun k=>Nat.ble 2 (Xw (k:Int)).l.length)=true:=by kernel_rfl
theorem amX (b:Int) (h0:0<=b) (h1:b<256) (h:isLt b=true):L 1000 [enc (.p (.i b) (.i 0))]=some [1]:=by
 obtain⟨ys,hL,c,rfl,hc,hx⟩:=I8 [b] (fun x hx=>by obtain rfl:=aIG.1 hx; exact⟨h0,h1⟩)
 have:c=1:=hx.2 ⟨by simp,⟨by simp,h⟩,fun x hx=>by obtain rfl:=aIG.1 hx; simp only [Ei,h,aJR],fun⟨k,hk,q⟩=>by
  have:=aHz.1 ahN _ (aH5.2 hk);have:=aHW this;rw [<- q,dZ] at this
  simp at this⟩
 rw [this] at hL;exact hL
theorem aEs:L 1000 [enc (.p (.i 97) (.i 0))]=some [1]:=amX 97 (by omega) (by omega) (by decide)
theorem aEr:L 1000 [enc (.p (.i 98) (.i 0))]=some [1]:=amX 98 (by omega) (by omega) (by decide)
theorem I7:L 1000 [enc (.i 0)]=some [0]:=by
 obtain⟨ys,hL,c,rfl,hc,hx⟩:=I8 [] (fun x hx=>by simp at hx)
 have: ¬c=1:=fun h=>by obtain⟨h0,_⟩:=(hx.1 h).2.1;simp at h0
 rw [show c=0 by omega] at hL;exact hL
theorem aGb: ¬(D.p (.i 98) (.i 0)= .i 0):=by intro h; cases h
theorem adQ (k n z:Int):Tot 1400 [k,enc (.p (.i 97) (.i 0)),n,enc (.i 0),z] (isIff (1<=k/\k<=9/\k≠4/\0<=n/\(0<n->k=3\/k=5\/k=8\/k=9))):=by
 obtain⟨ys,hC,c,rfl,hc,hx⟩:=O8 k;refine Tot.of ?_;rw [afN];simp only [WQ,zz,aEs,I7,hC]
 repeat' first |exact .out (aQ (by omega))|exact .out (aG (by omega))|refine .ite (fun _=>?_) (fun _=>?_)
theorem UH (k n z:Int):Tot 1400 [k,enc (.p (.i 97) (.i 0)),n,enc (.p (.i 98) (.i 0)),z] (isIff (k=4/\n=0)):=by
 obtain⟨ys,hC,c,rfl,hc,hx⟩:=O8 k;refine Tot.of ?_;rw [afN];simp only [WQ,zz,aEs,aEr,hC,Aq,aGb]
 repeat' first |exact .out (aQ (by omega))|exact .out (aG (by omega))|refine .ite (fun _=>?_) (fun _=>?_)
theorem RV:L 1400 [1,enc (.p (.i 98) (.i 0)),0,enc (.i 0),0]=some [1]:=by
 have:Tot 1400 [1,enc (.p (.i 98) (.i 0)),0,enc (.i 0),0] (fun ys=>ys= [1]):=by
  refine Tot.of ?_;rw [afN];simp only [WQ,zz,aEr]
  repeat' first |exact .out rfl|refine .ite (fun _=>?_) (fun _=>?_)|(exfalso; omega)|(exfalso; rename_i h; exact h rfl)
 obtain⟨ys,h,rfl⟩:=this;exact h
theorem UZ:((dL [E1]).l.length:Int)=1:=rfl
def ahO (P:Prop) (ys:List Int):Prop:= ∃b l,ys=b::l/\(b=0\/b=1)/\(b=1↔P)
theorem U3 {P:Prop} {l:List Int} (h: ¬P):ahO P (0::l):=⟨0,l,rfl,.inl rfl,fun h'=>absurd h' (by omega),fun h'=>absurd h' h⟩
theorem U2 {P:Prop} {l:List Int} (h:P):ahO P (1::l):=⟨1,l,rfl,.inr rfl,fun _=>h,fun _=>rfl⟩
def obP (k n:Int):Prop:=1<=k/\k<=9/\k≠4/\0<=n/\(0<n->k=3\/k=5\/k=8\/k=9)
theorem Bv (k n op:Int):Tot 12400 [k,n,0,0,op,0,0] (ahO (obP k n/\1<=op/\op<=23/\LP op=0/\Ey op=0)):=by
 obtain⟨ys,h1,o,rfl,ho,hx⟩:=adQ k n 0;have h2:=xP op;have h3:=xH op;have vK:=dR op;have wS:=dS op;refine Tot.of ?_;rw [arH];simp only [Y9,zz,h1,h2,h3,I7,Ls];unfold obP
 repeat' first |exact .out (U3 (by omega))|exact .out (U2 (by omega))|refine .ite (fun _=>?_) (fun _=>?_)
theorem Bq (k n op:Int):Tot 12500 [k,n,0,0,op,0,0] (ahO (obP k n/\1<=op/\op<=23/\LP op=0/\Ey op=1)):=by
 obtain⟨ys,h1,o,rfl,ho,hx⟩:=adQ k n 0;have h2:=xP op;have h3:=xH op;have vK:=dR op;have wS:=dS op;refine Tot.of ?_;rw [arF];simp only [Y7,zz,h1,h2,h3,I7,Ls];unfold obP
 repeat' first |exact .out (U3 (by omega))|exact .out (U2 (by omega))|refine .ite (fun _=>?_) (fun _=>?_)
theorem ajC (k op:Int):Tot 12450 [0,0,k,0,0,0,op,0,0] (ahO (k=4/\1<=op/\op<=23/\LP op=0/\Ey op=0)):=by
 obtain⟨ys,h1,o,rfl,ho,hx⟩:=UH k 0 0;have h2:=xP op;have h3:=xH op;have vK:=dR op;have wS:=dS op;refine Tot.of ?_;rw [arG];simp only [Y8,zz,h1,h2,h3,I7,Ls,RV]
 repeat' first |exact .out (U3 (by omega))|exact .out (U2 (by omega))|refine .ite (fun _=>?_) (fun _=>?_)
theorem ajB (k op:Int):Tot 12550 [0,0,k,0,0,0,op,0,0] (ahO (k=4/\1<=op/\op<=23/\LP op=0/\Ey op=1)):=by
 obtain⟨ys,h1,o,rfl,ho,hx⟩:=UH k 0 0;have h2:=xP op;have h3:=xH op;have vK:=dR op;have wS:=dS op;refine Tot.of ?_;rw [arE];simp only [Y6,zz,h1,h2,h3,I7,Ls,RV]
 repeat' first |exact .out (U3 (by omega))|exact .out (U2 (by omega))|refine .ite (fun _=>?_) (fun _=>?_)
def rP (P:Prop) (m k:Nat) (ys:List Int):Prop:=(¬(P/\m=1)/\∃l,ys=0::l)\/(P/\m=1/\low ys 0=1/\low ys k=1/\low ys (k+1)=enc (dL [E1]))
theorem Bo (m:Nat) (hm:1<=m) (k n op:Int):Tot 12600 [k,n,0,0,op,0,enc (lQ m),0] (rP (obP k n/\1<=op/\op<=23/\LP op=1/\Ey op=0) m 9):=by
 obtain⟨ys,h1,o,rfl,ho,hx⟩:=adQ k n 0;have h2:=xP op;have h3:=xH op;have vK:=dR op;have wS:=dS op;refine Tot.of ?_;rw [arD];unfold rP obP;by_cases h:m=1
 ·subst h;have h5:=D5;simp only [Un,zz,h1,h2,h3,I7,lQ,List.replicate,h5,UZ]
  repeat' first |exact .out (.inl ⟨by omega,_,rfl⟩)|exact .out (.inr ⟨by omega,rfl,rfl,rfl⟩)|refine .ite (fun _=>?_) (fun _=>?_)
 ·have c1: ¬((m:Int)=LP op):=by omega
  simp only [Un,zz,h1,h2,h3,I7,yQ,c1]
  repeat' first |exact .out (.inl ⟨by omega,_,rfl⟩)|refine .ite (fun _=>?_) (fun _=>?_)
theorem Bl (m:Nat) (hm:1<=m) (k n op:Int):Tot 12700 [k,n,0,0,op,0,enc (lQ m),0] (rP (obP k n/\1<=op/\op<=23/\LP op=1/\Ey op=1) m 9):=by
 obtain⟨ys,h1,o,rfl,ho,hx⟩:=adQ k n 0;have h2:=xP op;have h3:=xH op;have vK:=dR op;have wS:=dS op;refine Tot.of ?_;rw [arB];unfold rP obP;by_cases h:m=1
 ·subst h;have h5:=D5;simp only [Ul,zz,h1,h2,h3,I7,lQ,List.replicate,h5,UZ]
  repeat' first |exact .out (.inl ⟨by omega,_,rfl⟩)|exact .out (.inr ⟨by omega,rfl,rfl,rfl⟩)|refine .ite (fun _=>?_) (fun _=>?_)
 ·have c1: ¬((m:Int)=LP op):=by omega
  simp only [Ul,zz,h1,h2,h3,I7,yQ,c1]
  repeat' first |exact .out (.inl ⟨by omega,_,rfl⟩)|refine .ite (fun _=>?_) (fun _=>?_)
theorem ajA (m:Nat) (hm:1<=m) (k op:Int):Tot 12650 [0,0,k,0,0,0,op,0,enc (lQ m),0] (rP (k=4/\1<=op/\op<=23/\LP op=1/\Ey op=0) m 11):=by
 obtain⟨ys,h1,o,rfl,ho,hx⟩:=UH k 0 0;have h2:=xP op;have h3:=xH op;have vK:=dR op;have wS:=dS op;refine Tot.of ?_;rw [arC];unfold rP;by_cases h:m=1
 ·subst h;have h5:=D5;simp only [Um,zz,h1,h2,h3,I7,RV,lQ,List.replicate,h5,UZ]
  repeat' first |exact .out (.inl ⟨by omega,_,rfl⟩)|exact .out (.inr ⟨by omega,rfl,rfl,rfl⟩)|refine .ite (fun _=>?_) (fun _=>?_)
 ·have c1: ¬((m:Int)=LP op):=by omega
  simp only [Um,zz,h1,h2,h3,I7,RV,yQ,c1]
  repeat' first |exact .out (.inl ⟨by omega,_,rfl⟩)|refine .ite (fun _=>?_) (fun _=>?_)
theorem aiZ (m:Nat) (hm:1<=m) (k op:Int):Tot 12750 [0,0,k,0,0,0,op,0,enc (lQ m),0] (rP (k=4/\1<=op/\op<=23/\LP op=1/\Ey op=1) m 11):=by
 obtain⟨ys,h1,o,rfl,ho,hx⟩:=UH k 0 0;have h2:=xP op;have h3:=xH op;have vK:=dR op;have wS:=dS op;refine Tot.of ?_;rw [arA];unfold rP;by_cases h:m=1
 ·subst h;have h5:=D5;simp only [Uk,zz,h1,h2,h3,I7,RV,lQ,List.replicate,h5,UZ]
  repeat' first |exact .out (.inl ⟨by omega,_,rfl⟩)|exact .out (.inr ⟨by omega,rfl,rfl,rfl⟩)|refine .ite (fun _=>?_) (fun _=>?_)
 ·have c1: ¬((m:Int)=LP op):=by omega
  simp only [Uk,zz,h1,h2,h3,I7,RV,yQ,c1]
  repeat' first |exact .out (.inl ⟨by omega,_,rfl⟩)|refine .ite (fun _=>?_) (fun _=>?_)
def aN (k op into:Int) (m:Nat) (loc:Int):Prop:=1<=op/\op<=23/\k=kOf op/\(m:Int)=LP op/\((into= -1/\Ey op=0)\/(into≠-1/\Ey op=1/\loc≠0))
theorem dG:((D.i 0).l.length:Int)=0:=rfl
theorem bM (k:D):((Fa (D.i 0).l k (.i 1)).length:Int)=1:=rfl
theorem nG {k:Int}:obP k 1↔k=3\/k=5\/k=8\/k=9:=by unfold obP; omega
theorem JQ {k:Int}:obP k 0↔1<=k/\k<=9/\k≠4:=by unfold obP; omega
theorem aBn (x0 x2 x3 x4 x5 x6 x7 x8:Int) (hn:x5= -1) (hk:x0=3):Tot 951 [x0,0,x2,x3,x4,x5,x6,x7,x8] (isIff (aN x0 x3 x5 0 0)):=by
 subst hk;obtain⟨ys,a1,b1,l1,rfl,f1,g1⟩:=Bv 3 1 x3;rw [nG] at g1;have a7:=iJ x3;have k9:=dQ x3;have wS:=dS x3;have vK:=dR x3;refine Tot.of ?_;rw [KI];simp only [IB,zz,aHi,hn,a1,a7,lK,lJ,dG,bM,aA,Int.reduceLT,Int.reduceEq]
 repeat' first |exact .out (aG (by unfold aN; omega))|exact .out (aQ (by unfold aN; omega))|refine .ite (fun _=>?_) (fun _=>?_)|(exfalso; omega)
theorem aBk (x0 x2 x3 x4 x5 x6 x7 x8:Int) (hn:x5= -1) (hk:x0=8):Tot 951 [x0,0,x2,x3,x4,x5,x6,x7,x8] (isIff (aN x0 x3 x5 0 0)):=by
 subst hk;obtain⟨ys,a1,b1,l1,rfl,f1,g1⟩:=Bv 8 1 x3;rw [nG] at g1;have a7:=iJ x3;have k9:=dQ x3;have wS:=dS x3;have vK:=dR x3;refine Tot.of ?_;rw [KI];simp only [IB,zz,aHi,hn,a1,a7,lK,lJ,dG,bM,aA,Int.reduceLT,Int.reduceEq]
 repeat' first |exact .out (aG (by unfold aN; omega))|exact .out (aQ (by unfold aN; omega))|refine .ite (fun _=>?_) (fun _=>?_)|(exfalso; omega)
theorem aBl (x0 x2 x3 x4 x5 x6 x7 x8:Int) (hn:x5= -1) (hk:x0=5):Tot 951 [x0,0,x2,x3,x4,x5,x6,x7,x8] (isIff (aN x0 x3 x5 0 0)):=by
 subst hk;obtain⟨ys,a1,b1,l1,rfl,f1,g1⟩:=Bv 5 1 x3;rw [nG] at g1;have a7:=iJ x3;have k9:=dQ x3;have wS:=dS x3;have vK:=dR x3;refine Tot.of ?_;rw [KI];simp only [IB,zz,aHi,hn,a1,a7,lK,lJ,dG,bM,aA,Int.reduceLT,Int.reduceEq]
 repeat' first |exact .out (aG (by unfold aN; omega))|exact .out (aQ (by unfold aN; omega))|refine .ite (fun _=>?_) (fun _=>?_)|(exfalso; omega)
theorem aBm (x0 x2 x3 x4 x5 x6 x7 x8:Int) (hn:x5= -1) (hk:x0=4):Tot 951 [x0,0,x2,x3,x4,x5,x6,x7,x8] (isIff (aN x0 x3 x5 0 0)):=by
 subst hk;obtain⟨ys,a1,b1,l1,rfl,f1,g1⟩:=ajC 4 x3;have a7:=iJ x3;have k9:=dQ x3;have wS:=dS x3;have vK:=dR x3;refine Tot.of ?_;rw [KI];simp only [IB,zz,aHi,hn,a1,a7,lK,lJ,dG,bM,aA,Int.reduceLT,Int.reduceEq]
 repeat' first |exact .out (aG (by unfold aN; omega))|exact .out (aQ (by unfold aN; omega))|refine .ite (fun _=>?_) (fun _=>?_)|(exfalso; omega)
theorem aBo (x0 x2 x3 x4 x5 x6 x7 x8:Int) (hn:x5= -1) (h3:x0≠3) (h8:x0≠8) (h5:x0≠5) (h4:x0≠4):Tot 951 [x0,0,x2,x3,x4,x5,x6,x7,x8] (isIff (aN x0 x3 x5 0 0)):=by
 obtain⟨ys,a1,b1,l1,rfl,f1,g1⟩:=Bv x0 0 x3;rw [JQ] at g1;have a7:=iJ x3;have k9:=dQ x3;have wS:=dS x3;have vK:=dR x3;refine Tot.of ?_;rw [KI];simp only [IB,zz,aHi,hn,h3,h8,h5,h4,a1,a7,lK,lJ,dG,bM,aA,Int.reduceLT,Int.reduceEq]
 repeat' first |exact .out (aG (by unfold aN; omega))|exact .out (aQ (by unfold aN; omega))|refine .ite (fun _=>?_) (fun _=>?_)|(exfalso; omega)
theorem aBi (x0 x2 x3 x4 x5 x6 x7 x8:Int) (hn:x5≠-1) (hk:x0=3):Tot 951 [x0,0,x2,x3,x4,x5,x6,x7,x8] (isIff (aN x0 x3 x5 0 0)):=by
 subst hk;obtain⟨ys,a1,b1,l1,rfl,f1,g1⟩:=Bq 3 1 x3;rw [nG] at g1;have a7:=iJ x3;have k9:=dQ x3;have wS:=dS x3;have vK:=dR x3;refine Tot.of ?_;rw [KI];simp only [IB,zz,aHi,hn,a1,a7,lK,lJ,dG,bM,aA,Int.reduceLT,Int.reduceEq]
 repeat' first |exact .out (aG (by unfold aN; omega))|exact .out (aQ (by unfold aN; omega))|refine .ite (fun _=>?_) (fun _=>?_)|(exfalso; omega)
theorem aBf (x0 x2 x3 x4 x5 x6 x7 x8:Int) (hn:x5≠-1) (hk:x0=8):Tot 951 [x0,0,x2,x3,x4,x5,x6,x7,x8] (isIff (aN x0 x3 x5 0 0)):=by
 subst hk;obtain⟨ys,a1,b1,l1,rfl,f1,g1⟩:=Bq 8 1 x3;rw [nG] at g1;have a7:=iJ x3;have k9:=dQ x3;have wS:=dS x3;have vK:=dR x3;refine Tot.of ?_;rw [KI];simp only [IB,zz,aHi,hn,a1,a7,lK,lJ,dG,bM,aA,Int.reduceLT,Int.reduceEq]
 repeat' first |exact .out (aG (by unfold aN; omega))|exact .out (aQ (by unfold aN; omega))|refine .ite (fun _=>?_) (fun _=>?_)|(exfalso; omega)
theorem aBg (x0 x2 x3 x4 x5 x6 x7 x8:Int) (hn:x5≠-1) (hk:x0=5):Tot 951 [x0,0,x2,x3,x4,x5,x6,x7,x8] (isIff (aN x0 x3 x5 0 0)):=by
 subst hk;obtain⟨ys,a1,b1,l1,rfl,f1,g1⟩:=Bq 5 1 x3;rw [nG] at g1;have a7:=iJ x3;have k9:=dQ x3;have wS:=dS x3;have vK:=dR x3;refine Tot.of ?_;rw [KI];simp only [IB,zz,aHi,hn,a1,a7,lK,lJ,dG,bM,aA,Int.reduceLT,Int.reduceEq]
 repeat' first |exact .out (aG (by unfold aN; omega))|exact .out (aQ (by unfold aN; omega))|refine .ite (fun _=>?_) (fun _=>?_)|(exfalso; omega)
theorem aBh (x0 x2 x3 x4 x5 x6 x7 x8:Int) (hn:x5≠-1) (hk:x0=4):Tot 951 [x0,0,x2,x3,x4,x5,x6,x7,x8] (isIff (aN x0 x3 x5 0 0)):=by
 subst hk;obtain⟨ys,a1,b1,l1,rfl,f1,g1⟩:=ajB 4 x3;have a7:=iJ x3;have k9:=dQ x3;have wS:=dS x3;have vK:=dR x3;refine Tot.of ?_;rw [KI];simp only [IB,zz,aHi,hn,a1,a7,lK,lJ,dG,bM,aA,Int.reduceLT,Int.reduceEq]
 repeat' first |exact .out (aG (by unfold aN; omega))|exact .out (aQ (by unfold aN; omega))|refine .ite (fun _=>?_) (fun _=>?_)|(exfalso; omega)
theorem aBj (x0 x2 x3 x4 x5 x6 x7 x8:Int) (hn:x5≠-1) (h3:x0≠3) (h8:x0≠8) (h5:x0≠5) (h4:x0≠4):Tot 951 [x0,0,x2,x3,x4,x5,x6,x7,x8] (isIff (aN x0 x3 x5 0 0)):=by
 obtain⟨ys,a1,b1,l1,rfl,f1,g1⟩:=Bq x0 0 x3;rw [JQ] at g1;have a7:=iJ x3;have k9:=dQ x3;have wS:=dS x3;have vK:=dR x3;refine Tot.of ?_;rw [KI];simp only [IB,zz,aHi,hn,h3,h8,h5,h4,a1,a7,lK,lJ,dG,bM,aA,Int.reduceLT,Int.reduceEq]
 repeat' first |exact .out (aG (by unfold aN; omega))|exact .out (aQ (by unfold aN; omega))|refine .ite (fun _=>?_) (fun _=>?_)|(exfalso; omega)
theorem aFQ (x0 x2 x3 x4 x5 x6 x7 x8:Int):Tot 951 [x0,0,x2,x3,x4,x5,x6,x7,x8] (isIff (aN x0 x3 x5 0 0)):=by
 by_cases hn:x5= -1
 ·
  by_cases h3:x0=3
  ·exact aBn x0 x2 x3 x4 x5 x6 x7 x8 hn h3
  by_cases h8:x0=8
  ·exact aBk x0 x2 x3 x4 x5 x6 x7 x8 hn h8
  by_cases h5:x0=5
  ·exact aBl x0 x2 x3 x4 x5 x6 x7 x8 hn h5
  by_cases h4:x0=4
  ·exact aBm x0 x2 x3 x4 x5 x6 x7 x8 hn h4
  exact aBo x0 x2 x3 x4 x5 x6 x7 x8 hn h3 h8 h5 h4
 ·
  by_cases h3:x0=3
  ·exact aBi x0 x2 x3 x4 x5 x6 x7 x8 hn h3
  by_cases h8:x0=8
  ·exact aBf x0 x2 x3 x4 x5 x6 x7 x8 hn h8
  by_cases h5:x0=5
  ·exact aBg x0 x2 x3 x4 x5 x6 x7 x8 hn h5
  by_cases h4:x0=4
  ·exact aBh x0 x2 x3 x4 x5 x6 x7 x8 hn h4
  exact aBj x0 x2 x3 x4 x5 x6 x7 x8 hn h3 h8 h5 h4
theorem aBd (x0 x2 x3 x4 x5 x6 x7 x8:Int) (hn:x5= -1) (hk:x0=3):Tot 952 [x0,0,x2,x3,x4,x5,x6,x7,x8] (isIff (aN x0 x3 x5 0 1)):=by
 subst hk;obtain⟨ys,a1,b1,l1,rfl,f1,g1⟩:=Bv 3 1 x3;rw [nG] at g1;have a7:=iJ x3;have k9:=dQ x3;have wS:=dS x3;have vK:=dR x3;refine Tot.of ?_;rw [KH];simp only [Iz,zz,aHi,hn,a1,a7,lK,lJ,dG,bM,aA,Int.reduceLT,Int.reduceEq]
 repeat' first |exact .out (aG (by unfold aN; omega))|exact .out (aQ (by unfold aN; omega))|refine .ite (fun _=>?_) (fun _=>?_)|(exfalso; omega)
theorem aA9 (x0 x2 x3 x4 x5 x6 x7 x8:Int) (hn:x5= -1) (hk:x0=8):Tot 952 [x0,0,x2,x3,x4,x5,x6,x7,x8] (isIff (aN x0 x3 x5 0 1)):=by
 subst hk;obtain⟨ys,a1,b1,l1,rfl,f1,g1⟩:=Bv 8 1 x3;rw [nG] at g1;have a7:=iJ x3;have k9:=dQ x3;have wS:=dS x3;have vK:=dR x3;refine Tot.of ?_;rw [KH];simp only [Iz,zz,aHi,hn,a1,a7,lK,lJ,dG,bM,aA,Int.reduceLT,Int.reduceEq]
 repeat' first |exact .out (aG (by unfold aN; omega))|exact .out (aQ (by unfold aN; omega))|refine .ite (fun _=>?_) (fun _=>?_)|(exfalso; omega)
theorem aBa (x0 x2 x3 x4 x5 x6 x7 x8:Int) (hn:x5= -1) (hk:x0=5):Tot 952 [x0,0,x2,x3,x4,x5,x6,x7,x8] (isIff (aN x0 x3 x5 0 1)):=by
 subst hk;obtain⟨ys,a1,b1,l1,rfl,f1,g1⟩:=Bv 5 1 x3;rw [nG] at g1;have a7:=iJ x3;have k9:=dQ x3;have wS:=dS x3;have vK:=dR x3;refine Tot.of ?_;rw [KH];simp only [Iz,zz,aHi,hn,a1,a7,lK,lJ,dG,bM,aA,Int.reduceLT,Int.reduceEq]
 repeat' first |exact .out (aG (by unfold aN; omega))|exact .out (aQ (by unfold aN; omega))|refine .ite (fun _=>?_) (fun _=>?_)|(exfalso; omega)
theorem aBb (x0 x2 x3 x4 x5 x6 x7 x8:Int) (hn:x5= -1) (hk:x0=4):Tot 952 [x0,0,x2,x3,x4,x5,x6,x7,x8] (isIff (aN x0 x3 x5 0 1)):=by
 subst hk;obtain⟨ys,a1,b1,l1,rfl,f1,g1⟩:=ajC 4 x3;have a7:=iJ x3;have k9:=dQ x3;have wS:=dS x3;have vK:=dR x3;refine Tot.of ?_;rw [KH];simp only [Iz,zz,aHi,hn,a1,a7,lK,lJ,dG,bM,aA,Int.reduceLT,Int.reduceEq]
 repeat' first |exact .out (aG (by unfold aN; omega))|exact .out (aQ (by unfold aN; omega))|refine .ite (fun _=>?_) (fun _=>?_)|(exfalso; omega)
theorem aBe (x0 x2 x3 x4 x5 x6 x7 x8:Int) (hn:x5= -1) (h3:x0≠3) (h8:x0≠8) (h5:x0≠5) (h4:x0≠4):Tot 952 [x0,0,x2,x3,x4,x5,x6,x7,x8] (isIff (aN x0 x3 x5 0 1)):=by
 obtain⟨ys,a1,b1,l1,rfl,f1,g1⟩:=Bv x0 0 x3;rw [JQ] at g1;have a7:=iJ x3;have k9:=dQ x3;have wS:=dS x3;have vK:=dR x3;refine Tot.of ?_;rw [KH];simp only [Iz,zz,aHi,hn,h3,h8,h5,h4,a1,a7,lK,lJ,dG,bM,aA,Int.reduceLT,Int.reduceEq]
 repeat' first |exact .out (aG (by unfold aN; omega))|exact .out (aQ (by unfold aN; omega))|refine .ite (fun _=>?_) (fun _=>?_)|(exfalso; omega)
theorem aA7 (x0 x2 x3 x4 x5 x6 x7 x8:Int) (hn:x5≠-1) (hk:x0=3):Tot 952 [x0,0,x2,x3,x4,x5,x6,x7,x8] (isIff (aN x0 x3 x5 0 1)):=by
 subst hk;obtain⟨ys,a1,b1,l1,rfl,f1,g1⟩:=Bq 3 1 x3;rw [nG] at g1;have a7:=iJ x3;have k9:=dQ x3;have wS:=dS x3;have vK:=dR x3;refine Tot.of ?_;rw [KH];simp only [Iz,zz,aHi,hn,a1,a7,lK,lJ,dG,bM,aA,Int.reduceLT,Int.reduceEq]
 repeat' first |exact .out (aG (by unfold aN; omega))|exact .out (aQ (by unfold aN; omega))|refine .ite (fun _=>?_) (fun _=>?_)|(exfalso; omega)
theorem aA4 (x0 x2 x3 x4 x5 x6 x7 x8:Int) (hn:x5≠-1) (hk:x0=8):Tot 952 [x0,0,x2,x3,x4,x5,x6,x7,x8] (isIff (aN x0 x3 x5 0 1)):=by
 subst hk;obtain⟨ys,a1,b1,l1,rfl,f1,g1⟩:=Bq 8 1 x3;rw [nG] at g1;have a7:=iJ x3;have k9:=dQ x3;have wS:=dS x3;have vK:=dR x3;refine Tot.of ?_;rw [KH];simp only [Iz,zz,aHi,hn,a1,a7,lK,lJ,dG,bM,aA,Int.reduceLT,Int.reduceEq]
 repeat' first |exact .out (aG (by unfold aN; omega))|exact .out (aQ (by unfold aN; omega))|refine .ite (fun _=>?_) (fun _=>?_)|(exfalso; omega)
theorem aA5 (x0 x2 x3 x4 x5 x6 x7 x8:Int) (hn:x5≠-1) (hk:x0=5):Tot 952 [x0,0,x2,x3,x4,x5,x6,x7,x8] (isIff (aN x0 x3 x5 0 1)):=by
 subst hk;obtain⟨ys,a1,b1,l1,rfl,f1,g1⟩:=Bq 5 1 x3;rw [nG] at g1;have a7:=iJ x3;have k9:=dQ x3;have wS:=dS x3;have vK:=dR x3;refine Tot.of ?_;rw [KH];simp only [Iz,zz,aHi,hn,a1,a7,lK,lJ,dG,bM,aA,Int.reduceLT,Int.reduceEq]
 repeat' first |exact .out (aG (by unfold aN; omega))|exact .out (aQ (by unfold aN; omega))|refine .ite (fun _=>?_) (fun _=>?_)|(exfalso; omega)
theorem aA6 (x0 x2 x3 x4 x5 x6 x7 x8:Int) (hn:x5≠-1) (hk:x0=4):Tot 952 [x0,0,x2,x3,x4,x5,x6,x7,x8] (isIff (aN x0 x3 x5 0 1)):=by
 subst hk;obtain⟨ys,a1,b1,l1,rfl,f1,g1⟩:=ajB 4 x3;have a7:=iJ x3;have k9:=dQ x3;have wS:=dS x3;have vK:=dR x3;refine Tot.of ?_;rw [KH];simp only [Iz,zz,aHi,hn,a1,a7,lK,lJ,dG,bM,aA,Int.reduceLT,Int.reduceEq]
 repeat' first |exact .out (aG (by unfold aN; omega))|exact .out (aQ (by unfold aN; omega))|refine .ite (fun _=>?_) (fun _=>?_)|(exfalso; omega)
theorem aA8 (x0 x2 x3 x4 x5 x6 x7 x8:Int) (hn:x5≠-1) (h3:x0≠3) (h8:x0≠8) (h5:x0≠5) (h4:x0≠4):Tot 952 [x0,0,x2,x3,x4,x5,x6,x7,x8] (isIff (aN x0 x3 x5 0 1)):=by
 obtain⟨ys,a1,b1,l1,rfl,f1,g1⟩:=Bq x0 0 x3;rw [JQ] at g1;have a7:=iJ x3;have k9:=dQ x3;have wS:=dS x3;have vK:=dR x3;refine Tot.of ?_;rw [KH];simp only [Iz,zz,aHi,hn,h3,h8,h5,h4,a1,a7,lK,lJ,dG,bM,aA,Int.reduceLT,Int.reduceEq]
 repeat' first |exact .out (aG (by unfold aN; omega))|exact .out (aQ (by unfold aN; omega))|refine .ite (fun _=>?_) (fun _=>?_)|(exfalso; omega)
theorem aFP (x0 x2 x3 x4 x5 x6 x7 x8:Int):Tot 952 [x0,0,x2,x3,x4,x5,x6,x7,x8] (isIff (aN x0 x3 x5 0 1)):=by
 by_cases hn:x5= -1
 ·
  by_cases h3:x0=3
  ·exact aBd x0 x2 x3 x4 x5 x6 x7 x8 hn h3
  by_cases h8:x0=8
  ·exact aA9 x0 x2 x3 x4 x5 x6 x7 x8 hn h8
  by_cases h5:x0=5
  ·exact aBa x0 x2 x3 x4 x5 x6 x7 x8 hn h5
  by_cases h4:x0=4
  ·exact aBb x0 x2 x3 x4 x5 x6 x7 x8 hn h4
  exact aBe x0 x2 x3 x4 x5 x6 x7 x8 hn h3 h8 h5 h4
 ·
  by_cases h3:x0=3
  ·exact aA7 x0 x2 x3 x4 x5 x6 x7 x8 hn h3
  by_cases h8:x0=8
  ·exact aA4 x0 x2 x3 x4 x5 x6 x7 x8 hn h8
  by_cases h5:x0=5
  ·exact aA5 x0 x2 x3 x4 x5 x6 x7 x8 hn h5
  by_cases h4:x0=4
  ·exact aA6 x0 x2 x3 x4 x5 x6 x7 x8 hn h4
  exact aA8 x0 x2 x3 x4 x5 x6 x7 x8 hn h3 h8 h5 h4
theorem aA2 (m:Nat) (hm:1<=m) (x0 x3 x4 x5 x6 x7 x8 x9:Int) (hn:x6= -1) (hk:x0=3):Tot 953 [x0,(m:Int),(m:Int),x3,x4,x5,x6,x7,x8,x9,enc (lQ m)] (isIff (aN x0 x4 x6 m 0)):=by
 subst hk;obtain⟨ys,a1,g1⟩:=Bo m hm 3 1 x4;unfold rP at g1;rw [nG] at g1;have a7:=iJ x4;have k9:=dQ x4;have wS:=dS x4;have vK:=dR x4;refine Tot.of ?_;rw [KG];rcases g1 with ⟨p1,l1,rfl⟩|⟨p1,m1,q1,r1,s1⟩
 ·simp only [vV,zz,aHi,hn,a1,a7,fA,eY,dG,bM,aA,Int.reduceLT,Int.reduceEq,aHs]
  repeat' first |exact .out (aG (by unfold aN; omega))|exact .out (aQ (by unfold aN; omega))|refine .ite (fun _=>?_) (fun _=>?_)|(exfalso; omega)
 ·subst m1;simp only [vV,zz,aHi,hn,a1,a7,q1,r1,s1,fA,eY,dG,bM,aA,Int.reduceLT,Int.reduceEq,aHs]
  repeat' first |exact .out (aG (by unfold aN; omega))|exact .out (aQ (by unfold aN; omega))|refine .ite (fun _=>?_) (fun _=>?_)|(exfalso; omega)
theorem aAZ (m:Nat) (hm:1<=m) (x0 x3 x4 x5 x6 x7 x8 x9:Int) (hn:x6= -1) (hk:x0=8):Tot 953 [x0,(m:Int),(m:Int),x3,x4,x5,x6,x7,x8,x9,enc (lQ m)] (isIff (aN x0 x4 x6 m 0)):=by
 subst hk;obtain⟨ys,a1,g1⟩:=Bo m hm 8 1 x4;unfold rP at g1;rw [nG] at g1;have a7:=iJ x4;have k9:=dQ x4;have wS:=dS x4;have vK:=dR x4;refine Tot.of ?_;rw [KG];rcases g1 with ⟨p1,l1,rfl⟩|⟨p1,m1,q1,r1,s1⟩
 ·simp only [vV,zz,aHi,hn,a1,a7,fA,eY,dG,bM,aA,Int.reduceLT,Int.reduceEq,aHs]
  repeat' first |exact .out (aG (by unfold aN; omega))|exact .out (aQ (by unfold aN; omega))|refine .ite (fun _=>?_) (fun _=>?_)|(exfalso; omega)
 ·subst m1;simp only [vV,zz,aHi,hn,a1,a7,q1,r1,s1,fA,eY,dG,bM,aA,Int.reduceLT,Int.reduceEq,aHs]
  repeat' first |exact .out (aG (by unfold aN; omega))|exact .out (aQ (by unfold aN; omega))|refine .ite (fun _=>?_) (fun _=>?_)|(exfalso; omega)
theorem aA0 (m:Nat) (hm:1<=m) (x0 x3 x4 x5 x6 x7 x8 x9:Int) (hn:x6= -1) (hk:x0=5):Tot 953 [x0,(m:Int),(m:Int),x3,x4,x5,x6,x7,x8,x9,enc (lQ m)] (isIff (aN x0 x4 x6 m 0)):=by
 subst hk;obtain⟨ys,a1,g1⟩:=Bo m hm 5 1 x4;unfold rP at g1;rw [nG] at g1;have a7:=iJ x4;have k9:=dQ x4;have wS:=dS x4;have vK:=dR x4;refine Tot.of ?_;rw [KG];rcases g1 with ⟨p1,l1,rfl⟩|⟨p1,m1,q1,r1,s1⟩
 ·simp only [vV,zz,aHi,hn,a1,a7,fA,eY,dG,bM,aA,Int.reduceLT,Int.reduceEq,aHs]
  repeat' first |exact .out (aG (by unfold aN; omega))|exact .out (aQ (by unfold aN; omega))|refine .ite (fun _=>?_) (fun _=>?_)|(exfalso; omega)
 ·subst m1;simp only [vV,zz,aHi,hn,a1,a7,q1,r1,s1,fA,eY,dG,bM,aA,Int.reduceLT,Int.reduceEq,aHs]
  repeat' first |exact .out (aG (by unfold aN; omega))|exact .out (aQ (by unfold aN; omega))|refine .ite (fun _=>?_) (fun _=>?_)|(exfalso; omega)
theorem aA1 (m:Nat) (hm:1<=m) (x0 x3 x4 x5 x6 x7 x8 x9:Int) (hn:x6= -1) (hk:x0=4):Tot 953 [x0,(m:Int),(m:Int),x3,x4,x5,x6,x7,x8,x9,enc (lQ m)] (isIff (aN x0 x4 x6 m 0)):=by
 subst hk;obtain⟨ys,a1,g1⟩:=ajA m hm 4 x4;unfold rP at g1;have a7:=iJ x4;have k9:=dQ x4;have wS:=dS x4;have vK:=dR x4;refine Tot.of ?_;rw [KG];rcases g1 with ⟨p1,l1,rfl⟩|⟨p1,m1,q1,r1,s1⟩
 ·simp only [vV,zz,aHi,hn,a1,a7,fA,eY,dG,bM,aA,Int.reduceLT,Int.reduceEq,aHs]
  repeat' first |exact .out (aG (by unfold aN; omega))|exact .out (aQ (by unfold aN; omega))|refine .ite (fun _=>?_) (fun _=>?_)|(exfalso; omega)
 ·subst m1;simp only [vV,zz,aHi,hn,a1,a7,q1,r1,s1,fA,eY,dG,bM,aA,Int.reduceLT,Int.reduceEq,aHs]
  repeat' first |exact .out (aG (by unfold aN; omega))|exact .out (aQ (by unfold aN; omega))|refine .ite (fun _=>?_) (fun _=>?_)|(exfalso; omega)
theorem aA3 (m:Nat) (hm:1<=m) (x0 x3 x4 x5 x6 x7 x8 x9:Int) (hn:x6= -1) (h3:x0≠3) (h8:x0≠8) (h5:x0≠5) (h4:x0≠4):Tot 953 [x0,(m:Int),(m:Int),x3,x4,x5,x6,x7,x8,x9,enc (lQ m)] (isIff (aN x0 x4 x6 m 0)):=by
 obtain⟨ys,a1,g1⟩:=Bo m hm x0 0 x4;unfold rP at g1;rw [JQ] at g1;have a7:=iJ x4;have k9:=dQ x4;have wS:=dS x4;have vK:=dR x4;refine Tot.of ?_;rw [KG];rcases g1 with ⟨p1,l1,rfl⟩|⟨p1,m1,q1,r1,s1⟩
 ·simp only [vV,zz,aHi,hn,h3,h8,h5,h4,a1,a7,fA,eY,dG,bM,aA,Int.reduceLT,Int.reduceEq,aHs]
  repeat' first |exact .out (aG (by unfold aN; omega))|exact .out (aQ (by unfold aN; omega))|refine .ite (fun _=>?_) (fun _=>?_)|(exfalso; omega)
 ·subst m1;simp only [vV,zz,aHi,hn,h3,h8,h5,h4,a1,a7,q1,r1,s1,fA,eY,dG,bM,aA,Int.reduceLT,Int.reduceEq,aHs]
  repeat' first |exact .out (aG (by unfold aN; omega))|exact .out (aQ (by unfold aN; omega))|refine .ite (fun _=>?_) (fun _=>?_)|(exfalso; omega)
theorem aAX (m:Nat) (hm:1<=m) (x0 x3 x4 x5 x6 x7 x8 x9:Int) (hn:x6≠-1) (hk:x0=3):Tot 953 [x0,(m:Int),(m:Int),x3,x4,x5,x6,x7,x8,x9,enc (lQ m)] (isIff (aN x0 x4 x6 m 0)):=by
 subst hk;obtain⟨ys,a1,g1⟩:=Bl m hm 3 1 x4;unfold rP at g1;rw [nG] at g1;have a7:=iJ x4;have k9:=dQ x4;have wS:=dS x4;have vK:=dR x4;refine Tot.of ?_;rw [KG];rcases g1 with ⟨p1,l1,rfl⟩|⟨p1,m1,q1,r1,s1⟩
 ·simp only [vV,zz,aHi,hn,a1,a7,fA,eY,dG,bM,aA,Int.reduceLT,Int.reduceEq,aHs]
  repeat' first |exact .out (aG (by unfold aN; omega))|exact .out (aQ (by unfold aN; omega))|refine .ite (fun _=>?_) (fun _=>?_)|(exfalso; omega)
 ·subst m1;simp only [vV,zz,aHi,hn,a1,a7,q1,r1,s1,fA,eY,dG,bM,aA,Int.reduceLT,Int.reduceEq,aHs]
  repeat' first |exact .out (aG (by unfold aN; omega))|exact .out (aQ (by unfold aN; omega))|refine .ite (fun _=>?_) (fun _=>?_)|(exfalso; omega)
theorem aAU (m:Nat) (hm:1<=m) (x0 x3 x4 x5 x6 x7 x8 x9:Int) (hn:x6≠-1) (hk:x0=8):Tot 953 [x0,(m:Int),(m:Int),x3,x4,x5,x6,x7,x8,x9,enc (lQ m)] (isIff (aN x0 x4 x6 m 0)):=by
 subst hk;obtain⟨ys,a1,g1⟩:=Bl m hm 8 1 x4;unfold rP at g1;rw [nG] at g1;have a7:=iJ x4;have k9:=dQ x4;have wS:=dS x4;have vK:=dR x4;refine Tot.of ?_;rw [KG];rcases g1 with ⟨p1,l1,rfl⟩|⟨p1,m1,q1,r1,s1⟩
 ·simp only [vV,zz,aHi,hn,a1,a7,fA,eY,dG,bM,aA,Int.reduceLT,Int.reduceEq,aHs]
  repeat' first |exact .out (aG (by unfold aN; omega))|exact .out (aQ (by unfold aN; omega))|refine .ite (fun _=>?_) (fun _=>?_)|(exfalso; omega)
 ·subst m1;simp only [vV,zz,aHi,hn,a1,a7,q1,r1,s1,fA,eY,dG,bM,aA,Int.reduceLT,Int.reduceEq,aHs]
  repeat' first |exact .out (aG (by unfold aN; omega))|exact .out (aQ (by unfold aN; omega))|refine .ite (fun _=>?_) (fun _=>?_)|(exfalso; omega)
theorem aAV (m:Nat) (hm:1<=m) (x0 x3 x4 x5 x6 x7 x8 x9:Int) (hn:x6≠-1) (hk:x0=5):Tot 953 [x0,(m:Int),(m:Int),x3,x4,x5,x6,x7,x8,x9,enc (lQ m)] (isIff (aN x0 x4 x6 m 0)):=by
 subst hk;obtain⟨ys,a1,g1⟩:=Bl m hm 5 1 x4;unfold rP at g1;rw [nG] at g1;have a7:=iJ x4;have k9:=dQ x4;have wS:=dS x4;have vK:=dR x4;refine Tot.of ?_;rw [KG];rcases g1 with ⟨p1,l1,rfl⟩|⟨p1,m1,q1,r1,s1⟩
 ·simp only [vV,zz,aHi,hn,a1,a7,fA,eY,dG,bM,aA,Int.reduceLT,Int.reduceEq,aHs]
  repeat' first |exact .out (aG (by unfold aN; omega))|exact .out (aQ (by unfold aN; omega))|refine .ite (fun _=>?_) (fun _=>?_)|(exfalso; omega)
 ·subst m1;simp only [vV,zz,aHi,hn,a1,a7,q1,r1,s1,fA,eY,dG,bM,aA,Int.reduceLT,Int.reduceEq,aHs]
  repeat' first |exact .out (aG (by unfold aN; omega))|exact .out (aQ (by unfold aN; omega))|refine .ite (fun _=>?_) (fun _=>?_)|(exfalso; omega)
theorem aAW (m:Nat) (hm:1<=m) (x0 x3 x4 x5 x6 x7 x8 x9:Int) (hn:x6≠-1) (hk:x0=4):Tot 953 [x0,(m:Int),(m:Int),x3,x4,x5,x6,x7,x8,x9,enc (lQ m)] (isIff (aN x0 x4 x6 m 0)):=by
 subst hk;obtain⟨ys,a1,g1⟩:=aiZ m hm 4 x4;unfold rP at g1;have a7:=iJ x4;have k9:=dQ x4;have wS:=dS x4;have vK:=dR x4;refine Tot.of ?_;rw [KG];rcases g1 with ⟨p1,l1,rfl⟩|⟨p1,m1,q1,r1,s1⟩
 ·simp only [vV,zz,aHi,hn,a1,a7,fA,eY,dG,bM,aA,Int.reduceLT,Int.reduceEq,aHs]
  repeat' first |exact .out (aG (by unfold aN; omega))|exact .out (aQ (by unfold aN; omega))|refine .ite (fun _=>?_) (fun _=>?_)|(exfalso; omega)
 ·subst m1;simp only [vV,zz,aHi,hn,a1,a7,q1,r1,s1,fA,eY,dG,bM,aA,Int.reduceLT,Int.reduceEq,aHs]
  repeat' first |exact .out (aG (by unfold aN; omega))|exact .out (aQ (by unfold aN; omega))|refine .ite (fun _=>?_) (fun _=>?_)|(exfalso; omega)
theorem aAY (m:Nat) (hm:1<=m) (x0 x3 x4 x5 x6 x7 x8 x9:Int) (hn:x6≠-1) (h3:x0≠3) (h8:x0≠8) (h5:x0≠5) (h4:x0≠4):Tot 953 [x0,(m:Int),(m:Int),x3,x4,x5,x6,x7,x8,x9,enc (lQ m)] (isIff (aN x0 x4 x6 m 0)):=by
 obtain⟨ys,a1,g1⟩:=Bl m hm x0 0 x4;unfold rP at g1;rw [JQ] at g1;have a7:=iJ x4;have k9:=dQ x4;have wS:=dS x4;have vK:=dR x4;refine Tot.of ?_;rw [KG];rcases g1 with ⟨p1,l1,rfl⟩|⟨p1,m1,q1,r1,s1⟩
 ·simp only [vV,zz,aHi,hn,h3,h8,h5,h4,a1,a7,fA,eY,dG,bM,aA,Int.reduceLT,Int.reduceEq,aHs]
  repeat' first |exact .out (aG (by unfold aN; omega))|exact .out (aQ (by unfold aN; omega))|refine .ite (fun _=>?_) (fun _=>?_)|(exfalso; omega)
 ·subst m1;simp only [vV,zz,aHi,hn,h3,h8,h5,h4,a1,a7,q1,r1,s1,fA,eY,dG,bM,aA,Int.reduceLT,Int.reduceEq,aHs]
  repeat' first |exact .out (aG (by unfold aN; omega))|exact .out (aQ (by unfold aN; omega))|refine .ite (fun _=>?_) (fun _=>?_)|(exfalso; omega)
theorem aDE (m:Nat) (hm:1<=m) (x0 x3 x4 x5 x6 x7 x8 x9:Int):Tot 953 [x0,(m:Int),(m:Int),x3,x4,x5,x6,x7,x8,x9,enc (lQ m)] (isIff (aN x0 x4 x6 m 0)):=by
 by_cases hn:x6= -1
 ·
  by_cases h3:x0=3
  ·exact aA2 m hm x0 x3 x4 x5 x6 x7 x8 x9 hn h3
  by_cases h8:x0=8
  ·exact aAZ m hm x0 x3 x4 x5 x6 x7 x8 x9 hn h8
  by_cases h5:x0=5
  ·exact aA0 m hm x0 x3 x4 x5 x6 x7 x8 x9 hn h5
  by_cases h4:x0=4
  ·exact aA1 m hm x0 x3 x4 x5 x6 x7 x8 x9 hn h4
  exact aA3 m hm x0 x3 x4 x5 x6 x7 x8 x9 hn h3 h8 h5 h4
 ·
  by_cases h3:x0=3
  ·exact aAX m hm x0 x3 x4 x5 x6 x7 x8 x9 hn h3
  by_cases h8:x0=8
  ·exact aAU m hm x0 x3 x4 x5 x6 x7 x8 x9 hn h8
  by_cases h5:x0=5
  ·exact aAV m hm x0 x3 x4 x5 x6 x7 x8 x9 hn h5
  by_cases h4:x0=4
  ·exact aAW m hm x0 x3 x4 x5 x6 x7 x8 x9 hn h4
  exact aAY m hm x0 x3 x4 x5 x6 x7 x8 x9 hn h3 h8 h5 h4
theorem aDF (M:Nat) (hM:M<=2513169434915) (x0 x3 x4 x5 x6 x7 x8 x9:Int): ∀(j m:Nat),m+j=M->1<=m->Tot 953 [x0,(M:Int),(m:Int),x3,x4,x5,x6,x7,x8,x9,enc (lQ m)] (isIff (aN x0 x4 x6 M 0))
 |0,m,h1,h2=>by
  obtain rfl:M=m:=by omega
  exact aDE M h2 x0 x3 x4 x5 x6 x7 x8 x9
 |j+1,m,h1,h2=>by
  have ih:=aDF M hM x0 x3 x4 x5 x6 x7 x8 x9 j (m+1) (by omega) (by omega);have c1:(m:Int)<(M:Int):=by omega
  have c2:((m:Nat):Int)<2513169434915:=by omega
  have w:=aX (n:=m) (by omega)
  have hr:lQ (m+1)=dL ((lQ m).l++ [E1]):=by unfold lQ;rw [aA,List.replicate_succ']
  rw [hr] at ih;refine Tot.of ?_;rw [KG];simp only [vV,zz,c1,c2,yQ,w];exact .jump ih
theorem aAS (m:Nat) (hm:1<=m) (x0 x3 x4 x5 x6 x7 x8 x9:Int) (hn:x6= -1) (hk:x0=3):Tot 954 [x0,(m:Int),(m:Int),x3,x4,x5,x6,x7,x8,x9,enc (lQ m)] (isIff (aN x0 x4 x6 m 1)):=by
 subst hk;obtain⟨ys,a1,g1⟩:=Bo m hm 3 1 x4;unfold rP at g1;rw [nG] at g1;have a7:=iJ x4;have k9:=dQ x4;have wS:=dS x4;have vK:=dR x4;refine Tot.of ?_;rw [KF];rcases g1 with ⟨p1,l1,rfl⟩|⟨p1,m1,q1,r1,s1⟩
 ·simp only [vU,zz,aHi,hn,a1,a7,fA,eY,dG,bM,aA,Int.reduceLT,Int.reduceEq,aHs]
  repeat' first |exact .out (aG (by unfold aN; omega))|exact .out (aQ (by unfold aN; omega))|refine .ite (fun _=>?_) (fun _=>?_)|(exfalso; omega)
 ·subst m1;simp only [vU,zz,aHi,hn,a1,a7,q1,r1,s1,fA,eY,dG,bM,aA,Int.reduceLT,Int.reduceEq,aHs]
  repeat' first |exact .out (aG (by unfold aN; omega))|exact .out (aQ (by unfold aN; omega))|refine .ite (fun _=>?_) (fun _=>?_)|(exfalso; omega)
theorem aAP (m:Nat) (hm:1<=m) (x0 x3 x4 x5 x6 x7 x8 x9:Int) (hn:x6= -1) (hk:x0=8):Tot 954 [x0,(m:Int),(m:Int),x3,x4,x5,x6,x7,x8,x9,enc (lQ m)] (isIff (aN x0 x4 x6 m 1)):=by
 subst hk;obtain⟨ys,a1,g1⟩:=Bo m hm 8 1 x4;unfold rP at g1;rw [nG] at g1;have a7:=iJ x4;have k9:=dQ x4;have wS:=dS x4;have vK:=dR x4;refine Tot.of ?_;rw [KF];rcases g1 with ⟨p1,l1,rfl⟩|⟨p1,m1,q1,r1,s1⟩
 ·simp only [vU,zz,aHi,hn,a1,a7,fA,eY,dG,bM,aA,Int.reduceLT,Int.reduceEq,aHs]
  repeat' first |exact .out (aG (by unfold aN; omega))|exact .out (aQ (by unfold aN; omega))|refine .ite (fun _=>?_) (fun _=>?_)|(exfalso; omega)
 ·subst m1;simp only [vU,zz,aHi,hn,a1,a7,q1,r1,s1,fA,eY,dG,bM,aA,Int.reduceLT,Int.reduceEq,aHs]
  repeat' first |exact .out (aG (by unfold aN; omega))|exact .out (aQ (by unfold aN; omega))|refine .ite (fun _=>?_) (fun _=>?_)|(exfalso; omega)
theorem aAQ (m:Nat) (hm:1<=m) (x0 x3 x4 x5 x6 x7 x8 x9:Int) (hn:x6= -1) (hk:x0=5):Tot 954 [x0,(m:Int),(m:Int),x3,x4,x5,x6,x7,x8,x9,enc (lQ m)] (isIff (aN x0 x4 x6 m 1)):=by
 subst hk;obtain⟨ys,a1,g1⟩:=Bo m hm 5 1 x4;unfold rP at g1;rw [nG] at g1;have a7:=iJ x4;have k9:=dQ x4;have wS:=dS x4;have vK:=dR x4;refine Tot.of ?_;rw [KF];rcases g1 with ⟨p1,l1,rfl⟩|⟨p1,m1,q1,r1,s1⟩
 ·simp only [vU,zz,aHi,hn,a1,a7,fA,eY,dG,bM,aA,Int.reduceLT,Int.reduceEq,aHs]
  repeat' first |exact .out (aG (by unfold aN; omega))|exact .out (aQ (by unfold aN; omega))|refine .ite (fun _=>?_) (fun _=>?_)|(exfalso; omega)
 ·subst m1;simp only [vU,zz,aHi,hn,a1,a7,q1,r1,s1,fA,eY,dG,bM,aA,Int.reduceLT,Int.reduceEq,aHs]
  repeat' first |exact .out (aG (by unfold aN; omega))|exact .out (aQ (by unfold aN; omega))|refine .ite (fun _=>?_) (fun _=>?_)|(exfalso; omega)
theorem aAR (m:Nat) (hm:1<=m) (x0 x3 x4 x5 x6 x7 x8 x9:Int) (hn:x6= -1) (hk:x0=4):Tot 954 [x0,(m:Int),(m:Int),x3,x4,x5,x6,x7,x8,x9,enc (lQ m)] (isIff (aN x0 x4 x6 m 1)):=by
 subst hk;obtain⟨ys,a1,g1⟩:=ajA m hm 4 x4;unfold rP at g1;have a7:=iJ x4;have k9:=dQ x4;have wS:=dS x4;have vK:=dR x4;refine Tot.of ?_;rw [KF];rcases g1 with ⟨p1,l1,rfl⟩|⟨p1,m1,q1,r1,s1⟩
 ·simp only [vU,zz,aHi,hn,a1,a7,fA,eY,dG,bM,aA,Int.reduceLT,Int.reduceEq,aHs]
  repeat' first |exact .out (aG (by unfold aN; omega))|exact .out (aQ (by unfold aN; omega))|refine .ite (fun _=>?_) (fun _=>?_)|(exfalso; omega)
 ·subst m1;simp only [vU,zz,aHi,hn,a1,a7,q1,r1,s1,fA,eY,dG,bM,aA,Int.reduceLT,Int.reduceEq,aHs]
  repeat' first |exact .out (aG (by unfold aN; omega))|exact .out (aQ (by unfold aN; omega))|refine .ite (fun _=>?_) (fun _=>?_)|(exfalso; omega)
theorem aAT (m:Nat) (hm:1<=m) (x0 x3 x4 x5 x6 x7 x8 x9:Int) (hn:x6= -1) (h3:x0≠3) (h8:x0≠8) (h5:x0≠5) (h4:x0≠4):Tot 954 [x0,(m:Int),(m:Int),x3,x4,x5,x6,x7,x8,x9,enc (lQ m)] (isIff (aN x0 x4 x6 m 1)):=by
 obtain⟨ys,a1,g1⟩:=Bo m hm x0 0 x4;unfold rP at g1;rw [JQ] at g1;have a7:=iJ x4;have k9:=dQ x4;have wS:=dS x4;have vK:=dR x4;refine Tot.of ?_;rw [KF];rcases g1 with ⟨p1,l1,rfl⟩|⟨p1,m1,q1,r1,s1⟩
 ·simp only [vU,zz,aHi,hn,h3,h8,h5,h4,a1,a7,fA,eY,dG,bM,aA,Int.reduceLT,Int.reduceEq,aHs]
  repeat' first |exact .out (aG (by unfold aN; omega))|exact .out (aQ (by unfold aN; omega))|refine .ite (fun _=>?_) (fun _=>?_)|(exfalso; omega)
 ·subst m1;simp only [vU,zz,aHi,hn,h3,h8,h5,h4,a1,a7,q1,r1,s1,fA,eY,dG,bM,aA,Int.reduceLT,Int.reduceEq,aHs]
  repeat' first |exact .out (aG (by unfold aN; omega))|exact .out (aQ (by unfold aN; omega))|refine .ite (fun _=>?_) (fun _=>?_)|(exfalso; omega)
theorem aAN (m:Nat) (hm:1<=m) (x0 x3 x4 x5 x6 x7 x8 x9:Int) (hn:x6≠-1) (hk:x0=3):Tot 954 [x0,(m:Int),(m:Int),x3,x4,x5,x6,x7,x8,x9,enc (lQ m)] (isIff (aN x0 x4 x6 m 1)):=by
 subst hk;obtain⟨ys,a1,g1⟩:=Bl m hm 3 1 x4;unfold rP at g1;rw [nG] at g1;have a7:=iJ x4;have k9:=dQ x4;have wS:=dS x4;have vK:=dR x4;refine Tot.of ?_;rw [KF];rcases g1 with ⟨p1,l1,rfl⟩|⟨p1,m1,q1,r1,s1⟩
 ·simp only [vU,zz,aHi,hn,a1,a7,fA,eY,dG,bM,aA,Int.reduceLT,Int.reduceEq,aHs]
  repeat' first |exact .out (aG (by unfold aN; omega))|exact .out (aQ (by unfold aN; omega))|refine .ite (fun _=>?_) (fun _=>?_)|(exfalso; omega)
 ·subst m1;simp only [vU,zz,aHi,hn,a1,a7,q1,r1,s1,fA,eY,dG,bM,aA,Int.reduceLT,Int.reduceEq,aHs]
  repeat' first |exact .out (aG (by unfold aN; omega))|exact .out (aQ (by unfold aN; omega))|refine .ite (fun _=>?_) (fun _=>?_)|(exfalso; omega)
theorem aAK (m:Nat) (hm:1<=m) (x0 x3 x4 x5 x6 x7 x8 x9:Int) (hn:x6≠-1) (hk:x0=8):Tot 954 [x0,(m:Int),(m:Int),x3,x4,x5,x6,x7,x8,x9,enc (lQ m)] (isIff (aN x0 x4 x6 m 1)):=by
 subst hk;obtain⟨ys,a1,g1⟩:=Bl m hm 8 1 x4;unfold rP at g1;rw [nG] at g1;have a7:=iJ x4;have k9:=dQ x4;have wS:=dS x4;have vK:=dR x4;refine Tot.of ?_;rw [KF];rcases g1 with ⟨p1,l1,rfl⟩|⟨p1,m1,q1,r1,s1⟩
 ·simp only [vU,zz,aHi,hn,a1,a7,fA,eY,dG,bM,aA,Int.reduceLT,Int.reduceEq,aHs]
  repeat' first |exact .out (aG (by unfold aN; omega))|exact .out (aQ (by unfold aN; omega))|refine .ite (fun _=>?_) (fun _=>?_)|(exfalso; omega)
 ·subst m1;simp only [vU,zz,aHi,hn,a1,a7,q1,r1,s1,fA,eY,dG,bM,aA,Int.reduceLT,Int.reduceEq,aHs]
  repeat' first |exact .out (aG (by unfold aN; omega))|exact .out (aQ (by unfold aN; omega))|refine .ite (fun _=>?_) (fun _=>?_)|(exfalso; omega)
theorem aAL (m:Nat) (hm:1<=m) (x0 x3 x4 x5 x6 x7 x8 x9:Int) (hn:x6≠-1) (hk:x0=5):Tot 954 [x0,(m:Int),(m:Int),x3,x4,x5,x6,x7,x8,x9,enc (lQ m)] (isIff (aN x0 x4 x6 m 1)):=by
 subst hk;obtain⟨ys,a1,g1⟩:=Bl m hm 5 1 x4;unfold rP at g1;rw [nG] at g1;have a7:=iJ x4;have k9:=dQ x4;have wS:=dS x4;have vK:=dR x4;refine Tot.of ?_;rw [KF];rcases g1 with ⟨p1,l1,rfl⟩|⟨p1,m1,q1,r1,s1⟩
 ·simp only [vU,zz,aHi,hn,a1,a7,fA,eY,dG,bM,aA,Int.reduceLT,Int.reduceEq,aHs]
  repeat' first |exact .out (aG (by unfold aN; omega))|exact .out (aQ (by unfold aN; omega))|refine .ite (fun _=>?_) (fun _=>?_)|(exfalso; omega)
 ·subst m1;simp only [vU,zz,aHi,hn,a1,a7,q1,r1,s1,fA,eY,dG,bM,aA,Int.reduceLT,Int.reduceEq,aHs]
  repeat' first |exact .out (aG (by unfold aN; omega))|exact .out (aQ (by unfold aN; omega))|refine .ite (fun _=>?_) (fun _=>?_)|(exfalso; omega)
theorem aAM (m:Nat) (hm:1<=m) (x0 x3 x4 x5 x6 x7 x8 x9:Int) (hn:x6≠-1) (hk:x0=4):Tot 954 [x0,(m:Int),(m:Int),x3,x4,x5,x6,x7,x8,x9,enc (lQ m)] (isIff (aN x0 x4 x6 m 1)):=by
 subst hk;obtain⟨ys,a1,g1⟩:=aiZ m hm 4 x4;unfold rP at g1;have a7:=iJ x4;have k9:=dQ x4;have wS:=dS x4;have vK:=dR x4;refine Tot.of ?_;rw [KF];rcases g1 with ⟨p1,l1,rfl⟩|⟨p1,m1,q1,r1,s1⟩
 ·simp only [vU,zz,aHi,hn,a1,a7,fA,eY,dG,bM,aA,Int.reduceLT,Int.reduceEq,aHs]
  repeat' first |exact .out (aG (by unfold aN; omega))|exact .out (aQ (by unfold aN; omega))|refine .ite (fun _=>?_) (fun _=>?_)|(exfalso; omega)
 ·subst m1;simp only [vU,zz,aHi,hn,a1,a7,q1,r1,s1,fA,eY,dG,bM,aA,Int.reduceLT,Int.reduceEq,aHs]
  repeat' first |exact .out (aG (by unfold aN; omega))|exact .out (aQ (by unfold aN; omega))|refine .ite (fun _=>?_) (fun _=>?_)|(exfalso; omega)
theorem aAO (m:Nat) (hm:1<=m) (x0 x3 x4 x5 x6 x7 x8 x9:Int) (hn:x6≠-1) (h3:x0≠3) (h8:x0≠8) (h5:x0≠5) (h4:x0≠4):Tot 954 [x0,(m:Int),(m:Int),x3,x4,x5,x6,x7,x8,x9,enc (lQ m)] (isIff (aN x0 x4 x6 m 1)):=by
 obtain⟨ys,a1,g1⟩:=Bl m hm x0 0 x4;unfold rP at g1;rw [JQ] at g1;have a7:=iJ x4;have k9:=dQ x4;have wS:=dS x4;have vK:=dR x4;refine Tot.of ?_;rw [KF];rcases g1 with ⟨p1,l1,rfl⟩|⟨p1,m1,q1,r1,s1⟩
 ·simp only [vU,zz,aHi,hn,h3,h8,h5,h4,a1,a7,fA,eY,dG,bM,aA,Int.reduceLT,Int.reduceEq,aHs]
  repeat' first |exact .out (aG (by unfold aN; omega))|exact .out (aQ (by unfold aN; omega))|refine .ite (fun _=>?_) (fun _=>?_)|(exfalso; omega)
 ·subst m1;simp only [vU,zz,aHi,hn,h3,h8,h5,h4,a1,a7,q1,r1,s1,fA,eY,dG,bM,aA,Int.reduceLT,Int.reduceEq,aHs]
  repeat' first |exact .out (aG (by unfold aN; omega))|exact .out (aQ (by unfold aN; omega))|refine .ite (fun _=>?_) (fun _=>?_)|(exfalso; omega)
theorem aDC (m:Nat) (hm:1<=m) (x0 x3 x4 x5 x6 x7 x8 x9:Int):Tot 954 [x0,(m:Int),(m:Int),x3,x4,x5,x6,x7,x8,x9,enc (lQ m)] (isIff (aN x0 x4 x6 m 1)):=by
 by_cases hn:x6= -1
 ·
  by_cases h3:x0=3
  ·exact aAS m hm x0 x3 x4 x5 x6 x7 x8 x9 hn h3
  by_cases h8:x0=8
  ·exact aAP m hm x0 x3 x4 x5 x6 x7 x8 x9 hn h8
  by_cases h5:x0=5
  ·exact aAQ m hm x0 x3 x4 x5 x6 x7 x8 x9 hn h5
  by_cases h4:x0=4
  ·exact aAR m hm x0 x3 x4 x5 x6 x7 x8 x9 hn h4
  exact aAT m hm x0 x3 x4 x5 x6 x7 x8 x9 hn h3 h8 h5 h4
 ·
  by_cases h3:x0=3
  ·exact aAN m hm x0 x3 x4 x5 x6 x7 x8 x9 hn h3
  by_cases h8:x0=8
  ·exact aAK m hm x0 x3 x4 x5 x6 x7 x8 x9 hn h8
  by_cases h5:x0=5
  ·exact aAL m hm x0 x3 x4 x5 x6 x7 x8 x9 hn h5
  by_cases h4:x0=4
  ·exact aAM m hm x0 x3 x4 x5 x6 x7 x8 x9 hn h4
  exact aAO m hm x0 x3 x4 x5 x6 x7 x8 x9 hn h3 h8 h5 h4
theorem aDD (M:Nat) (hM:M<=2513169434915) (x0 x3 x4 x5 x6 x7 x8 x9:Int): ∀(j m:Nat),m+j=M->1<=m->Tot 954 [x0,(M:Int),(m:Int),x3,x4,x5,x6,x7,x8,x9,enc (lQ m)] (isIff (aN x0 x4 x6 M 1))
 |0,m,h1,h2=>by
  obtain rfl:M=m:=by omega
  exact aDC M h2 x0 x3 x4 x5 x6 x7 x8 x9
 |j+1,m,h1,h2=>by
  have ih:=aDD M hM x0 x3 x4 x5 x6 x7 x8 x9 j (m+1) (by omega) (by omega);have c1:(m:Int)<(M:Int):=by omega
  have c2:((m:Nat):Int)<2513169434915:=by omega
  have w:=aX (n:=m) (by omega)
  have hr:lQ (m+1)=dL ((lQ m).l++ [E1]):=by unfold lQ;rw [aA,List.replicate_succ']
  rw [hr] at ih;refine Tot.of ?_;rw [KF];simp only [vU,zz,c1,c2,yQ,w];exact .jump ih
theorem afP (x0 x1 x2 x3 x4 x5 x6 x8:Int) (d:D) (hd:d.l.length<=2513169434915):Tot 950 [x0,x1,x2,x3,x4,x5,x6,enc d,x8] (isIff (aN x0 x2 x4 d.l.length x8)):=by
 have hr:enc (lQ 1)=enc (dL ([]++ [E1])):=rfl
 have key: ∀(t t2:Nat) (b:Int),(t=951/\t2=953/\b=0)\/(t=952/\t2=954/\b=1)->Tot t [x0,(d.l.length:Int),x1,x2,x3,x4,x5,x6,enc d] (isIff (aN x0 x2 x4 d.l.length b)):=by
  intro t t2 b ht;by_cases h0:d.l.length=0
  ·rw [h0];rcases ht with ⟨rfl,rfl,rfl⟩|⟨rfl,rfl,rfl⟩
   ·exact aFQ x0 x1 x2 x3 x4 x5 x6 (enc d)
   ·exact aFP x0 x1 x2 x3 x4 x5 x6 (enc d)
  ·have c1:(0:Int)<(d.l.length:Int):=by omega
   rcases ht with ⟨rfl,rfl,rfl⟩|⟨rfl,rfl,rfl⟩
   ·have:=aDF d.l.length hd x0 x1 x2 x3 x4 x5 x6 (enc d) (d.l.length-1) 1 (by omega) (by omega);rw [hr] at this;refine Tot.of ?_;rw [KI];simp only [IB,zz,c1,zF];exact .jump this
   ·have:=aDD d.l.length hd x0 x1 x2 x3 x4 x5 x6 (enc d) (d.l.length-1) 1 (by omega) (by omega);rw [hr] at this;refine Tot.of ?_;rw [KH];simp only [Iz,zz,c1,zF];exact .jump this
 refine Tot.of ?_;rw [aFu];simp only [aBr,zz];refine .ite (fun h=> .jump (by subst h; exact key 951 953 0 (.inl ⟨rfl,rfl,rfl⟩))) fun h=> .jump ((key 952 954 1 (.inr ⟨rfl,rfl,rfl⟩)).iff ?_);unfold aN;omega
end Go.As.Try
end

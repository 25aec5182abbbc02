/-
  Proved: the given card of the law ShrinkStays: whatever the input, the call returns true and each argument reads afterwards as it did. Conditions: those of the given row alone (its listed package-level variables start as the program's text lays them; each string, slice and map that is handed in lies within a process's addresses).
-/
import Derived.Test.YtbmkacliajebmaaGreatDoorAsZS12
set_option linter.unusedSectionVars false
set_option linter.unusedVariables false
set_option linter.unusedSimpArgs false
section
namespace Go.As.Try
open Go hiding Stat Spec shape
open Go.As
set_option maxRecDepth 100000
theorem z5:(∀p:Prop,(p/\False)=False)/\(∀p:Prop,(False/\p)=False)/\(¬True)=False/\(∀p:Prop,(p/\p)=p)/\(∀(a:Int) (l m:List Int),(a::l)++m=a::(l++m))/\(∀l:List Int,[]++l=l)/\((16:Int)=15)=False/\((3:Int)=0)=False/\((15:Int)=16)=False/\(∀ys:List Int,fin L (.out ys)=some ys):=
 ⟨and_false,false_and,not_true_eq_false,and_self,fun _ _ _=>rfl,fun _=>rfl,ad,ad,ad,fun _=>rfl⟩
def Uy:Act->Prop
 | .res _ _ _ _ _ _ _ a _=>fX .i64 a
 |_=>True
theorem Uy.ite {p:Prop} [Decidable p] {a b:Act} (ha:Uy a) (Y:Uy b):Uy (if p then a else b):=by
 grind
theorem agV {r:D} (h:Wd (.sl 0) r) (i:Nat):fX .i64 (r.at (i:Int)).n:=by
 by_cases hi:i<r.l.length
 ·rw [cA hi];obtain⟨n,hn,hk⟩:=(h.el1 rfl _ (aA hi)).i;rw [hn];exact hk
 ·rw [f?,am6 J];constructor<;>(simp only [amB,n_i]; omega)
theorem ajP {y:D} {M mo th op arg tries o c dn g:Int} {r v:D} (T:Tg y o c dn g r v) (hr:r.l.length<=140737488351232) (ha:fX .i64 arg):Uy (act M mo th op arg tries o c dn g r v):=by
 have hz:fX .i64 0:=⟨J,J⟩;have U:fX .i64 1:=⟨J,J⟩;have w:=@pM;have hv:=agV T.hv 0;have hl:fX .i64 (r.l.length:Int):=⟨J,J⟩;unfold act
 repeat' refine Uy.ite ?_ ?_
 all_goals first
  |trivial
  |exact hz
  |exact U
  |exact w _
  |exact T.hc
  |exact ha
  |exact T.hg
  |exact hv
  |exact hl
def rb (I:D) (x:KT) (op e2 e3 e4 oc:Int):KT:=
 if oc=0 then (if op=4 then { x with tr:=if 4611686018427387904<x.tr+1 then 4611686018427387904 else x.tr+1 } else x)
 else if x.w=0 then
  { a:=if (I.hd 0).n=1/\(I.hd 1).n=16/\¬(e2=16/\e4=1) then (I.hd 4).n else x.a+1,lc:=if (I.hd 0).n=1/\¬(I.hd 3).n<0 then dL (fC x.lc.l (I.hd 3).n (.i e4)) else x.lc,w:=if oc=3 then (if e2=15 then 25 else 24) else 0,o:=if oc=3 then e3 else x.o,g:=if oc=3/\e2=15 then e4 else x.g,tr:=0 }
 else { x with w:=0,o:=0,g:=0,tr:=0 }
def evT (e1 e2 e3 e4 e5 oc:Int):List Int:=if oc=0 then [0,0,0,0,0] else [e1,e2,e3,e4,e5]
section
variable {d0 d1 s s' k:D} {t op obj arg tries e1 e2 e3 e4 e5 oc:Int} {x:KT} (C:Cd d0 d1) (ht:t<(k.l.length:Int)) (R:Rt d0 d1 t x)
 (hA:L 400 [enc d0,enc d1,enc s,t,op,obj,arg,tries]=some [enc s',e1,e2,e3,e4,e5,oc]) (h0:oc=0->s'=s) (hx:x.w=0->x.a<(Nc d1 t:Int))
include C ht R hA h0 hx
set_option maxHeartbeats 4000000 in
theorem Vv:L 14500 [enc d0,enc d1,t,op,obj,arg,tries,enc s,enc k,x.a,enc x.lc,x.w,x.o,x.g,x.tr]=some (0::enc d0::enc d1::t::op::obj::arg::tries::enc s::enc k::x.a::enc x.lc::x.w::x.o::x.g::x.tr::(evT e1 e2 e3 e4 e5 oc++ [oc,enc s',(rb (mS d1 t x) x op e2 e3 e4 oc).a,enc (rb (mS d1 t x) x op e2 e3 e4 oc).lc,(rb (mS d1 t x) x op e2 e3 e4 oc).w,(rb (mS d1 t x) x op e2 e3 e4 oc).o,(rb (mS d1 t x) x op e2 e3 e4 oc).g,(rb (mS d1 t x) x op e2 e3 e4 oc).tr])):=by
 have c1: ¬t<0:=by have:=R.t0; omega
 have c2:=R.t1;have c3: ¬x.a<0:=by have:=R.ok.1; omega
 have q0:=R.ok.2.2.2.1;have q1:=R.ok.2.2.2.2.1;have wt:IntKind.i64.wrap (x.tr+1)=x.tr+1:=lh J J;rw [bO,Zv];unfold rb evT;by_cases o0:oc=0
 ·have hs:=h0 o0;subst hs;subst o0;by_cases p4:op=4
  ·subst p4;by_cases pt:4611686018427387904<x.tr+1
   ·simp only [eU,zz,hA,c1,ht,wt,pt,bN,if_true,eq_self,aP,aF]
   ·simp only [eU,zz,hA,c1,ht,wt,pt,bN,if_true,eq_self,if_false,aP,aF]
  ·simp only [eU,zz,hA,c1,ht,p4,bN,if_true,if_false,aP,aF]
 ·by_cases w0:x.w=0
  ·have c4:=hx w0;have F:=C.inf R c4;have ok:=F.ok;have t?:(x.lc.l.length:Int)=(((d1.at t).hd 1).l.length:Int):=R.ok.2.2.1;have hnc:((d1.at t).hd 2).l.length<=140737488351232:=(C.code R.t0 R.t1).len;unfold Nc at c4;have hw:IntKind.i64.wrap (x.a+1)=x.a+1:=lh J J;unfold OkI mS at ok;unfold mS;by_cases n1:((((d1.at t).hd 2).at x.a).hd 0).n=1
   ·have xS:((((d1.at t).hd 2).at x.a).hd 3).n= -1\/0<=((((d1.at t).hd 2).at x.a).hd 3).n/\((((d1.at t).hd 2).at x.a).hd 3).n<(x.lc.l.length:Int):=by
     grind
    by_cases i0:((((d1.at t).hd 2).at x.a).hd 3).n<0
    ·by_cases tw:((((d1.at t).hd 2).at x.a).hd 1).n=16
     ·by_cases Bf:e2=16
      ·by_cases q4:e4=1
       ·by_cases q3:oc=3
        ·simp only [eU,zz,hA,c1,ht,c2,c3,c4,o0,w0,hw,n1,i0,tw,Bf,q4,q3,z5]
        ·simp only [eU,zz,hA,c1,ht,c2,c3,c4,o0,w0,hw,n1,i0,tw,Bf,q4,q3,z5]
       ·by_cases q3:oc=3
        ·simp only [eU,zz,hA,c1,ht,c2,c3,c4,o0,w0,hw,n1,i0,tw,Bf,q4,q3,z5]
        ·simp only [eU,zz,hA,c1,ht,c2,c3,c4,o0,w0,hw,n1,i0,tw,Bf,q4,q3,z5]
      ·by_cases sv:e2=15
       ·by_cases q3:oc=3
        ·simp only [eU,zz,hA,c1,ht,c2,c3,c4,o0,w0,hw,n1,i0,tw,Bf,sv,q3,z5]
        ·simp only [eU,zz,hA,c1,ht,c2,c3,c4,o0,w0,hw,n1,i0,tw,Bf,sv,q3,z5]
       ·by_cases q3:oc=3
        ·simp only [eU,zz,hA,c1,ht,c2,c3,c4,o0,w0,hw,n1,i0,tw,Bf,sv,q3,z5]
        ·simp only [eU,zz,hA,c1,ht,c2,c3,c4,o0,w0,hw,n1,i0,tw,Bf,sv,q3,z5]
     ·by_cases sv:e2=15
      ·by_cases q3:oc=3
       ·simp only [eU,zz,hA,c1,ht,c2,c3,c4,o0,w0,hw,n1,i0,tw,sv,q3,z5]
       ·simp only [eU,zz,hA,c1,ht,c2,c3,c4,o0,w0,hw,n1,i0,tw,sv,q3,z5]
      ·by_cases q3:oc=3
       ·simp only [eU,zz,hA,c1,ht,c2,c3,c4,o0,w0,hw,n1,i0,tw,sv,q3,z5]
       ·simp only [eU,zz,hA,c1,ht,c2,c3,c4,o0,w0,hw,n1,i0,tw,sv,q3,z5]
    ·have i1:((((d1.at t).hd 2).at x.a).hd 3).n<(x.lc.l.length:Int):=J
     by_cases tw:((((d1.at t).hd 2).at x.a).hd 1).n=16
     ·by_cases Bf:e2=16
      ·by_cases q4:e4=1
       ·by_cases q3:oc=3
        ·simp only [eU,zz,hA,c1,ht,c2,c3,c4,o0,w0,hw,n1,i0,i1,tw,Bf,q4,q3,z5]
        ·simp only [eU,zz,hA,c1,ht,c2,c3,c4,o0,w0,hw,n1,i0,i1,tw,Bf,q4,q3,z5]
       ·by_cases q3:oc=3
        ·simp only [eU,zz,hA,c1,ht,c2,c3,c4,o0,w0,hw,n1,i0,i1,tw,Bf,q4,q3,z5]
        ·simp only [eU,zz,hA,c1,ht,c2,c3,c4,o0,w0,hw,n1,i0,i1,tw,Bf,q4,q3,z5]
      ·by_cases sv:e2=15
       ·by_cases q3:oc=3
        ·simp only [eU,zz,hA,c1,ht,c2,c3,c4,o0,w0,hw,n1,i0,i1,tw,Bf,sv,q3,z5]
        ·simp only [eU,zz,hA,c1,ht,c2,c3,c4,o0,w0,hw,n1,i0,i1,tw,Bf,sv,q3,z5]
       ·by_cases q3:oc=3
        ·simp only [eU,zz,hA,c1,ht,c2,c3,c4,o0,w0,hw,n1,i0,i1,tw,Bf,sv,q3,z5]
        ·simp only [eU,zz,hA,c1,ht,c2,c3,c4,o0,w0,hw,n1,i0,i1,tw,Bf,sv,q3,z5]
     ·by_cases sv:e2=15
      ·by_cases q3:oc=3
       ·simp only [eU,zz,hA,c1,ht,c2,c3,c4,o0,w0,hw,n1,i0,i1,tw,sv,q3,z5]
       ·simp only [eU,zz,hA,c1,ht,c2,c3,c4,o0,w0,hw,n1,i0,i1,tw,sv,q3,z5]
      ·by_cases q3:oc=3
       ·simp only [eU,zz,hA,c1,ht,c2,c3,c4,o0,w0,hw,n1,i0,i1,tw,sv,q3,z5]
       ·simp only [eU,zz,hA,c1,ht,c2,c3,c4,o0,w0,hw,n1,i0,i1,tw,sv,q3,z5]
   ·by_cases sv:e2=15
    ·by_cases q3:oc=3
     ·simp only [eU,zz,hA,c1,ht,c2,c3,c4,o0,w0,hw,n1,sv,q3,z5]
     ·simp only [eU,zz,hA,c1,ht,c2,c3,c4,o0,w0,hw,n1,sv,q3,z5]
    ·by_cases q3:oc=3
     ·simp only [eU,zz,hA,c1,ht,c2,c3,c4,o0,w0,hw,n1,sv,q3,z5]
     ·simp only [eU,zz,hA,c1,ht,c2,c3,c4,o0,w0,hw,n1,sv,q3,z5]
  ·simp only [eU,zz,hA,c1,ht,o0,w0,bN,if_true,if_false,aP,aF]
end
section
variable {d0 d1 s s' k:D} {t op obj arg tries e1 e2 e3 e4 e5 oc:Int} {x:KT} (C:Cd d0 d1) (ht:t<(k.l.length:Int)) (R:Rt d0 d1 t x)
 (hA:L 400 [enc d0,enc d1,enc s,t,op,obj,arg,tries]=some [enc s',e1,e2,e3,e4,e5,oc]) (h0:oc=0->s'=s) (hx:x.w=0->x.a<(Nc d1 t:Int)) (hz:x.lc.l.length=0)
include C ht R hA h0 hx hz
set_option maxHeartbeats 4000000 in
theorem Vu:L 14550 [enc d0,enc d1,t,op,obj,arg,tries,enc s,enc k,x.a,enc x.lc,x.w,x.o,x.g,x.tr]=some (0::enc d0::enc d1::t::op::obj::arg::tries::enc s::enc k::x.a::enc x.lc::x.w::x.o::x.g::x.tr::(evT e1 e2 e3 e4 e5 oc++ [oc,enc s',(rb (mS d1 t x) x op e2 e3 e4 oc).a,(rb (mS d1 t x) x op e2 e3 e4 oc).w,(rb (mS d1 t x) x op e2 e3 e4 oc).o,(rb (mS d1 t x) x op e2 e3 e4 oc).g,(rb (mS d1 t x) x op e2 e3 e4 oc).tr]))/\(rb (mS d1 t x) x op e2 e3 e4 oc).lc=x.lc:=by
 have c1: ¬t<0:=by have:=R.t0; omega
 have c2:=R.t1;have c3: ¬x.a<0:=by have:=R.ok.1; omega
 have q0:=R.ok.2.2.2.1;have q1:=R.ok.2.2.2.2.1;have wt:IntKind.i64.wrap (x.tr+1)=x.tr+1:=lh J J;rw [bO,Zs];unfold rb evT;by_cases o0:oc=0
 ·have hs:=h0 o0;subst hs;subst o0;by_cases p4:op=4
  ·subst p4;by_cases pt:4611686018427387904<x.tr+1
   ·simp only [iq,zz,hA,c1,ht,wt,pt,bN,if_true,eq_self,aP,aF]<;>exact⟨rfl,rfl⟩
   ·simp only [iq,zz,hA,c1,ht,wt,pt,bN,if_true,eq_self,if_false,aP,aF]<;>exact⟨rfl,rfl⟩
  ·simp only [iq,zz,hA,c1,ht,p4,bN,if_true,if_false,aP,aF]<;>exact⟨rfl,rfl⟩
 ·by_cases w0:x.w=0
  ·have c4:=hx w0;have F:=C.inf R c4;have ok:=F.ok;have t?:(x.lc.l.length:Int)=(((d1.at t).hd 1).l.length:Int):=R.ok.2.2.1;have hnc:((d1.at t).hd 2).l.length<=140737488351232:=(C.code R.t0 R.t1).len;unfold Nc at c4;have hw:IntKind.i64.wrap (x.a+1)=x.a+1:=lh J J;unfold OkI mS at ok;unfold mS;by_cases n1:((((d1.at t).hd 2).at x.a).hd 0).n=1
   ·have xS:((((d1.at t).hd 2).at x.a).hd 3).n= -1\/0<=((((d1.at t).hd 2).at x.a).hd 3).n/\((((d1.at t).hd 2).at x.a).hd 3).n<(x.lc.l.length:Int):=by
     grind
    by_cases i0:((((d1.at t).hd 2).at x.a).hd 3).n<0
    ·by_cases tw:((((d1.at t).hd 2).at x.a).hd 1).n=16
     ·by_cases Bf:e2=16
      ·by_cases q4:e4=1
       ·by_cases q3:oc=3
        ·simp only [iq,zz,hA,c1,ht,c2,c3,c4,o0,w0,hw,n1,i0,tw,Bf,q4,q3,z5]<;>exact⟨rfl,rfl⟩
        ·simp only [iq,zz,hA,c1,ht,c2,c3,c4,o0,w0,hw,n1,i0,tw,Bf,q4,q3,z5]<;>exact⟨rfl,rfl⟩
       ·by_cases q3:oc=3
        ·simp only [iq,zz,hA,c1,ht,c2,c3,c4,o0,w0,hw,n1,i0,tw,Bf,q4,q3,z5]<;>exact⟨rfl,rfl⟩
        ·simp only [iq,zz,hA,c1,ht,c2,c3,c4,o0,w0,hw,n1,i0,tw,Bf,q4,q3,z5]<;>exact⟨rfl,rfl⟩
      ·by_cases sv:e2=15
       ·by_cases q3:oc=3
        ·simp only [iq,zz,hA,c1,ht,c2,c3,c4,o0,w0,hw,n1,i0,tw,Bf,sv,q3,z5]<;>exact⟨rfl,rfl⟩
        ·simp only [iq,zz,hA,c1,ht,c2,c3,c4,o0,w0,hw,n1,i0,tw,Bf,sv,q3,z5]<;>exact⟨rfl,rfl⟩
       ·by_cases q3:oc=3
        ·simp only [iq,zz,hA,c1,ht,c2,c3,c4,o0,w0,hw,n1,i0,tw,Bf,sv,q3,z5]<;>exact⟨rfl,rfl⟩
        ·simp only [iq,zz,hA,c1,ht,c2,c3,c4,o0,w0,hw,n1,i0,tw,Bf,sv,q3,z5]<;>exact⟨rfl,rfl⟩
     ·by_cases sv:e2=15
      ·by_cases q3:oc=3
       ·simp only [iq,zz,hA,c1,ht,c2,c3,c4,o0,w0,hw,n1,i0,tw,sv,q3,z5]<;>exact⟨rfl,rfl⟩
       ·simp only [iq,zz,hA,c1,ht,c2,c3,c4,o0,w0,hw,n1,i0,tw,sv,q3,z5]<;>exact⟨rfl,rfl⟩
      ·by_cases q3:oc=3
       ·simp only [iq,zz,hA,c1,ht,c2,c3,c4,o0,w0,hw,n1,i0,tw,sv,q3,z5]<;>exact⟨rfl,rfl⟩
       ·simp only [iq,zz,hA,c1,ht,c2,c3,c4,o0,w0,hw,n1,i0,tw,sv,q3,z5]<;>exact⟨rfl,rfl⟩
    ·omega
   ·by_cases sv:e2=15
    ·by_cases q3:oc=3
     ·simp only [iq,zz,hA,c1,ht,c2,c3,c4,o0,w0,hw,n1,sv,q3,z5]<;>exact⟨rfl,rfl⟩
     ·simp only [iq,zz,hA,c1,ht,c2,c3,c4,o0,w0,hw,n1,sv,q3,z5]<;>exact⟨rfl,rfl⟩
    ·by_cases q3:oc=3
     ·simp only [iq,zz,hA,c1,ht,c2,c3,c4,o0,w0,hw,n1,sv,q3,z5]<;>exact⟨rfl,rfl⟩
     ·simp only [iq,zz,hA,c1,ht,c2,c3,c4,o0,w0,hw,n1,sv,q3,z5]<;>exact⟨rfl,rfl⟩
  ·simp only [iq,zz,hA,c1,ht,o0,w0,bN,if_true,if_false,aP,aF]<;>exact⟨rfl,rfl⟩
end
structure Sx (s k:D) (n:Nat):Prop where
 g:Gs s n
 wk:Wd (.sl 8) k
 n2s:s≠.i 2
 n2k:k≠.i 2
structure Sw (s k:D) (n:Nat):Prop where
 g:Gs s n
 wk:Wd (.sl 8) k
theorem Sx.sw {s k:D} {n:Nat} (S:Sx s k n):Sw s k n:=⟨S.g,S.wk⟩
theorem Sw.st {s k:D} {n:Nat} (S:Sw s k n):Sk s k:=⟨S.g.wd,S.wk⟩
theorem Sx.st {s k:D} {n:Nat} (S:Sx s k n):Sk s k:=S.sw.st
instance {s k:D} {n:Nat}:CoeOut (Sx s k n) (Sk s k):=⟨Sx.st⟩
instance {s k:D} {n:Nat}:CoeOut (Sw s k n) (Sk s k):=⟨Sw.st⟩
theorem Sx.mono {s k:D} {n m:Nat} (S:Sx s k n) (h:n<=m):Sx s k m:=⟨S.g.mono h,S.wk,S.n2s,S.n2k⟩
abbrev ss (k:D) (t:Int) (x:KT):D:=dL (fC k.l t x.d)
theorem iH (a:D) (l:List D):dL (a::l)= .p a (dL l):=rfl
theorem k8:dL []= .i 0:=rfl
structure Mc (d0 d1 s:D) (t op obj arg tries:Int) (n:Nat) (s':D) (e1 e2 e3 e4 e5 oc:Int):Prop where
 eq:L 400 [enc d0,enc d1,enc s,t,op,obj,arg,tries]=some [enc s',e1,e2,e3,e4,e5,oc]
 no:oc=0->s'=s/\e1=0/\e2=0/\e3=0/\e4=0/\e5=0
 oc3:oc=0\/oc=2\/oc=3
 gs:Gs s' (n+1)
 len:s'.l.length=s.l.length
 n2:s≠.i 2->s'≠.i 2
 e3:fX .i64 e3
 e4:fX .i64 e4
theorem PB {d0 d1 s:D} {t op obj arg tries:Int} {n:Nat} (h0:Wd (.sl 3) d0) (U:Wd (.sl 4) d1) (G:Gs s n) (hn:n<17592186043904) (ht:fX .i64 t) (xA:fX .u8 op) (JO:fX .i64 obj) (ha:fX .i64 arg) :
 ∃s' e1 e2 e3 e4 e5 oc,Mc d0 d1 s t op obj arg tries n s' e1 e2 e3 e4 e5 oc:=by
 have hf:=G.n8 (by omega:n<17592186044415);have z:fX .i64 0:=⟨J,J⟩;by_cases A:Acc d0 d1 s t op obj
 ·obtain⟨_,o,c,dn,g,r,v,T,hL⟩:=PA (arg:=arg) (tries:=tries) h0 U G.wd hf xA A;rw [QB] at hL;have o0:=A.o0;have o1:=A.o1;obtain⟨i,rfl⟩ : ∃i:Nat,obj=(i:Int):=⟨obj.toNat,J⟩;have hi:i<s.l.length:=J
  have lz:=G.rows _ (aA hi);have e:s.l[i]=dL [.i o,.i c,.i dn,.i g,r,v]:=by rw [<- cA hi]; exact T.is
  rw [e] at lz;have hA:=afT (M:=Mx d0 (i:Int)) (mo:=Mo d0 s (i:Int)) (op:=op) (tries:=tries) T (n:=n) lz.1 lz.2 J ht ha;have hE:=ajP (M:=Mx d0 (i:Int)) (mo:=Mo d0 s (i:Int)) (th:=t) (op:=op) (tries:=tries) T (by have:=lz.1; have:r.l.length<=n:=this; omega) ha
  have hM:NoM (act (Mx d0 (i:Int)) (Mo d0 s (i:Int)) t op arg tries o c dn g r v)\/0<=Mx d0 (i:Int)/\Mx d0 (i:Int)<(s.l.length:Int):=by
   by_cases h:op=12\/op=24
   ·have:=Mb h0 U G.wd hf xA A h;exact .inr ⟨this.1,this.2.1⟩
   ·exact .inl (Uo J J)
  have hg:=O_ G hA o0 o1 hM;have hl:=W8 s (i:Int) (Mx d0 (i:Int)) (act (Mx d0 (i:Int)) (Mo d0 s (i:Int)) t op arg tries o c dn g r v);generalize act (Mx d0 (i:Int)) (Mo d0 s (i:Int)) t op arg tries o c dn g r v=B at *
  have hn2:s≠.i 2->Nz s (i:Int) (Mx d0 (i:Int)) B≠.i 2:=fun _ he=>by rw [he] at hl;have:(D.i 2).l.length=0:=rfl;omega
  cases B with
  |nW=>exact⟨s,0,0,0,0,0,0,hL,fun _=> ⟨rfl,rfl,rfl,rfl,rfl,rfl⟩,.inl rfl,hg,rfl,fun h=>h,z,z⟩
  |Aj=>exact⟨s,t,27,_,_,0,2,hL,fun h=>absurd h J,.inr (.inl rfl),hg,rfl,fun h=>h,JO,pM _⟩
  |res o' c' dn' g' r' v' m a oc=>exact⟨_,t,op,_,a,0,oc,hL,fun h=>by have:=hA.2.2.2.2.2.2.2.2.2; omega,.inr hA.2.2.2.2.2.2.2.2.2,hg,hl,hn2,JO,hE⟩
 ·exact⟨s,0,0,0,0,0,0,Vt h0 U G.wd hf xA A,fun _=> ⟨rfl,rfl,rfl,rfl,rfl,rfl⟩,.inl rfl,G.mono (amt n),rfl,fun h=>h,z,z⟩
noncomputable abbrev stE (d0 d1 s k:D) (t:Int):Nat->Int:=cX L (low [enc d0,enc d1,enc s,enc k,t])
theorem WI {k:D} {t:Int} {x:KT} (h:k=dL k.l) (t0:0<=t) (t1:t<(k.l.length:Int)) (hk:k.at t=x.d):ss k t x=k:=by
 obtain⟨i,rfl⟩ : ∃i:Nat,t=(i:Int):=⟨t.toNat,J⟩;have hi:i<k.l.length:=J
 rw [cA hi] at hk;unfold ss;rw [<- hk];exact eJ h hi
section
variable {d0 d1 s k:D} {t:Int} (S:Sk s k)
include S
theorem PJ (hR:L 1550 [enc d0,enc d1,enc s,enc k,t]=some [0]):L 1850 [enc d0,enc d1,enc s,enc k,t]=some [enc s,enc k,0,0,0,0,0,0]:=by
 by_cases hr:t<0\/(k.l.length:Int)<=t
 ·rcases Uj S hr with h|⟨h,he⟩|⟨h,he⟩
  ·have K:ei (stE d0 d1 s k t) mi= .out [enc s,enc k,0,0,0,0,0,0]:=by
    simp only [mi,zz,h,hR,Int.reduceEq]
   rw [bO,BJ];exact congrArg (fin L) K
  ·subst he
   have K:ei (stE d0 d1 s (.i 1) t) mi= .out [enc s,enc (.i 1),0,0,0,0,0,0]:=by simp only [mi,zz,h,hR,Int.reduceEq]
   rw [bO,BJ];exact congrArg (fin L) K
  ·subst he
   have K:ei (stE d0 d1 s (.i 2) t) mi= .out [enc s,enc (.i 2),0,0,0,0,0,0]:=by simp only [mi,zz,h,hR,Int.reduceEq]
   rw [bO,BJ];exact congrArg (fin L) K
 ·obtain⟨i,rfl⟩ : ∃i:Nat,t=(i:Int):=⟨t.toNat,J⟩;have hi:i<k.l.length:=J
  obtain⟨a,lc,w,o,g,tr,T⟩:=iF S.wk _ (aA hi);have h:=Hu S hi T;have hs:ss k (i:Int) ⟨a,lc,w,o,g,tr⟩ = k:=WI (Fy S.wk J).sh J J (by rw [cA hi,T.is]);simp only [ss,KT.d,iH,k8] at hs;have ha:wG lc=3\/wG lc=4:=by unfold wG; split<;>simp
  have K:ei (stE d0 d1 s k (i:Int)) mi= .out [enc s,enc k,0,0,0,0,0,0]:=by
   rcases ha with ha|ha
   ·rw [ha] at h;simp only [mi,zz,h,hR,hs,Int.reduceEq]
   ·rw [ha] at h;simp only [mi,zz,h,hR,hs,Int.reduceEq]
  rw [bO,BJ];exact congrArg (fin L) K
end
structure Rs (d0 d1 s k:D) (t:Int) (x:KT):Prop where
 c:Cd d0 d1
 r:Rt d0 d1 t x
 hk:k.at t=x.d
 ht:t<(k.l.length:Int)
 yes:L 1550 [enc d0,enc d1,enc s,enc k,t]=some [1]
theorem aeh {d0 d1 s k:D} {t:Int} {n:Nat} (S:Sw s k n) (hn:n<17592186044000) (h0:Wd (.sl 3) d0) (U:Wd (.sl 4) d1):L 1550 [enc d0,enc d1,enc s,enc k,t]=some [0]\/∃x,Rs d0 d1 s k t x:=by
 obtain⟨ys,hL,b,rfl,Y⟩:=Kq (k:=k) h0 U (S.g.n8 J).rows U.len t;rcases Y with ⟨rfl,_⟩|⟨rfl,t0,t1,M⟩
 ·exact .inl hL
 ·refine .inr ?_;obtain⟨hle,hO⟩:=M.2;obtain⟨i,rfl⟩ : ∃i:Nat,t=(i:Int):=⟨t.toNat,J⟩;have hi:i<k.l.length:=J
  have hd:i<d1.l.length:=J
  obtain⟨a,lc,w,o,g,tr,T⟩:=iF S.wk _ (aA hi);have ok:=hO i hi;unfold OkK at ok;rw [T.is] at ok;simp only [zg,az,n_i] at ok;refine⟨⟨a,lc,w,o,g,tr⟩,(MR.code h0 U (S.g.n8 J).rows M).1,⟨J,J,?_,T.hl,T.hg⟩,by rw [cA hi,T.is],J,hL⟩;rw [cA hd];exact ok
theorem WY {d0 d1 s k:D} {t:Int} {n:Nat} (S:Sx s k n) (hn:n<17592186043904) (h0:Wd (.sl 3) d0) (U:Wd (.sl 4) d1):L 1550 [enc d0,enc d1,enc s,enc k,t]=some [0]\/∃x,Rs d0 d1 s k t x:=aeh S.sw J h0 U
section
variable {d0 d1 s k:D} {t:Int} {n:Nat} {x:KT} (S:Sk s k) (R:Rs d0 d1 s k t x)
include S R
theorem Rs.cp:L 9050 [t,enc s,enc k]=some [wG x.lc,t,enc s,enc k,x.a,enc x.lc,x.w,x.o,x.g,x.tr]:=by
 have t0:=R.r.t0;have ht:=R.ht;obtain⟨i,rfl⟩ : ∃i:Nat,t=(i:Int):=⟨t.toNat,J⟩;have hi:i<k.l.length:=J
 obtain⟨a,lc,w,o,g,tr,T⟩:=iF S.wk _ (aA hi);have h:=Hu S hi T;have e:=R.hk;rw [cA hi,T.is] at e;simp only [KT.d,iH,k8,D.p.injEq,D.i.injEq,and_true] at e;obtain⟨rfl,rfl,rfl,rfl,rfl,rfl⟩:=e;exact h
theorem Rs.self:dL (fC k.l t (.p (.i x.a) (.p x.lc (.p (.i x.w) (.p (.i x.o) (.p (.i x.g) (.p (.i x.tr) (.i 0))))))))=k:=by
 have hl:0<k.l.length:=by have:=R.r.t0; have:=R.ht; omega
 exact WI (Fy S.wk hl).sh R.r.t0 R.ht R.hk
theorem FJ (ho:jU d1 t x=1):L 1850 [enc d0,enc d1,enc s,enc k,t]=some [enc s,enc k,0,0,0,0,0,4]:=by
 have h:=R.cp S;have hs:=R.self S;have hR:=R.yes;have hO:=Ch (s:=s) R.hk R.ht R.r;rw [ho] at hO;have ha:wG x.lc=3\/wG x.lc=4:=by unfold wG; split<;>simp
 have K:ei (stE d0 d1 s k t) mi= .out [enc s,enc k,0,0,0,0,0,4]:=by
  rcases ha with ha|ha
  ·rw [ha] at h;simp only [mi,zz,h,hR,hs,hO,Int.reduceEq]
  ·rw [ha] at h;simp only [mi,zz,h,hR,hs,hO,Int.reduceEq]
 rw [bO,BJ];exact congrArg (fin L) K
theorem CZ (ho:jU d1 t x=0) (hn:low (kM d1 t x) 4=0):L 1850 [enc d0,enc d1,enc s,enc k,t]=some [enc s,enc (ss k t (tO (mS d1 t x) x)),0,0,0,0,0,1]:=by
 have h:=R.cp S;have hs:=R.self S;have hR:=R.yes;have hO:=Ch (s:=s) R.hk R.ht R.r;have hN:=Ip (s:=s) R.c R.hk R.ht R.r;have Lc:=XA R.r ho hn;rw [ho] at hO
 have K:ei (stE d0 d1 s k t) mi= .out [enc s,enc (ss k t (tO (mS d1 t x) x)),0,0,0,0,0,1]:=by
  have hw:(tO (mS d1 t x) x).w=x.w/\(tO (mS d1 t x) x).o=x.o/\(tO (mS d1 t x) x).g=x.g/\(tO (mS d1 t x) x).tr=x.tr:=by
   unfold tO
   repeat' split
   all_goals exact⟨rfl,rfl,rfl,rfl⟩
  by_cases hp:0<x.lc.l.length
  ·have ha:wG x.lc=3:=ah hp;rw [ha] at h;have hl:=Xy (s:=s) R.c R.ht R.r Lc;simp only [mi,zz,h,hR,hs,hO,hN,hn,hl,ss,KT.d,iH,k8,hw,Int.reduceEq]
  ·have ha:wG x.lc=4:=af hp;rw [ha] at h;obtain⟨hl,hc⟩:=Xx (s:=s) R.c R.ht R.r Lc J;simp only [mi,zz,h,hR,hs,hO,hN,hn,hl,ss,KT.d,iH,k8,hw,hc,Int.reduceEq]
 rw [bO,BJ];exact congrArg (fin L) K
theorem CY {op obj arg tries e1 e2 e3 e4 e5 oc:Int} {s':D} (ho:jU d1 t x=0) (hn:kM d1 t x= [op,obj,arg,tries,1]) (A:Mc d0 d1 s t op obj arg tries n s' e1 e2 e3 e4 e5 oc) :
 L 1850 [enc d0,enc d1,enc s,enc k,t]=some [enc s',enc (ss k t (rb (mS d1 t x) x op e2 e3 e4 oc)),e1,e2,e3,e4,e5,oc]:=by
 have h:=R.cp S;have hs:=R.self S;have hR:=R.yes;have hO:=Ch (s:=s) R.hk R.ht R.r;have hN:=Ip (s:=s) R.c R.hk R.ht R.r;rw [ho] at hO;rw [hn] at hN
 have hx:x.w=0->x.a<(Nc d1 t:Int):=fun w0=>by unfold jU at ho;rw [ah w0] at ho;have:=R.r.ok.2.1;unfold Nc at ho ⊢;split at ho<;>omega
 have hE:evT e1 e2 e3 e4 e5 oc= [e1,e2,e3,e4,e5]:=by
  unfold evT;split
  ·rename_i h0;obtain⟨_,rfl,rfl,rfl,rfl,rfl⟩:=A.no h0;rfl
  ·rfl
 have K:ei (stE d0 d1 s k t) mi= .out [enc s',enc (ss k t (rb (mS d1 t x) x op e2 e3 e4 oc)),e1,e2,e3,e4,e5,oc]:=by
  by_cases hp:0<x.lc.l.length
  ·have ha:wG x.lc=3:=ah hp;rw [ha] at h;have hl:=Vv R.c R.ht R.r A.eq (fun h=>(A.no h).1) hx;rw [hE] at hl;simp only [aP,aF] at hl;simp only [mi,zz,h,hR,hs,hO,hN,hl,ss,KT.d,iH,k8,Int.reduceEq]
  ·have ha:wG x.lc=4:=af hp;rw [ha] at h;obtain⟨hl,hc⟩:=Vu R.c R.ht R.r A.eq (fun h=>(A.no h).1) hx J;rw [hE] at hl;simp only [aP,aF] at hl;simp only [mi,zz,h,hR,hs,hO,hN,hl,ss,KT.d,iH,k8,hc,Int.reduceEq]
 rw [bO,BJ];exact congrArg (fin L) K
end
theorem dE.jmp {j k:Nat} {xs ys:List Int} {t:T Lf} {p:List Int->Prop} (e:S.tree j=t) (h:ei (cX L (low xs)) t= .jump k ys) (q:dE k ys p):dE j xs p:=by refine dE.of ?_;rw [e,h];exact .jump q
theorem dE.ret {j:Nat} {xs ys:List Int} {t:T Lf} {p:List Int->Prop} (e:S.tree j=t) (h:ei (cX L (low xs)) t= .out ys) (q:p ys):dE j xs p:=by refine dE.of ?_;rw [e,h];exact .out q
theorem FN (m:Nat) (hm:m<=60) (ih: ∀(k n:Int) (s kids:D),Wd .str s->Wd (.sl 6) kids->dE 150 [k,enc s,n,enc kids,(m:Int)] one) (x3 x4 x5:Int) (kids:D) (hk:Wd (.sl 6) kids) :
 ∀(j i:Nat) (x1:Int),i+j=kids.l.length->dE 151 [((m+1:Nat):Int),x1,(i:Int),x3,x4,x5,enc kids] one
 |0,i,x1,hi=>dE.ret aav (ys:=[x1]) (eb [] [.lt Qo n_] (ou [Qb]) (by simp only [zz]<;>omega) aa (by simp only [zz])) ⟨x1,rfl⟩
 |j+1,i,x1,hi=>by
  have hl:=hk.len;have eu:i<kids.l.length:=J
  have hw:=bQ (n:=i) J;obtain⟨k,s,n,ks,he,_,hs,_,Lb⟩:=vV hk eu;have ha:kids.at (i:Int)=dL [.i k,s,.i n,ks]:=by rw [cA eu]; exact he
  obtain⟨ys,Oe,z,rfl⟩:=ih k n s ks hs Lb;have hw2:IntKind.i64.wrap (((m+1:Nat):Int)-1)=(m:Int):=by rw [lh J J]; omega
  by_cases hx:10000<x1
  ·exact dE.ret aav (ys:=[x1]) (eb [.lt Qo n_,.lt (.lit 10000) Qb] [] (ou [Qb]) (by simp only [zz]<;>omega) aa (by simp only [zz])) ⟨x1,rfl⟩
  ·exact dE.jmp aav (eb [.lt Qo n_,.eq (a0 150 Qfd) Q0] [.lt (.lit 10000) Qb,Qcs] (ju 151 [Qf,wr (.add Qb (rr 150 Qfd 0)),Ft,Qm,cQ,dq,dW]) (by simp only [zz,ha,zg,hw2,Oe]<;>omega) aa (by simp only [zz,ha,zg,hw2,Oe,hw]<;>rfl)) (FN m hm ih x3 x4 x5 kids hk j (i+1) (IntKind.i64.wrap (x1+z)) J)
theorem Kj: ∀(m:Nat),m<=60->∀(k n:Int) (s kids:D),Wd .str s->Wd (.sl 6) kids->dE 150 [k,enc s,n,enc kids,(m:Int)] one
 |0,_,k,n,s,kids,_,_=>dE.ret afI (ys:=[10000]) (eb [Qfa] [] (ou [.lit 10000]) (by simp only [zz]<;>omega) aa (by simp only [zz])) ⟨_,rfl⟩
 |m+1,hm,k,n,s,kids,hs,hk=>dE.jmp afI (ys:=[((m+1:Nat):Int),_,(0:Nat),k,enc s,n,enc kids]) (eb [] [Qfa] (ju 151 [cQ,wr (.add Q0 (wr (.quo Qc (.lit 100)))),Qa,Qf,Qb,Qo,Qm]) (by simp only [zz]<;>omega) aa (by simp only [mj,List.map,bS,Nat.reduceLT,bJ,bK]<;>rfl)) (FN m J (Kj m J) k (enc s) n kids hk kids.l.length 0 _ J)
section
variable {d0 d1:D} (U:Wd (.sl 4) d1)
include U
theorem DT (x1 x2 x3:Int) (E6:D) (ha:Wd (.sl 6) E6) (q: ∀x0,dE 102 [x0,x1,IntKind.i64.wrap (x2+1),x3,enc d0,enc d1] wy): ∀(j i:Nat) (x0:Int),i+j=E6.l.length->dE 103 [x0,x1,x2,x3,enc E6,(E6.l.length:Int),(i:Int),enc d0,enc d1] wy
 |0,i,x0,hi=>dE.jmp afJ (eb [] [.lt dW dq] (ju 102 [Qf,Qb,Ft,Qm,eP,ga]) (by simp only [zz]<;>omega) aa (by simp only [zz])) (q x0)
 |j+1,i,x0,hi=>by
  have hl:=ha.len;have eu:i<E6.l.length:=J
  have hw:=bQ (n:=i) J;obtain⟨k,s,n,ks,he,_,hs,_,Lb⟩:=vV ha eu;have mE:E6.at (i:Int)=dL [.i k,s,.i n,ks]:=by rw [cA eu]; exact he
  obtain⟨ys,Oe,z,rfl⟩:=Kj 60 J k n s ks hs Lb;have Oe:L 150 [k,enc s,n,enc ks,60]=some [z]:=Oe;exact dE.jmp afJ (eb [.lt dW dq,.lt dW Mj,.eq (a0 150 Qe8) Q0] [Qe6] (ju 103 [wr (.add Qf (rr 150 Qe8 0)),Qb,Qo,Qm,cQ,dq,Qe9,eP,ga]) (by simp only [zz,mE,zg,Oe]<;>omega) aa (by simp only [zz,mE,zg,Oe,hw]<;>rfl)) (DT x1 x2 x3 E6 ha q j (i+1) (IntKind.i64.wrap (x0+z)) J)
theorem TX (i:Nat) (hi:i<d1.l.length) (q: ∀x0,dE 101 [x0,(d1.l.length:Int),((i+1:Nat):Int),enc d0,enc d1] wy): ∀(j k:Nat) (x0:Int),(∀Bk lc cd,d1.l[i]=dL [Bk,lc,cd]->k+j=cd.l.length)->dE 102 [x0,(i:Int),(k:Int),(d1.l.length:Int),enc d0,enc d1] wy:=by
 have hl:=U.len;have hw:=bQ (n:=i) J;obtain⟨Bk,lc,cd,he,_,_,Ru⟩:=xX U hi;have mE:d1.at (i:Int)=dL [Bk,lc,cd]:=by rw [cA hi]; exact he
 have Cr:=Ru.len;intro j
 induction j with
 |zero=> intro k x0 hk;have hk:=hk _ _ _ he;exact dE.jmp aaw (eb [.lt Qb (ln dq)] [Mi,.lt Qo (ln (ce 2 (el dq Qb)))] (ju 101 [Qf,Qm,pG,cQ,dq]) (by simp only [zz,mE,zg]<;>omega) aa (by simp only [zz,hw]<;>rfl)) (q x0)
 |succ j ih=>
  intro k x0 hk;have Rq:=hk _ _ _ he;by_cases h6:6000<x0
  ·exact dE.jmp aaw (eb [.lt Qb (ln dq),.lt Qo (ln (ce 2 (el dq Qb))),.lt (.lit 6000) Qf] [Mi] (ju 101 [Qf,Qm,pG,cQ,dq]) (by simp only [zz,mE,zg]<;>omega) aa (by simp only [zz,hw]<;>rfl)) (q x0)
  ·have JP:k<cd.l.length:=J
   have hw2:=bQ (n:=k) J;obtain⟨a,b,c,e,f,g,E6,xS,_,_,_,_,_,_,has⟩:=NW Ru JP;have ak9:cd.at (k:Int)=dL [.i a,.i b,.i c,.i e,.i f,.i g,E6]:=by rw [cA JP]; exact xS
   refine dE.jmp aaw (eb [.lt Qb (ln dq),.lt Qo (ln (ce 2 (el dq Qb)))] [Mi,.lt (.lit 6000) Qf,Qcs] (ju 103 [Qf,Qb,Qo,Qm,Qe5,ln Qe5,Qa,cQ,dq]) (by simp only [zz,mE,zg]<;>omega) aa (by simp only [zz,mE,ak9,zg]<;>rfl)) (DT U (i:Int) (k:Int) (d1.l.length:Int) E6 has (fun x0=>?_) E6.l.length 0 x0 J);rw [hw2];exact ih (k+1) x0 fun Bk lc cd he=>by have:=hk Bk lc cd he; omega
theorem DS: ∀(j i:Nat) (x0:Int),i+j=d1.l.length->dE 101 [x0,(d1.l.length:Int),(i:Int),enc d0,enc d1] wy
 |0,i,x0,hi=>by
  by_cases h6:6000<x0
  ·exact dE.ret aax (eb [.lt (.lit 6000) Qf] [CF] (ou [Q0]) (by simp only [zz]<;>omega) aa (by simp only [zz])) oZ
  ·exact dE.ret aax (eb [] [CF,.lt (.lit 6000) Qf] (ou [Qa]) (by simp only [zz]<;>omega) aa (by simp only [zz])) qF
 |j+1,i,x0,hi=>by
  have eu:i<d1.l.length:=J
  obtain⟨Bk,lc,cd,he,_,_,Ru⟩:=xX U eu;refine dE.jmp aax (ys:=[_,(i:Int),((0:Nat):Int),(d1.l.length:Int),enc d0,enc d1]) (eb [CF,U3] [Qcs] (ju 102 [wr (.add Qf (wr (.add (ln C_) (ln (ce 2 C!))))),Qo,Qa,Qb,Qm,cQ]) (by simp only [zz]<;>omega) aa (by simp only [zz]<;>rfl)) (TX U i eu (fun x0=>DS j (i+1) x0 J) cd.l.length 0 _ fun n' l' c' wB=>?_);rw [he] at wB;have:=EE wB;simp only [List.cons.injEq,and_true] at this;rw [this.2.2];omega
theorem TW:dE 100 [enc d0,enc d1] wy:=
 dE.jmp ajH (ys:=[_,(d1.l.length:Int),((0:Nat):Int),enc d0,enc d1]) (eb [] [] (ju 101 [wr (.add qy Qc),Qc,Qa,Qf,Qb]) (by simp only [zz]<;>omega) aa (by simp only [zz]<;>rfl)) (DS U d1.l.length 0 _ J)
end
def lj (x:D):D:=dL [.i 0,if (x.hd 1).l.length=0 then .i 2 else dL (List.replicate (x.hd 1).l.length (.i 0)),.i 0,.i 0,.i 0,.i 0]
def ja (d0:D):D:=if d0.l.length=0 then .i 1 else dL (d0.l.map jR)
def mh (d1:D):D:=if d1.l.length=0 then .i 1 else dL (d1.l.map lj)
theorem J5 {l:List D} (h: ∀x∈l,∃a lc w o g tr,Kt x a lc w o g tr) (hn:l≠[]) (hl:l.length<=2199023255488):Wd (.sl 8) (dL l):=by
 have e:(l.map fun x=>x.l).map dL=l:=by
  rw [amE]
  conv=>rhs; rw [<- List.map_id l]
  apply amW;intro x hx;obtain⟨a,lc,w,o,g,tr,T⟩:=h x hx;rw [T.is];rfl
 rw [<- e];refine .many 8 [.int .i64,.sl 0,.int .u8,.int .i64,.int .i64,.int .i64] _ rfl (by simpa using hn) (by have:rT 8=64:=rfl; rw [this,al7]; omega) (fun r hr=>?_) fun r hr j d c U Z=>?_
 ·obtain⟨x,hx,rfl⟩:=aT.1 hr;obtain⟨a,lc,w,o,g,tr,T⟩:=h x hx;rw [T.is];rfl
 ·obtain⟨x,hx,rfl⟩:=aT.1 hr;obtain⟨a,lc,w,o,g,tr,T⟩:=h x hx;rw [T.is,bM] at U
  match j with
  |0=>simp at U Z; subst U Z; exact .int _ _ T.ha
  |1=>simp at U Z; subst U Z; exact T.hl
  |2=>simp at U Z; subst U Z; exact .int _ _ T.hw
  |3=>simp at U Z; subst U Z; exact .int _ _ T.ho
  |4=>simp at U Z; subst U Z; exact .int _ _ T.hg
  |5=>simp at U Z; subst U Z; exact .int _ _ T.ht
  |j+6=>simp at U
theorem VC (x:D) (h:(x.hd 1).l.length<=17592186043904): ∃a lc w o g tr,Kt (lj x) a lc w o g tr:=by
 have z:fX .i64 0:=⟨J,J⟩;refine⟨0,_,0,0,0,0,rfl,z,?_,⟨J,J⟩,z,z,z⟩;split
 ·exact .vG 0
 ·rename_i hn;refine vv (fun y hy=> ⟨0,(List.mem_replicate.1 hy).2,z⟩) (fun he=>?_) (by simpa using h);have:=congrArg List.length he;simp only [amz,aX] at this;omega
theorem xr {d1:D} (U:Wd (.sl 4) d1): ∀x∈d1.l,(x.hd 1).l.length<=8796093021952:=by intro x hx;obtain⟨i,hi,rfl⟩:=amS hx;obtain⟨Bk,lc,cd,he,_,hlc,_⟩:=xX U hi;rw [he];simp only [zg,az];have:=hlc.room;have h3:rT 2=16:=rfl;rw [h3] at this;omega
theorem Ww {d0 d1:D} (h0:Wd (.sl 3) d0) (U:Wd (.sl 4) d1) (ok:uz d0 d1):Sx (ja d0) (mh d1) 0:=by
 refine⟨?_,?_,?_,?_⟩
 ·unfold ja;split
  ·exact⟨.nil 7,fun x hx=>by simp [D.l] at hx⟩
  ·refine⟨Fx (fun x hx=>?_) (fun he=>?_) (by rw [al7]; have:=ok.1; omega),fun x hx=>?_⟩
   ·obtain⟨y,hy,rfl⟩:=aT.1 hx;obtain⟨kd,Bk,ln,s1,s2,he,_,hnn,_⟩:=h0.decl y hy;rw [he];refine⟨-1,_,0,0,.i 1,.i 1,rfl,⟨J,J⟩,?_,.inl rfl,⟨J,J⟩,.nil 0,.nil 0⟩;split
    ·exact hnn
    ·exact⟨J,J⟩
   ·have:=congrArg List.length he;simp only [al7,aX] at this;omega
   ·rw [bM] at hx;obtain⟨y,hy,rfl⟩:=aT.1 hx;exact⟨au 0,au 0⟩
 ·unfold mh;split
  ·exact .nil 8
  ·refine J5 (fun x hx=>?_) (fun he=>?_) (by rw [al7]; have:=ok.2.1; omega)
   ·obtain⟨y,hy,rfl⟩:=aT.1 hx;exact VC y (by have:=xr U y hy; omega)
   ·have:=congrArg List.length he;simp only [al7,aX] at this;omega
 ·unfold ja;split
  ·intro h; cases h
  ·intro h;have:=congrArg (fun d=>d.l.length) h;simp only [bM,al7,tx,aX] at this;omega
 ·unfold mh;split
  ·intro h; cases h
  ·intro h;have:=congrArg (fun d=>d.l.length) h;simp only [bM,al7,tx,aX] at this;omega
theorem Bn (d1:D) (U:Wd (.sl 4) d1) (hlen:d1.l.length<=16) (s:D): ∀(k i:Nat) (acc:List D),i+k=d1.l.length->acc.length=i->
 L 1452 [enc d1,(d1.l.length:Int),(i:Int),enc s,enc (dL acc)]=some [enc s,enc (dL (acc++(d1.l.drop i).map lj)),0]
 |0,i,acc,hi,ha=>by
  have c1: ¬(i:Int)<(d1.l.length:Int):=J
  rw [bO,Zt,amC J];simp only [PF,zz,c1,bN,anl,amm]
 |k+1,i,acc,hi,ha=>by
  have eu:i<d1.l.length:=J
  have hd:d1.l.drop i=d1.l[i]::d1.l.drop (i+1):=bp eu;have ih:=Bn d1 U hlen s k (i+1) (acc++ [lj d1.l[i]]) J (by simp [ha]);have c1:(i:Int)<(d1.l.length:Int):=J
  have c2: ¬((i:Int)<0):=J
  have w:=bQ (n:=i) J;have c3:(acc.length:Int)<2199023255551:=J
  have Y:=xr U _ (aA eu);have c4:((((d1.l[i]).hd 1).l.length:Nat):Int)<17592186044416:=J
  have e2:acc++(lj d1.l[i]::(d1.l.drop (i+1)).map lj)=acc++ [lj d1.l[i]]++(d1.l.drop (i+1)).map lj:=ad
  rw [hd,ax,e2,<- ih,bO,Zt];by_cases hz:((d1.l[i]).hd 1).l.length=0
  ·have Fg:((((d1.l[i]).hd 1).l.length:Nat):Int)=0:=J
   have et:lj d1.l[i]= .p (.i 0) (.p (.i 2) (.p (.i 0) (.p (.i 0) (.p (.i 0) (.p (.i 0) (.i 0)))))):=by unfold lj; rw [ah hz]; rfl
   rw [et];simp only [PF,zz,c1,c2,w,cA eu,Fg,c3,bM,bE]
  ·have Fg: ¬((((d1.l[i]).hd 1).l.length:Nat):Int)=0:=J
   have et:lj d1.l[i]= .p (.i 0) (.p (dL (List.replicate ((d1.l[i]).hd 1).l.length (.i 0))) (.p (.i 0) (.p (.i 0) (.p (.i 0) (.p (.i 0) (.i 0)))))):=by unfold lj; rw [af hz]; rfl
   rw [et];simp only [PF,zz,c1,c2,w,cA eu,Fg,c3,c4,bM,bj,bE]
theorem KQ (d1:D) (U:Wd (.sl 4) d1) (hlen:d1.l.length<=16) (s:D):L 1451 [enc d1,(d1.l.length:Int),enc s]=some [enc s,enc (mh d1),0]:=by
 by_cases hn:d1.l.length=0
 ·have c1: ¬(0:Int)<(d1.l.length:Int):=J
  have e:mh d1= .i 1:=by unfold mh; rw [ah hn]
  rw [bO,Zu,e];simp only [PG,zz,c1,bN]
 ·have hp:0<d1.l.length:=J
  have c1:(0:Int)<(d1.l.length:Int):=J
  have e:mh d1=dL (d1.l.map lj):=by unfold mh; rw [af hn]
  have ih:=Bn d1 U hlen s (d1.l.length-1) 1 [lj (d1.l[0]'hp)] J rfl
  have e1:[lj (d1.l[0]'hp)]++(d1.l.drop 1).map lj=d1.l.map lj:=by
   conv=>rhs; rw [<- amh (l:=d1.l),bp hp]
   rfl
  rw [e1,<- e] at ih;have a0:d1.at 0=d1.l[0]'hp:=cA (i:=0) hp;have Y:=xr U _ (aA hp);have c4:((((d1.l[0]'hp).hd 1).l.length:Nat):Int)<17592186044416:=J
  rw [<- ih,bO,Zu];by_cases hz:((d1.l[0]'hp).hd 1).l.length=0
  ·have Fg:((((d1.l[0]'hp).hd 1).l.length:Nat):Int)=0:=J
   have et:dL [lj (d1.l[0]'hp)]= .p (.p (.i 0) (.p (.i 2) (.p (.i 0) (.p (.i 0) (.p (.i 0) (.p (.i 0) (.i 0))))))) (.i 0):=by unfold lj; rw [ah hz]; rfl
   rw [et];simp only [PG,zz,c1,a0,Fg,tx,aF,iH,k8,bE,bg]
  ·have Fg: ¬((((d1.l[0]'hp).hd 1).l.length:Nat):Int)=0:=J
   have et:dL [lj (d1.l[0]'hp)]= .p (.p (.i 0) (.p (dL (List.replicate ((d1.l[0]'hp).hd 1).l.length (.i 0))) (.p (.i 0) (.p (.i 0) (.p (.i 0) (.p (.i 0) (.i 0))))))) (.i 0):=by unfold lj; rw [af hz]; rfl
   rw [et];simp only [PG,zz,c1,a0,Fg,c4,tx,aF,iH,k8,bj,bE,bg]
theorem Tz {d0 d1:D} (U:Wd (.sl 4) d1) (hc:L 450 [enc d0,enc d1]=some [0]) (ok:uz d0 d1):L 1450 [enc d0,enc d1]=some [enc (ja d0),enc (mh d1),0]:=by
 have h3:L 300 [enc d0,enc d1]=some [enc (ja d0)]:=by
  by_cases hn:d0.l.length=0
  ·have e:ja d0= .i 1:=by unfold ja; rw [ah hn]
   rw [e];exact e! hc (.inr hn)
  ·have e:ja d0=dL (d0.l.map jR):=by unfold ja; rw [af hn]
   rw [e];exact e? hc ok.1 J
 have K:ei (cX L (low [enc d0,enc d1])) abB= .jump 1451 [enc d1,(d1.l.length:Int),enc (ja d0)]:=by refine eb [Qff,Qfg,.eq (a0 300 BT) Q0] [] (ju 1451 [Qb,Qc,rr 300 BT 0]) (by simp only [zz,hc,h3]<;>omega) aa ?_;simp only [zz,h3]
 rw [bO,acS];exact (congrArg (fin L) K).trans (KQ d1 U ok.2.1 _)
theorem ue (k:D) (t:Int) (x:KT):(ss k t x).l.length=k.l.length:=by rw [bM,gu]
theorem Gk {d1:D} {t:Int} {x:KT} (ho: ¬jU d1 t x=1) (h: ¬low (kM d1 t x) 4=0): ∃op obj arg tr,kM d1 t x= [op,obj,arg,tr,1]:=by
 unfold jU at ho;unfold kM at h ⊢;by_cases w0:x.w=0
 ·rw [ah w0] at ho h ⊢;by_cases a0:x.a=(Nc d1 t:Int)
  ·rw [ah a0] at ho;omega
  ·rw [af a0] at h ⊢;by_cases U:((mS d1 t x).hd 0).n=1
   ·rw [ah U];exact⟨_,_,_,_,rfl⟩
   ·rw [af U] at h ⊢;by_cases Z:((mS d1 t x).hd 0).n=2
    ·rw [ah Z];exact⟨_,_,_,_,rfl⟩
    ·rw [af Z] at h;exact absurd rfl h
 ·rw [af w0];exact⟨_,_,_,_,rfl⟩
theorem P8 (d1:D) (t:Int) (x:KT):jU d1 t x=0\/jU d1 t x=1:=by
 unfold jU;split
 ·split
  ·exact .inr rfl
  ·exact .inl rfl
 ·exact .inl rfl
theorem QF {d0 d1:D} {t:Int} {x:KT} (C:Cd d0 d1) (R:Rt d0 d1 t x) (hd0:d0.l.length<=64) {op obj arg tr b:Int} (hn:kM d1 t x= [op,obj,arg,tr,b]):fX .u8 op/\fX .i64 obj/\fX .i64 arg:=by
 have z8:fX .u8 0:=⟨J,J⟩;have z:fX .i64 0:=⟨J,J⟩;have ok:=R.ok;unfold kM at hn;by_cases w0:x.w=0
 ·rw [ah w0] at hn;by_cases a0:x.a=(Nc d1 t:Int)
  ·rw [ah a0] at hn;simp only [List.cons.injEq] at hn;obtain⟨rfl,rfl,rfl,_⟩:=hn;exact⟨z8,z,z⟩
  ·have fe:x.a<(Nc d1 t:Int):=by have:=ok.2.1; unfold Nc at a0 ⊢; omega
   have F:=C.inf R fe;rw [af a0] at hn;by_cases U:((mS d1 t x).hd 0).n=1
   ·rw [ah U] at hn;simp only [List.cons.injEq] at hn;obtain⟨rfl,rfl,rfl,_⟩:=hn;exact⟨F.op,F.ob,aaO F.ar R.ints⟩
   ·rw [af U] at hn;by_cases Z:((mS d1 t x).hd 0).n=2
    ·rw [ah Z] at hn;simp only [List.cons.injEq] at hn;obtain⟨rfl,rfl,rfl,_⟩:=hn;exact⟨⟨J,J⟩,F.ob,z⟩
    ·rw [af Z] at hn;simp only [List.cons.injEq] at hn;obtain⟨rfl,rfl,rfl,_⟩:=hn;exact⟨z8,z,z⟩
 ·rw [af w0] at hn;simp only [List.cons.injEq] at hn;obtain⟨rfl,rfl,rfl,_⟩:=hn;obtain⟨_,_,_,_,_,hw⟩:=ok;exact⟨⟨J,J⟩,⟨J,J⟩,R.hg⟩
theorem E_ {lc:D} (h:Wd (.sl 0) lc) {z v:Int} (h0:0<=z) (U:z<(lc.l.length:Int)) (hv:fX .i64 v):Wd (.sl 0) (dL (fC lc.l z (.i v))):=by
 have:=h.room;have h3:rT 0=8:=rfl;rw [h3] at this;have hs:=gu lc.l z (.i v);refine vv (fun y hy=>?_) (fun he=>?_) (by rw [hs]; omega)
 ·rcases uB hy with h'|rfl
  ·exact (h.el1 rfl y h').i
  grind
 grind
theorem Pu {k:D} (hk:Wd (.sl 8) k) {t:Int} {x:KT} (h: ∃a lc w o g tr,Kt x.d a lc w o g tr) (hp:0<k.l.length):Wd (.sl 8) (ss k t x):=by
 have hf:=hk.room;have h3:rT 8=64:=rfl;rw [h3] at hf;have hs:=gu k.l t x.d;refine J5 (fun y hy=>?_) (fun he=>?_) (by rw [hs]; omega)
 ·rcases uB hy with h'|rfl
  ·exact iF hk y h'
  grind
 grind
section
variable {d0 d1 s k:D} {t:Int} {n:Nat} {x:KT}
theorem KU {x:KT} (ha:fX .i64 x.a) (hl:Wd (.sl 0) x.lc) (hw:fX .u8 x.w) (ho:fX .i64 x.o) (hg:fX .i64 x.g) (ht:fX .i64 x.tr): ∃a lc w o g tr,Kt x.d a lc w o g tr:=⟨_,_,_,_,_,_,rfl,ha,hl,hw,ho,hg,ht⟩
theorem Rt.kt (C:Cd d0 d1) (R:Rt d0 d1 t x): ∃a lc w o g tr,Kt x.d a lc w o g tr:=by obtain⟨a0,a1,_,t0,t1,hw⟩:=R.ok;have hd:=C.ok.1;have hnc:=(C.code R.t0 R.t1).len;exact KU ⟨J,J⟩ R.hl ⟨J,J⟩ ⟨J,J⟩ R.hg ⟨J,J⟩
theorem adO (C:Cd d0 d1) (R:Rt d0 d1 t x) (hx:x.w=0->x.a<(Nc d1 t:Int)) {op e2 e3 e4 oc:Int} (h3:fX .i64 e3) (h4:fX .i64 e4): ∃a lc w o g tr,Kt (rb (mS d1 t x) x op e2 e3 e4 oc).d a lc w o g tr:=by
 obtain⟨a0,a1,t?,t0,t1,hw⟩:=R.ok;have hd:=C.ok.1;have hnc:=(C.code R.t0 R.t1).len;have ka:fX .i64 x.a:=⟨J,J⟩;have kw:fX .u8 x.w:=⟨J,J⟩;have ko:fX .i64 x.o:=⟨J,J⟩;have kt:fX .i64 x.tr:=⟨J,J⟩;have z:fX .i64 0:=⟨J,J⟩;have z8: ∀v:Int,v=0\/v=24\/v=25->fX .u8 v:=fun v h=> ⟨J,J⟩;unfold rb;split
 ·split
  ·exact KU ka R.hl kw ko R.hg (by
    show fX .i64 (if 4611686018427387904<x.tr+1 then 4611686018427387904 else x.tr+1)
    split<;>exact⟨J,J⟩)
  ·exact KU ka R.hl kw ko R.hg kt
 ·split
  ·rename_i w0;have F:=C.inf R (hx w0);have ok:=F.ok;have U:=hx w0;unfold Nc at U;unfold OkI at ok;have k1:fX .i64 (x.a+1):=⟨J,J⟩;refine KU ?_ ?_ ?_ ?_ ?_ z
   ·show fX .i64 (if _ then _ else _);split
    ·exact F.to
    grind
   ·show Wd (.sl 0) (if _ then _ else _);split
    ·rename_i hc;refine E_ R.hl J ?_ h4
     grind
    ·exact R.hl
   all_goals grind
  ·exact KU ka R.hl (z8 _ (.inl rfl)) z z z
theorem PL {k:D} (hp:0<k.l.length) (t:Int) (x:KT):ss k t x≠.i 2:=fun he=>by have:=ue k t x;rw [he] at this;have e:(D.i 2).l.length=0:=rfl;omega
theorem Vx (S:Sx s k n) (C:Cd d0 d1) (R:Rt d0 d1 t x) (ht:t<(k.l.length:Int)) (hx:x.w=0->x.a<(Nc d1 t:Int)) {op obj arg tries e1 e2 e3 e4 e5 oc:Int} {s':D} (A:Mc d0 d1 s t op obj arg tries n s' e1 e2 e3 e4 e5 oc) :
 Sx s' (ss k t (rb (mS d1 t x) x op e2 e3 e4 oc)) (n+1):=by
 have hp:0<k.l.length:=by have:=R.t0; omega
 exact⟨A.gs,Pu S.wk (adO C R hx A.e3 A.e4) hp,A.n2 S.n2s,PL hp _ _⟩
theorem ac7 (R:Rt d0 d1 t x) (ho:jU d1 t x=0):x.w=0->x.a<(Nc d1 t:Int):=fun w0=>by unfold jU at ho;rw [ah w0] at ho;have:=R.ok.2.1;unfold Nc at ho ⊢;split at ho<;>omega
end
structure afV (d0 d1 s k:D) (t:Int) (n:Nat) (s' k':D) (e1 e2 e3 e4 e5 oc:Int):Prop where
 eq:L 1850 [enc d0,enc d1,enc s,enc k,t]=some [enc s',enc k',e1,e2,e3,e4,e5,oc]
 sx:Sx s' k' (n+1)
 ls:s'.l.length=s.l.length
 lk:k'.l.length=k.l.length
section
variable {d0 d1 s k:D} {n:Nat} (S:Sx s k n) (hn:n<17592186043904) (h0:Wd (.sl 3) d0) (U:Wd (.sl 4) d1)
include S hn h0 U
theorem Xz {t:Int} {x:KT} (R:Rs d0 d1 s k t x) (ho:jU d1 t x=0) (ha:low (kM d1 t x) 4=0):Sx s (ss k t (tO (mS d1 t x) x)) n:=by
 have hp:0<k.l.length:=by have:=R.r.t0; have:=R.ht; omega
 exact⟨S.g,Pu S.wk ((Xw R.c R.ht R.r (XA R.r ho ha)).1.kt R.c) hp,S.n2s,PL hp _ _⟩
theorem ya (t:Int): ∃s' k' e1 e2 e3 e4 e5 oc,afV d0 d1 s k t n s' k' e1 e2 e3 e4 e5 oc:=by
 rcases WY (t:=t) S hn h0 U with h|⟨x,R⟩
 ·exact⟨s,k,0,0,0,0,0,0,PJ S h,S.mono (amt n),rfl,rfl⟩
 ·rcases P8 d1 t x with ho|ho
  ·by_cases ha:low (kM d1 t x) 4=0
   ·exact⟨_,_,0,0,0,0,0,1,CZ S R ho ha,(Xz S hn h0 U R ho ha).mono (amt n),rfl,ue _ _ _⟩
   ·obtain⟨op,obj,arg,tr,hq⟩:=Gk J ha;obtain⟨k1,k2,k3⟩:=QF R.c R.r R.c.ok.1 hq
    have fL:fX .i64 t:=by have:=R.r.t0;have:=R.r.t1;have:=U.len;exact⟨J,J⟩
    obtain⟨s',e1,e2,e3,e4,e5,oc,A⟩:=PB (tries:=tr) h0 U S.g hn fL k1 k2 k3;exact⟨s',_,e1,e2,e3,e4,e5,oc,CY S R ho hq A,Vx S R.c R.r R.ht (ac7 R.r ho) A,A.len,ue _ _ _⟩
  ·exact⟨s,k,0,0,0,0,0,4,FJ S R ho,S.mono (amt n),rfl,rfl⟩
end
def tv (x n:Int):Int:=if x.tmod n<0 then x.tmod n+n else x.tmod n
theorem J8 {x n:Int} (h:0<n): -n<x.tmod n/\x.tmod n<n:=by have U:=amZ x h;have Z:=amZ (-x) h;rw [Int.neg_tmod] at Z;omega
theorem Tm {x n:Int} (h:0<n):0<=tv x n/\tv x n<n:=by
 have:=J8 (x:=x) h;unfold tv
 grind
theorem Tl {x n:Int} (h:0<n) (Y:n<=140737488351232):(IntKind.i64.wrap (x.tmod n+n)).tmod n=tv x n:=by
 have U:=J8 (x:=x) h;rw [lh J J];unfold tv;split
 ·exact Int.tmod_eq_of_lt J J
 ·rw [an8 J,Int.add_emod_right];exact Int.emod_eq_of_lt J J
def EqN (a b:D):Prop:=a.l.length=b.l.length/\∀(i:Nat),(a.at (i:Int)).n=(b.at (i:Int)).n
structure KEq (x y:D):Prop where
 c0:(x.hd 0).n=(y.hd 0).n
 c1:EqN (x.hd 1) (y.hd 1)
 c2:(x.hd 2).n=(y.hd 2).n
 c3:(x.hd 3).n=(y.hd 3).n
 c4:(x.hd 4).n=(y.hd 4).n
 c5:(x.hd 5).n=(y.hd 5).n
def aeD (k:D):Prop:=k.l.length<=140737488351232/\∀i:Nat,((k.at (i:Int)).hd 1).l.length<=140737488351232
section
variable {s k s' k':D} (hl:k.l.length=k'.l.length) (hq: ∀i:Nat,KEq (k.at (i:Int)) (k'.at (i:Int))) (Y:aeD k)
include hl hq Y
end
abbrev evD (e1 e2 e3 e4 e5:Int):D:=dL [.i e1,.i e2,.i e3,.i e4,.i e5]
structure PS where
 s:D
 k:D
 l:List D
noncomputable def WD (d0 d1 s k:D) (t:Int):List Int:=(L 1850 [enc d0,enc d1,enc s,enc k,t]).getD []
noncomputable def SY (d0 d1:D) (p:PS) (t:Int):PS:=
 ⟨dec (low (WD d0 d1 p.s p.k t) 0),dec (low (WD d0 d1 p.s p.k t) 1),if low (WD d0 d1 p.s p.k t) 7=2\/low (WD d0 d1 p.s p.k t) 7=3 then p.l++ [evD (low (WD d0 d1 p.s p.k t) 2) (low (WD d0 d1 p.s p.k t) 3) (low (WD d0 d1 p.s p.k t) 4) (low (WD d0 d1 p.s p.k t) 5) (low (WD d0 d1 p.s p.k t) 6)] else p.l⟩
noncomputable def ry (d0 d1:D):PS->List Int->PS
 |p,[]=>p
 |p,t::ts=>ry d0 d1 (SY d0 d1 p t) ts
theorem A9 (d0 d1:D): ∀(a b:List Int) (p:PS),ry d0 d1 p (a++b)=ry d0 d1 (ry d0 d1 p a) b
 |[],b,p=>rfl
 |t::a,b,p=>by simp only [aP,ry];exact A9 d0 d1 a b _
structure D_ (d1:D) (p:PS) (n:Nat):Prop where
 sx:Sx p.s p.k n
 lk:p.k.l.length=d1.l.length
 ll:p.l.length<=n
theorem WC {d0 d1:D} {p:PS} {t:Int} {n:Nat} {s' k':D} {e1 e2 e3 e4 e5 oc:Int} (A:afV d0 d1 p.s p.k t n s' k' e1 e2 e3 e4 e5 oc):SY d0 d1 p t=⟨s',k',if oc=2\/oc=3 then p.l++ [evD e1 e2 e3 e4 e5] else p.l⟩:=by unfold SY WD;rw [A.eq];simp only [az,bJ,bK,bB]<;>rfl
theorem Nk {d0 d1:D} {p:PS} {t:Int} {n:Nat} (P:D_ d1 p n) {s' k':D} {e1 e2 e3 e4 e5 oc:Int} (A:afV d0 d1 p.s p.k t n s' k' e1 e2 e3 e4 e5 oc):D_ d1 (SY d0 d1 p t) (n+1):=by
 rw [WC A];refine⟨A.sx,A.lk.trans P.lk,?_⟩;have:=P.ll;show (if oc=2\/oc=3 then p.l++ [evD e1 e2 e3 e4 e5] else p.l).length<=n+1;split
 ·rw [a8]; exact Nat.succ_le_succ this
 ·omega
def UC (d1:D) (x:D):Int:=tv x.n (d1.l.length:Int)
theorem dr {ρ:Nat->Int} (a b:V):(V.rem a b).den ρ=(a.den ρ).tmod (b.den ρ):=rfl
theorem aib:((3:Int)=2)=False:=ad
theorem aid:((1:Int)=2)=False:=ad
theorem aic:((1:Int)=3)=False:=ad
section
variable {d0 d1:D} (h0:Wd (.sl 3) d0) (U:Wd (.sl 4) d1)
include h0 U
theorem PO: ∀(ts:List Int) (p:PS) (n:Nat),D_ d1 p n->n+ts.length<17592186043904->D_ d1 (ry d0 d1 p ts) (n+ts.length)
 |[],p,n,P,_=>P
 |t::ts,p,n,P,hn=>by
  simp only [aK] at hn;obtain⟨s',k',e1,e2,e3,e4,e5,oc,A⟩:=ya P.sx J h0 U t;have h:=PO ts _ (n+1) (Nk P A) J;have e:n+1+ts.length=n+(t::ts).length:=by rw [aK]; omega
  rw [e] at h;exact h
end
theorem MO (d1:D):(mh d1).l.length=d1.l.length:=by
 unfold mh;split
 ·rename_i h; rw [h]; rfl
 ·rw [bM,al7]
section
variable {d0 d1:D} (h0:Wd (.sl 3) d0) (U:Wd (.sl 4) d1)
include h0 U
end
def ES (q:PS):List Int:=[enc (if q.l= [] then .i 1 else dL q.l),enc q.s,enc q.k]
section
variable {d0 d1:D} (h0:Wd (.sl 3) d0) (U:Wd (.sl 4) d1) (hn:0<d1.l.length)
include h0 U hn
theorem W9 (d:D) (hd:d.l.length<=40000000): ∀(j i:Nat) (p:PS),i+j=d.l.length->D_ d1 p i->
 (p.l= []->L 2401 [enc d,(d1.l.length:Int),(i:Int),enc d0,enc d1,enc p.s,enc p.k]=some (ES (ry d0 d1 p ((d.l.drop i).map (UC d1)))))/\
 (p.l≠[]->L 2402 [enc d,(d1.l.length:Int),(i:Int),enc (dL p.l),enc d0,enc d1,enc p.s,enc p.k]=some (ES (ry d0 d1 p ((d.l.drop i).map (UC d1)))))
 |0,i,p,hi,P=>by
  have c1: ¬(i:Int)<(d.l.length:Int):=J
  rw [amC J];simp only [anl,ry];refine⟨fun hp=>?_,fun hp=>?_⟩
  ·rw [bO,RJ];simp only [A3,zz,c1,bN,ES,hp,if_true]
  ·rw [bO,Zg];simp only [FD,zz,c1,bN,ES,af hp]
 |j+1,i,p,hi,P=>by
  have eu:i<d.l.length:=J
  have c1:(i:Int)<(d.l.length:Int):=J
  have c2:(0:Int)<(d1.l.length:Int):=J
  have c3: ¬((i:Int)<0):=J
  have w:=bQ (n:=i) J;have Y:=U.len;have pk:=Tl (x:=(d.at (i:Int)).n) c2 J;obtain⟨r1,r2⟩:=Tm (x:=(d.at (i:Int)).n) c2;have c4: ¬(tv (d.at (i:Int)).n (d1.l.length:Int)<0):=J
  have c5:tv (d.at (i:Int)).n (d1.l.length:Int)<(p.k.l.length:Int):=by have:=P.lk; omega
  obtain⟨s',k',e1,e2,e3,e4,e5,oc,A⟩:=ya P.sx J h0 U (tv (d.at (i:Int)).n (d1.l.length:Int));have hA:=A.eq;have c6:tv (d.at (i:Int)).n (d1.l.length:Int)<(k'.l.length:Int):=by have:=P.lk; have:=A.lk; omega
  have P':=Nk P A;have ih:=W9 d hd j (i+1) _ J P'
  have Fi:ry d0 d1 p ((d.l.drop i).map (UC d1))=ry d0 d1 (SY d0 d1 p (tv (d.at (i:Int)).n (d1.l.length:Int))) ((d.l.drop (i+1)).map (UC d1)):=by rw [bp eu,ax,ry,UC,cA eu]
  have hl:=P.ll;have c7:(p.l.length:Int)<3518437208882:=J
  rw [Fi];generalize ry d0 d1 (SY d0 d1 p (tv (d.at (i:Int)).n (d1.l.length:Int))) ((d.l.drop (i+1)).map (UC d1))=Q at *;rw [WC A] at ih;obtain⟨Mv,vO⟩:=ih;refine⟨fun hp=>?_,fun hp=>?_⟩
  ·rw [bO,RJ];by_cases o2:oc=2
   ·simp only [o2,true_or,if_true,hp,aF,evD,iH,k8] at vO;simp only [A3,zz,dr,c1,c2,c3,c4,c5,pk,hA,o2,w,bE,tx,aF,iH,k8];exact vO ad
   ·by_cases o3:oc=3
    ·simp only [o3,or_true,if_true,hp,aF,evD,iH,k8] at vO;simp only [A3,zz,dr,c1,c2,c3,c4,c5,pk,hA,o3,w,bE,tx,aF,iH,k8,aib];exact vO ad
    ·simp only [o2,o3,or_self,if_false] at Mv;by_cases o1:oc=1
     ·simp only [A3,zz,dr,c1,c2,c3,c4,c5,pk,hA,o1,w,bE,aid,aic];exact Mv hp
     ·simp only [A3,zz,dr,c1,c2,c3,c4,c5,c6,pk,hA,o1,o2,o3,w,bE];exact Mv hp
  ·rw [bO,Zg];by_cases o2:oc=2
   ·simp only [o2,true_or,if_true,evD,iH,k8] at vO;simp only [FD,zz,dr,c1,c2,c3,c4,c5,c7,pk,hA,o2,w,bE,bM];exact vO ad
   ·by_cases o3:oc=3
    ·simp only [o3,or_true,if_true,evD,iH,k8] at vO;simp only [FD,zz,dr,c1,c2,c3,c4,c5,c7,pk,hA,o3,w,bE,bM,aib];exact vO ad
    ·simp only [o2,o3,or_self,if_false] at vO;by_cases o1:oc=1
     ·simp only [FD,zz,dr,c1,c2,c3,c4,c5,pk,hA,o1,w,bE,aid,aic];exact vO hp
     ·simp only [FD,zz,dr,c1,c2,c3,c4,c5,c6,pk,hA,o1,o2,o3,w,bE];exact vO hp
theorem O' {s k:D} (hB:L 1450 [enc d0,enc d1]=some [enc s,enc k,0]) (P:D_ d1 ⟨s,k,[]⟩ 0) (d:D) (hd:d.l.length<=40000000):L 2400 [enc d0,enc d1,enc d]=some (ES (ry d0 d1 ⟨s,k,[]⟩ (d.l.map (UC d1)))):=by have h:=(W9 h0 U hn d hd d.l.length 0 ⟨s,k,[]⟩ J P).1 rfl;rw [amh,amM] at h;rw [bO,Zh];simp only [V3,zz,hB,bE];exact h
end
theorem oK: ∀(l:List D) (k v k':D),dH (gW l k v) k'=if k=k' then some v else dH l k'
 |[],k,v,k'=>by
  simp only [gW,dH];by_cases h:k=k'
  ·rw [ah h]; exact ah h
  ·rw [af h]; exact af h
 |d::l,k,v,k'=>by
  simp only [gW];by_cases h:jd d=k
  ·rw [ah h];simp only [dH];by_cases Z:k=k'
   ·rw [ah Z]; exact ah Z
   ·rw [af Z,af (fun h3=>Z (h.symm.trans h3))]; exact af Z
  ·rw [af h];simp only [dH,oK l k v k']
   grind
def ajT (m:Int) (l:List D):Prop:=(∀x∈l,0<=x.n/\x.n<m)/\(l.map D.n).Nodup
def ajV (N o dn:Int) (rl vl:Nat):Prop:=(N<0->(vl:Int)=0)/\(0<=N->(vl:Int)<=N)/\(o<0\/(rl:Int)=0/\dn=0)
def afX (k N c:Int):Prop:=k=9\/(k=3/\0<=c/\c<=N)\/(k=5/\0<=c/\c<=IntKind.i64.wrap (N-1))\/(k=7/\0<=c/\c<=1099511627776)\/(k≠3/\k≠5/\k≠7/\k≠9/\c=0)
def ajU (k N m o c dn g:Int) (rl vl:Nat):Prop:=
 afX k N c/\-1<=o/\o<m/\0<=g/\g<=4611686018427387904/\(0<=o->k=1\/k=2\/k=6)/\(0<(rl:Int)->k=4\/k=2)/\(0<(vl:Int)->k=8)/\(dn≠0->k=6)/\(0<g->k=5)
def alD (k N m o c dn g:Int) (r v:D):Prop:=ajU k N m o c dn g r.l.length v.l.length/\ajT m r.l/\ajV N o dn r.l.length v.l.length
def aaZ (k N m:Int):Act->Prop
 | .res o c dn g r v _ _ _=>alD k N m o c dn g r v
 |_=>True
theorem aaZ.ite {k N m:Int} {p:Prop} [Decidable p] {a b:Act} (ha:p->aaZ k N m a) (Y: ¬p->aaZ k N m b):aaZ k N m (if p then a else b):=by
 grind
section
variable {d0 x:D} {k N m mo th op arg tries o c dn g:Int} {r v:D}
end
inductive h! (d0 d1 s:D) (t op obj arg tries:Int):D->Int->Int->Int->Int->Int->Int->Prop
 |no:h! d0 d1 s t op obj arg tries s 0 0 0 0 0 0
 |Aj (A:Acc d0 d1 s t op obj):h! d0 d1 s t op obj arg tries s t 27 obj (IntKind.i64.wrap op) 0 2
 |res (A:Acc d0 d1 s t op obj) (o c dn g:Int) (r v:D) (o' c' dn' g':Int) (r' v':D) (m:Option Int) (a oc:Int) (T:Tg (s.at obj) o c dn g r v)
  (h:act (Mx d0 obj) (Mo d0 s obj) t op arg tries o c dn g r v= .res o' c' dn' g' r' v' m a oc):h! d0 d1 s t op obj arg tries (Nz s obj (Mx d0 obj) (.res o' c' dn' g' r' v' m a oc)) t op obj a 0 oc
section
variable {d0 d1 s s':D} {t op obj arg tries e1 e2 e3 e4 e5 oc:Int} {n:Nat}
theorem MM (h0:Wd (.sl 3) d0) (U:Wd (.sl 4) d1) (G:Gs s n) (hn:n<17592186043904) (xA:fX .u8 op) (A:Mc d0 d1 s t op obj arg tries n s' e1 e2 e3 e4 e5 oc):h! d0 d1 s t op obj arg tries s' e1 e2 e3 e4 e5 oc:=by
 have hf:=G.n8 (by omega:n<17592186044415);have hA:=A.eq;by_cases h:Acc d0 d1 s t op obj
 ·obtain⟨_,o,c,dn,g,r,v,T,hL⟩:=PA (arg:=arg) (tries:=tries) h0 U G.wd hf xA h;rw [QB] at hL;rw [hA] at hL
  cases hB:act (Mx d0 obj) (Mo d0 s obj) t op arg tries o c dn g r v with
  |nW=> rw [hB] at hL;simp only [evA,ag,List.cons.injEq,and_true] at hL;obtain⟨q,rfl,rfl,rfl,rfl,rfl,rfl⟩:=hL;have q:=fT q;subst q;exact .no
  |Aj=> rw [hB] at hL;simp only [evA,ag,List.cons.injEq,and_true] at hL;obtain⟨q,rfl,rfl,rfl,rfl,rfl,rfl⟩:=hL;have q:=fT q;subst q;exact .Aj h
  |res o' c' dn' g' r' v' m a oc'=> rw [hB] at hL;simp only [evA,ag,List.cons.injEq,and_true] at hL;obtain⟨q,rfl,rfl,rfl,rfl,rfl,rfl⟩:=hL;have q:=fT q;subst q;exact .res h o c dn g r v o' c' dn' g' r' v' m _ _ T hB
 ·have hL:=Vt (arg:=arg) (tries:=tries) h0 U G.wd hf xA h;rw [hA] at hL;simp only [ag,List.cons.injEq,and_true] at hL;obtain⟨q,rfl,rfl,rfl,rfl,rfl,rfl⟩:=hL;have q:=fT q;subst q;exact .no
end
section
variable {d0 d1 s:D} {n:Nat} (h0:Wd (.sl 3) d0) (U:Wd (.sl 4) d1) (G:Gs s n) (hn:n<17592186044000)
include h0 U G hn
end
def aa0 (th:Int):Act->Prop
 | .res _ _ _ _ _ _ m _ _=> ∀q,m=some q->q= -1\/q=th
 |_=>True
theorem aa0.ite {th:Int} {p:Prop} [Decidable p] {a b:Act} (ha:aa0 th a) (Y:aa0 th b):aa0 th (if p then a else b):=by
 grind
section
variable {d0 d1 s:D} {t op obj arg tries:Int} {n:Nat} (h0:Wd (.sl 3) d0) (U:Wd (.sl 4) d1) (G:Gs s n) (hn:n<17592186043904) (xA:fX .u8 op) (ht:fX .i64 t) (ha:fX .i64 arg)
include h0 U G hn xA ht ha
end
def aaY (op:Int):Act->Prop
 | .res _ _ _ _ _ _ _ _ oc=>oc=2\/oc=3/\(op=12\/op=15)
 |_=>True
theorem aaY.ite {op:Int} {p:Prop} [Decidable p] {a b:Act} (ha:p->aaY op a) (Y: ¬p->aaY op b):aaY op (if p then a else b):=by
 grind
section
variable {d0 d1 s s' k:D} {t op obj arg tries e1 e2 e3 e4 e5 oc:Int} {n:Nat} {x:KT}
end
inductive Hz (d0 d1 s k:D) (t:Int) (n:Nat):D->D->Int->Int->Int->Int->Int->Int->Prop
 |no (h:L 1550 [enc d0,enc d1,enc s,enc k,t]=some [0]):Hz d0 d1 s k t n s k 0 0 0 0 0 0
 |over (x:KT) (R:Rs d0 d1 s k t x) (ho:jU d1 t x=1):Hz d0 d1 s k t n s k 0 0 0 0 0 4
 |loc (x:KT) (R:Rs d0 d1 s k t x) (ho:jU d1 t x=0) (ha:low (kM d1 t x) 4=0):Hz d0 d1 s k t n s (ss k t (tO (mS d1 t x) x)) 0 0 0 0 0 1
 |tri (x:KT) (R:Rs d0 d1 s k t x) (ho:jU d1 t x=0) (op obj arg tr:Int) (hq:kM d1 t x= [op,obj,arg,tr,1]) (k1:fX .u8 op) (k2:fX .i64 obj) (k3:fX .i64 arg) (fL:fX .i64 t) (s':D) (e1 e2 e3 e4 e5 oc:Int)
  (A:Mc d0 d1 s t op obj arg tr n s' e1 e2 e3 e4 e5 oc) (T:h! d0 d1 s t op obj arg tr s' e1 e2 e3 e4 e5 oc):Hz d0 d1 s k t n s' (ss k t (rb (mS d1 t x) x op e2 e3 e4 oc)) e1 e2 e3 e4 e5 oc
section
variable {d0 d1 s k:D} {n:Nat} (S:Sx s k n) (hn:n<17592186043904) (h0:Wd (.sl 3) d0) (U:Wd (.sl 4) d1)
include S hn h0 U
theorem Ni (t:Int): ∃s' k' e1 e2 e3 e4 e5 oc,L 1850 [enc d0,enc d1,enc s,enc k,t]=some [enc s',enc k',e1,e2,e3,e4,e5,oc]/\Hz d0 d1 s k t n s' k' e1 e2 e3 e4 e5 oc:=by
 rcases WY (t:=t) S hn h0 U with h|⟨x,R⟩
 ·exact⟨s,k,0,0,0,0,0,0,PJ S h,.no h⟩
 ·rcases P8 d1 t x with ho|ho
  ·by_cases ha:low (kM d1 t x) 4=0
   ·exact⟨_,_,0,0,0,0,0,1,CZ S R ho ha,.loc x R ho ha⟩
   ·obtain⟨op,obj,arg,tr,hq⟩:=Gk J ha;obtain⟨k1,k2,k3⟩:=QF R.c R.r R.c.ok.1 hq
    have fL:fX .i64 t:=by have:=R.r.t0;have:=R.r.t1;have:=U.len;exact⟨J,J⟩
    obtain⟨s',e1,e2,e3,e4,e5,oc,A⟩:=PB (tries:=tr) h0 U S.g hn fL k1 k2 k3;exact⟨s',_,e1,e2,e3,e4,e5,oc,CY S R ho hq A,.tri x R ho op obj arg tr hq k1 k2 k3 fL s' e1 e2 e3 e4 e5 oc A (MM h0 U S.g hn k1 A)⟩
  ·exact⟨s,k,0,0,0,0,0,4,FJ S R ho,.over x R ho⟩
theorem WA {t:Int} {s' k':D} {e1 e2 e3 e4 e5 oc:Int} (H:Hz d0 d1 s k t n s' k' e1 e2 e3 e4 e5 oc):Sx s' k' (n+1)/\s'.l.length=s.l.length/\k'.l.length=k.l.length:=by
 cases H with
 |no h=>exact⟨S.mono (amt n),rfl,rfl⟩
 |over x R ho=>exact⟨S.mono (amt n),rfl,rfl⟩
 |loc x R ho ha=>exact⟨(Xz S hn h0 U R ho ha).mono (amt n),rfl,ue _ _ _⟩
 |tri x R ho op obj arg tr hq k1 k2 k3 fL s' e1 e2 e3 e4 e5 oc A T=>exact⟨Vx S R.c R.r R.ht (ac7 R.r ho) A,A.len,ue _ _ _⟩
end
theorem MR.thr {d0 d1 s k:D} {n:Nat} (S:Sx s k n) (hn:n<17592186043904) (h0:Wd (.sl 3) d0) (U:Wd (.sl 4) d1) (M:MR d0 d1 s k) {t:Int} (t0:0<=t) (t1:t<(d1.l.length:Int)): ∃x,Rs d0 d1 s k t x:=by
 obtain⟨ys,hL,b,rfl,Y⟩:=Kq (k:=k) h0 U (S.g.n8 J).rows U.len t;rcases Y with ⟨_,Y⟩|⟨rfl,_⟩
 ·grind
 ·rcases WY (t:=t) S hn h0 U with h|h
  all_goals grind
theorem aeG {x y:KT} (h:x.d=y.d):x=y:=by
 simp only [KT.d,iH,k8,D.p.injEq,D.i.injEq,and_true] at h;obtain⟨U,Z,h3,h4,h5,h6⟩:=h;cases x; cases y
 grind
section
variable {d0 d1 s k:D} {n:Nat} (S:Sx s k n) (hn:n<17592186043904) (h0:Wd (.sl 3) d0) (U:Wd (.sl 4) d1)
include S hn h0 U
end
section
variable {d0 d1 s k:D} {n:Nat} (S:Sx s k n) (hn:n<17592186043900) (h0:Wd (.sl 3) d0) (U:Wd (.sl 4) d1)
include S hn h0 U
end
theorem abP (d1:D) (t:Int) (x:KT): ∃a b c d e,kM d1 t x= [a,b,c,d,e]/\(e=0\/e=1):=by
 unfold kM;split
 ·split
  ·exact⟨_,_,_,_,_,rfl,.inl rfl⟩
  ·split
   ·exact⟨_,_,_,_,_,rfl,.inr rfl⟩
   ·split
    ·exact⟨_,_,_,_,_,rfl,.inr rfl⟩
    ·exact⟨_,_,_,_,_,rfl,.inl rfl⟩
 ·exact⟨_,_,_,_,_,rfl,.inr rfl⟩
theorem aew {d0 d1 s k:D} {t:Int} {x:KT} (R:Rs d0 d1 s k t x):L 1800 [enc d0,enc d1,enc s,enc k,t]=some (kM d1 t x):=by
 obtain⟨a,b,c,d,e,hq,he⟩:=abP d1 t x;have hN:=Ip (s:=s) R.c R.hk R.ht R.r;have h:=R.yes;rw [hq] at hN ⊢;rw [bO,acM];rcases he with rfl|rfl
 ·simp only [Wa,zz,h,hN,bG,bN]
 ·simp only [Wa,zz,h,hN,bG,bN]
def BR (d0 d1 s k:D) (t:Int) (x:KT):Prop:= ∃s' k' e1 e2 e3 e4 e5 oc,L 1850 [enc d0,enc d1,enc s,enc k,t]=some [enc s',enc k',e1,e2,e3,e4,e5,oc]/\(oc=0\/oc=4)/\¬(low (kM d1 t x) 0=4/\low (kM d1 t x) 3<low (kM d1 t x) 2)
def afU (d0 d1 s k:D):Prop:=MR d0 d1 s k/\∀(t:Int) (x:KT),Rs d0 d1 s k t x->BR d0 d1 s k t x
section
variable {d0 d1 s k:D} {n:Nat} (S:Sx s k n) (hn:n<17592186043800) (h0:Wd (.sl 3) d0) (U:Wd (.sl 4) d1)
include S hn h0 U
theorem CU (M:MR d0 d1 s k): ∀(j i:Nat),i+j=d1.l.length->dE 2551 [(d1.l.length:Int),(i:Int),enc d0,enc d1,enc s,enc k] (t_ (∀(t:Int) (x:KT),(i:Int)<=t->Rs d0 d1 s k t x->BR d0 d1 s k t x))
 |0,i,hi=>by
  have c1: ¬(i:Int)<(d1.l.length:Int):=J
  refine dE.of ?_;rw [Zf];simp only [V2,zz,c1];exact .out (Ra fun t x ht R=>by have:=R.r.t1; omega)
 |j+1,i,hi=>by
  have c1:(i:Int)<(d1.l.length:Int):=J
  have Y:=U.len;have w:=bQ (n:=i) J;obtain⟨x,R⟩:=M.thr S J h0 U (by omega:(0:Int)<=(i:Int)) c1;obtain⟨s',k',e1,e2,e3,e4,e5,oc,A⟩:=ya S J h0 U (i:Int);have hA:=A.eq;obtain⟨a,b,c,d,e,hq,_⟩:=abP d1 (i:Int) x;have h18:=aew R;rw [hq] at h18;have ih:=CU M j (i+1) J
  have stay:BR d0 d1 s k (i:Int) x↔(oc=0\/oc=4)/\¬(a=4/\d<c):=by unfold BR;rw [hq];refine⟨fun⟨s2,k2,f1,f2,f3,f4,f5,oc2,q1,q2,q3⟩=>?_,fun⟨q1,q2⟩=> ⟨s',k',e1,e2,e3,e4,e5,oc,hA,q1,q2⟩⟩;rw [hA] at q1;simp only [ag,List.cons.injEq,and_true] at q1;exact⟨J,q3⟩
  have no: ¬BR d0 d1 s k (i:Int) x->t_ (∀(t:Int) (x:KT),(i:Int)<=t->Rs d0 d1 s k t x->BR d0 d1 s k t x) [0]:=fun h=>yH fun q=>h (q _ _ (Int.le_refl _) R)
  have yes:BR d0 d1 s k (i:Int) x->dE 2551 [(d1.l.length:Int),((i+1:Nat):Int),enc d0,enc d1,enc s,enc k] (t_ (∀(t:Int) (x:KT),(i:Int)<=t->Rs d0 d1 s k t x->BR d0 d1 s k t x)):=fun h=>by
   obtain⟨ys,hL,b,rfl,Y⟩:=ih;refine⟨_,hL,b,rfl,Y.imp (fun q=> ⟨q.1,fun g=>q.2 fun t y ht Ry=>g t y J Ry⟩) (fun q=> ⟨q.1,fun t y ht Ry=>?_⟩)⟩;by_cases fL:t=(i:Int)
   ·subst fL;have:=aeG (Ry.hk.symm.trans R.hk);rw [this];exact h
   ·exact q.2 t y J Ry
  refine dE.of ?_;rw [Zf];simp only [V2,zz,c1,hA,h18,w];refine .ite (fun o0=> .ite (fun a4=> .ite (fun fe=> .out (no fun h=>(stay.1 h).2 ⟨a4,fe⟩)) (fun fe=> .jump (yes (stay.2 ⟨.inl o0,fun h=>fe h.2⟩)))) (fun a4=> .jump (yes (stay.2 ⟨.inl o0,fun h=>a4 h.1⟩)))) (fun o0=> .ite (fun o4=> .ite (fun a4=> .ite (fun fe=> .out (no fun h=>(stay.1 h).2 ⟨a4,fe⟩)) (fun fe=> .jump (yes (stay.2 ⟨.inr o4,fun h=>fe h.2⟩)))) (fun a4=> .jump (yes (stay.2 ⟨.inr o4,fun h=>a4 h.1⟩)))) (fun o4=> .out (no fun h=>by rcases (stay.1 h).1 with h|h; exact o0 h; exact o4 h)))
theorem Wx:dE 2550 [enc d0,enc d1,enc s,enc k] (t_ (afU d0 d1 s k)):=by
 obtain⟨ys,hM,b,rfl,Y⟩:=Gm h0 U (S.g.n8 J).rows U.len (k:=k);refine dE.of ?_;rw [acL];simp only [abw,zz,hM];refine .ite (fun h=> .out (yH fun q=>?_)) (fun h=>?_)
 ·rcases Y with ⟨_,Y⟩|⟨h',_⟩
  ·exact Y q.1
  ·omega
 ·have M:MR d0 d1 s k:=by
   rcases Y with ⟨h',_⟩|⟨_,Y⟩
   ·exact absurd h' h
   ·exact Y
  obtain⟨ys,hL,b',rfl,Fj⟩:=CU S hn h0 U M d1.l.length 0 J;rw [amM] at hL;refine .jump ⟨_,hL,b',rfl,Fj.imp (fun q=> ⟨q.1,fun g=>q.2 fun t x _ R=>g.2 t x R⟩) (fun q=> ⟨q.1,M,fun t x R=>q.2 t x (by have:=R.r.t0; omega) R⟩)⟩
end
end Go.As.Try
end
section
namespace Go.As.Try
open Go hiding Stat Spec shape
open Go.As
set_option maxRecDepth 100000
set_option linter.unusedSimpArgs false
set_option linter.unusedVariables false
def Bd (d:D):Prop:=d.l.length<=64/\(d.l= []->d= .i 1\/d= .i 2)
def XR (ys:List Int):Prop:= ∃d,ys= [enc d]/\Bd d
theorem nu {d:D} (h:Bd d):XR [enc d]:=⟨d,rfl,h⟩
theorem Pg:Bd (.i 1):=⟨by simp [D.l],fun _=> .inl rfl⟩
theorem ajN:Bd (.i 2):=⟨by simp [D.l],fun _=> .inr rfl⟩
theorem ajM {l:List D} (h:l≠[]) (Z:l.length<=64):Bd (dL l):=⟨by rw [bM]; exact Z,fun e=>absurd (by rwa [bM] at e) h⟩
theorem Ka (t:Int) (h0:0<=t) (d:D) (h:d.l.length<=64) (c1:t<(d.l.length:Int)):dE 23401 [t,enc d] XR:=by
 have c2: ¬t<0:=J
 refine dE.of ?_;rw [O4];simp only [M6,zz,c1,c2,if_true,if_false];have fZ:d.l≠[]:=fun e=>by rw [e] at c1; simp at c1; omega
 refine .ite (fun _=> .out (nu (ajM ?_ ?_))) (fun _=> .out (nu ⟨h,fun e=>absurd e fZ⟩))
 ·unfold fC;split
  ·exact fZ
  ·simpa using fZ
 ·unfold fC;split<;>simpa using h
theorem vw (t:Int) (h0:0<=t) (U:t<64): ∀(n:Nat) (d:D),n+d.l.length=64->dE 23401 [t,enc d] XR
 |0,d,h=>Ka t h0 d J J
 |n+1,d,h=>by
  by_cases c1:t<(d.l.length:Int)
  ·exact Ka t h0 d J c1
  ·have c3:(d.l.length:Int)<17592186044415:=J
   refine dE.of ?_;rw [O4];simp only [M6,zz,c1,c3,if_true,if_false];exact .jump (vw t h0 U n _ (by simp [bM]; omega))
theorem J9 {d:D} (h:Bd d) (t:Int):dE 23400 [enc d,t] XR:=by
 refine dE.of ?_;rw [Zp];by_cases hl:0<(d.l.length:Int)
 ·have c2:(d.l.length:Int)<17592186044416:=by have:=h.1; omega
  simp only [HS,zz,hl,c2,if_true,if_false];refine .ite (fun _=> .out (nu h)) (fun _=> .ite (fun _=> .jump ?_) (fun _=> .out (nu h)));exact vw t J J (64-d.l.length) d (by have:=h.1; omega)
 ·have hn:d.l= []:=amD.1 J;rcases h.2 hn with rfl|rfl
  ·simp only [HS,zz,hl,if_true,if_false];refine .ite (fun _=> .out (nu Pg)) (fun _=> .ite (fun _=> .jump ?_) (fun _=> .out (nu Pg)));have: ¬t<0:=J
   refine dE.of ?_;rw [Zo];simp only [V9,zz,this,if_true,if_false];exact .jump (vw t J J 63 _ (by simp [bM,D.l]))
  ·simp only [HS,zz,hl,if_true,if_false];have v_: ¬enc (D.i 2)=enc (D.i 1):=fun e=>by have:=fT e; simp at this
   rw [af v_];refine .ite (fun _=> .out (nu ajN)) (fun _=> .ite (fun _=> .jump ?_) (fun _=> .out (nu ajN)));have: ¬t<0:=J
   refine dE.of ?_;rw [Zn];simp only [V8,zz,this,if_true,if_false];exact .jump (vw t J J 63 _ (by simp [bM,D.l]))
def V? (a b:D) (ys:List Int):Prop:= ∃d,ys= [1,enc a,enc b,enc d]/\d.l≠[]/\d.l.length<=64
theorem Hk (a b:D) (n:Nat) (hn:n<=64): ∀(j i:Nat) (acc:D),i+j=n->acc.l.length=i->0<i->dE 26002 [enc a,enc b,(n:Int),(i:Int),enc acc] (V? a b)
 |0,i,acc,h,hi,h0=>by
  have c1: ¬(i:Int)<(n:Int):=J
  refine dE.of ?_;rw [OQ];simp only [MT,zz,c1,if_true,if_false];exact .out ⟨acc,rfl,fun e=>by rw [e] at hi; simp at hi; omega,J⟩
 |j+1,i,acc,h,hi,h0=>by
  have c1:(i:Int)<(n:Int):=J
  have c2: ¬(i:Int)<0:=J
  have c3:(acc.l.length:Int)<17592186044415:=J
  have w:=bQ (n:=i) J;have ih:=fun x:D=>Hk a b n hn j (i+1) (dL (acc.l++ [x])) J (by simp [bM,hi]) J;refine dE.of ?_;rw [OQ];simp only [MT,zz,c1,c2,c3,w,if_true,if_false]
  repeat' first
   |exact .jump (ih _)
   |refine .ite (fun _=>?_) (fun _=>?_)
theorem agY {j:Nat} {xs:List Int} {p q:List Int->Prop} (h:dE j xs q):dE j xs fun ys=>p ys\/q ys:=by obtain⟨ys,U,Z⟩:=h;exact⟨ys,U,.inr Z⟩
theorem YN {a b:D} (ha:Bd a) (Y:Bd b):dE 26000 [enc a,enc b] (fun ys=>ys= [0,enc a,enc b]\/V? a b ys):=by
 have key: ∀n:Nat,n<=64->dE 26001 [enc a,enc b,(n:Int)] (fun ys=>ys= [0,enc a,enc b]\/V? a b ys):=by
  intro n hn;have ih:=fun (x:D) (h:0<(n:Int))=>(agY (Hk a b n hn (n-1) 1 (dL [x]) J (by simp [bM]) J):dE 26002 [enc a,enc b,(n:Int),1,enc (dL [x])] fun ys=>ys= [0,enc a,enc b]\/V? a b ys);refine dE.of ?_;rw [Zd];simp only [V0,zz,if_true,if_false];refine .ite (fun h=>?_) (fun _=> .out (.inl rfl))
  repeat' first
   |exact .jump (ih _ h)
   |refine .ite (fun _=>?_) (fun _=>?_)
 refine dE.of ?_;rw [Ze];simp only [V1,zz,if_true,if_false];exact .ite (fun _=> .jump (key _ Y.1)) (fun _=> .jump (key _ ha.1))
theorem KZ {a b:D} (ha:Bd a) (Y:Bd b):dE 23450 [enc a,enc b] XR:=by
 obtain⟨ys,hL,h⟩:=YN ha Y;rcases h with rfl|⟨d,rfl,U,Z⟩
 ·refine dE.of ?_;rw [O3];simp only [M5,zz,hL,bo,az,if_true,if_false];exact .out (nu Pg)
 ·refine dE.of ?_;rw [O3];simp only [M5,zz,hL,bo,az,if_true,if_false];rw [af ae];exact .out (nu ⟨Z,fun e=>absurd e U⟩)
def MB (m:D):Prop:= ∀k v,dH m.l k=some v->Bd v
theorem akv:MB (.i 0):=fun k v h=>by simp [D.l,dH] at h
theorem Ak {m:D} (h:MB m) (k:D) {v:D} (hv:Bd v):MB (dL (gW m.l k v)):=by
 intro k' v' h';rw [bM,oK] at h';split at h'
 ·simp only [ag] at h';exact h'▸hv
 ·exact h k' v' h'
noncomputable def Fz (d:D) (t:Int):D:=dec (((L 23400 [enc d,t]).getD []).headD 0)
noncomputable def GA (a b:D):D:=dec (((L 23450 [enc a,enc b]).getD []).headD 0)
theorem adP {d:D} (h:Bd d) (t:Int):L 23400 [enc d,t]=some [enc (Fz d t)]:=by obtain⟨ys,hL,d',rfl,_⟩:=J9 h t;rw [hL]; simp [Fz,hL,bB]
theorem Si {d:D} (h:Bd d) (t:Int):Bd (Fz d t):=by
 obtain⟨ys,hL,d',rfl,h'⟩:=J9 h t;have:Fz d t=d':=by simp [Fz,hL,bB]
 rw [this]; exact h'
theorem aeI {a b:D} (ha:Bd a) (Y:Bd b):L 23450 [enc a,enc b]=some [enc (GA a b)]:=by obtain⟨ys,hL,d',rfl,_⟩:=KZ ha Y;rw [hL]; simp [GA,hL,bB]
theorem we {a b:D} (ha:Bd a) (Y:Bd b):Bd (GA a b):=by
 obtain⟨ys,hL,d',rfl,h'⟩:=KZ ha Y;have:GA a b=d':=by simp [GA,hL,bB]
 rw [this]; exact h'
theorem Al {m:D} (h:MB m) {k:D} (hk: ¬(if (dH m.l k).isSome=true then (1:Int) else 0)=0):Bd ((dH m.l k).getD (.i 0)):=by
 cases hf:dH m.l k with
 |none=>rw [hf] at hk; simp at hk
 |some v=>exact h k v hf
def Bp (d0 d1:D) (ys:List Int):Prop:= ∃T C n,ys= [enc d0,enc d1,enc T,enc C,enc n]/\MB T/\MB C/\Bd n
theorem Hh {p:List Int->Prop} {d:D} {t:Int} {X:RS} {i1:Decidable ((L 23400 [enc d,t]).isSome=true)} {i2:Decidable ((@ite Int ((L 23400 [enc d,t]).isSome=true) i1 1 0)=1)} (h:L 23400 [enc d,t]=some [enc (Fz d t)]->Ends p X) (hd:Bd d):Ends p (@ite RS ((@ite Int ((L 23400 [enc d,t]).isSome=true) i1 1 0)=1) i2 X .no):=by have hL:=adP hd t;rw [ah (by rw [ah (by rw [hL]; rfl)])];exact h hL
theorem vY {p:List Int->Prop} {a b:D} {X:RS} {i1:Decidable ((L 23450 [enc a,enc b]).isSome=true)} {i2:Decidable ((@ite Int ((L 23450 [enc a,enc b]).isSome=true) i1 1 0)=1)} (h:L 23450 [enc a,enc b]=some [enc (GA a b)]->Ends p X) (ha:Bd a) (Y:Bd b):Ends p (@ite RS ((@ite Int ((L 23450 [enc a,enc b]).isSome=true) i1 1 0)=1) i2 X .no):=by have hL:=aeI ha Y;rw [ah (by rw [ah (by rw [hL]; rfl)])];exact h hL
theorem WO {d0 d1 T C n:D} (hT:MB T) (hC:MB C) (hn:Bd n):dE 26201 [enc d0,enc d1,enc T,enc C,enc n] (Bp d0 d1):=by refine dE.of ?_;rw [Zb];simp only [VY,zz];exact .out ⟨T,C,n,rfl,hT,hC,hn⟩
theorem FQ {d0 d1 T n w:D} (hT:MB T) (hn:Bd n) (hw:w.l.length<=1000): ∀(j i:Nat) (C:D),i+j=w.l.length->MB C->dE 26202 [enc w,(w.l.length:Int),(i:Int),enc d0,enc d1,enc T,enc C,enc n] (Bp d0 d1)
 |0,i,C,hi,hC=>by
  have c1: ¬(i:Int)<(w.l.length:Int):=J
  refine dE.of ?_;rw [OP];simp only [MS,zz,c1,if_true,if_false];exact .out ⟨T,C,n,rfl,hT,hC,hn⟩
 |j+1,i,C,hi,hC=>by
  have c1:(i:Int)<(w.l.length:Int):=J
  have c2: ¬(i:Int)<0:=J
  have wr:=bQ (n:=i) J;have ih:=fun C h=>FQ (d0:=d0) (d1:=d1) hT hn hw j (i+1) C J h;refine dE.of ?_;rw [OP];simp only [MS,zz,c1,c2,wr,if_true,if_false]
  repeat' first
   |exact hn
   |exact Pg
   |exact Al hC ‹_›
   |exact we ‹_› ‹_›
   |refine we ?_ ?_
   |refine .jump (ih _ (Ak hC _ ?_))
   |(refine vY (fun hj=>?_) ?_ ?_; simp only [hj,az,bJ,bK,bB])
   |refine .ite (fun _=>?_) (fun _=>?_)
theorem WR {d0 d1 T C n k:D} (hT:MB T) (hC:MB C) (hn:Bd n):dE 26202 [enc (dL [k]),1,0,enc d0,enc d1,enc T,enc C,enc n] (Bp d0 d1):=
 FQ (w:=dL [k]) hT hn (by simp [bM]) 1 0 C (by simp [bM]) hC
set_option maxHeartbeats 4000000 in
theorem WM {d0 d1 T:D} {th op ob a b:Int} (h0:0<=ob) (U:ob<(d0.l.length:Int)) (hT:MB T):dE 26200 [th,op,ob,a,b,enc d0,enc d1,enc T] (Bp d0 d1):=by
 have c1: ¬ob<0:=J
 refine dE.of ?_;rw [Zc];simp only [VZ,zz,c1,U,if_true,if_false,aF,tx,bM,aK,aX,ay,Int.ofNat_one]
 repeat' first
  |(refine Hh (fun hj=>?_) ?_; simp only [hj,az,bJ,bK,bB])
  |(refine vY (fun hj=>?_) ?_ ?_; simp only [hj,az,bJ,bK,bB])
  |refine .ite (fun _=>?_) (fun _=>?_)
  |refine .jump (WO (Ak hT _ ?_) hT ?_)
  |refine .jump (WR (Ak hT _ ?_) hT ?_)
  |exact Pg
  |exact Al hT ‹_›
  |exact Al hT ‹_›
  |refine Si ?_ _
  |refine we ?_ ?_
theorem WN {d0 d1 T C n:D} (hT:MB T) (hC:MB C) (hn:Bd n):dE 26251 [enc d0,enc d1,enc T,enc C,enc n] (Bp d0 d1):=by refine dE.of ?_;rw [Y9];simp only [VW,zz];exact .out ⟨T,C,n,rfl,hT,hC,hn⟩
theorem FP {d0 d1 T n w:D} (hT:MB T) (hn:Bd n) (hw:w.l.length<=1000): ∀(j i:Nat) (C:D),i+j=w.l.length->MB C->dE 26252 [enc w,(w.l.length:Int),(i:Int),enc d0,enc d1,enc T,enc C,enc n] (Bp d0 d1)
 |0,i,C,hi,hC=>by
  have c1: ¬(i:Int)<(w.l.length:Int):=J
  refine dE.of ?_;rw [OO];simp only [MQ,zz,c1,if_true,if_false];exact .out ⟨T,C,n,rfl,hT,hC,hn⟩
 |j+1,i,C,hi,hC=>by
  have c1:(i:Int)<(w.l.length:Int):=J
  have c2: ¬(i:Int)<0:=J
  have wr:=bQ (n:=i) J;have ih:=fun C h=>FP (d0:=d0) (d1:=d1) hT hn hw j (i+1) C J h;refine dE.of ?_;rw [OO];simp only [MQ,zz,c1,c2,wr,if_true,if_false]
  repeat' first
   |exact hn
   |exact Pg
   |exact Al hC ‹_›
   |exact we ‹_› ‹_›
   |refine we ?_ ?_
   |refine .jump (ih _ (Ak hC _ ?_))
   |(refine vY (fun hj=>?_) ?_ ?_; simp only [hj,az,bJ,bK,bB])
   |refine .ite (fun _=>?_) (fun _=>?_)
theorem WQ {d0 d1 T C n k:D} (hT:MB T) (hC:MB C) (hn:Bd n):dE 26252 [enc (dL [k]),1,0,enc d0,enc d1,enc T,enc C,enc n] (Bp d0 d1):=
 FP (w:=dL [k]) hT hn (by simp [bM]) 1 0 C (by simp [bM]) hC
set_option maxHeartbeats 4000000 in
theorem WL {d0 d1 T C:D} {th op ob a b:Int} (h0:0<=ob) (U:ob<(d0.l.length:Int)) (hT:MB T) (hC:MB C):dE 26250 [th,op,ob,a,b,enc d0,enc d1,enc T,enc C] (Bp d0 d1):=by
 have c1: ¬ob<0:=J
 refine dE.of ?_;rw [Za];simp only [VX,zz,c1,U,if_true,if_false,aF,tx,bM,aK,aX,ay,Int.ofNat_one]
 repeat' first
  |(refine Hh (fun hj=>?_) ?_; simp only [hj,az,bJ,bK,bB])
  |(refine vY (fun hj=>?_) ?_ ?_; simp only [hj,az,bJ,bK,bB])
  |refine .ite (fun _=>?_) (fun _=>?_)
  |refine .jump (WN (Ak hT _ ?_) hC ?_)
  |refine .jump (WQ (Ak hT _ ?_) hC ?_)
  |exact Pg
  |exact Al hT ‹_›
  |exact Al hC ‹_›
  |refine Si ?_ _
  |refine we ?_ ?_
def JX (d0 d1 e:D):Prop:=0<=(e.hd 0).n/\(e.hd 0).n<(d1.l.length:Int)/\0<=(e.hd 2).n/\(e.hd 2).n<(d0.l.length:Int)
noncomputable def yf (d0 d1 e:D):List Int:=(L 26200 [(e.hd 0).n,(e.hd 1).n,(e.hd 2).n,(e.hd 3).n,(e.hd 4).n,enc d0,enc d1,enc (.i 0)]).getD []
noncomputable def C3 (d0 d1 e T C:D):List Int:=(L 26250 [(e.hd 0).n,(e.hd 1).n,(e.hd 2).n,(e.hd 3).n,(e.hd 4).n,enc d0,enc d1,enc T,enc C]).getD []
noncomputable def sT (r:List Int):D:=dec (low r 2)
noncomputable def sC (r:List Int):D:=dec (low r 3)
noncomputable def sN (r:List Int):D:=dec (low r 4)
theorem aed {d0 d1 e:D} (h:JX d0 d1 e):L 26200 [(e.hd 0).n,(e.hd 1).n,(e.hd 2).n,(e.hd 3).n,(e.hd 4).n,enc d0,enc d1,enc (.i 0)]=some [enc d0,enc d1,enc (sT (yf d0 d1 e)),enc (sC (yf d0 d1 e)),enc (sN (yf d0 d1 e))]/\MB (sT (yf d0 d1 e))/\MB (sC (yf d0 d1 e)):=by
 obtain⟨ys,hL,T',C',n,rfl,U,Z,h3⟩:=WM (d0:=d0) (d1:=d1) (T:=.i 0) (th:=(e.hd 0).n) (op:=(e.hd 1).n) (a:=(e.hd 3).n) (b:=(e.hd 4).n) h.2.2.1 h.2.2.2 akv;have e1:yf d0 d1 e= [enc d0,enc d1,enc T',enc C',enc n]:=by unfold yf; rw [hL]; rfl
 rw [e1];simp only [sT,sC,sN,bJ,bK,bB];exact⟨hL,U,Z⟩
theorem aec {d0 d1 e T C:D} (h:JX d0 d1 e) (hT:MB T) (hC:MB C):L 26250 [(e.hd 0).n,(e.hd 1).n,(e.hd 2).n,(e.hd 3).n,(e.hd 4).n,enc d0,enc d1,enc T,enc C]=some [enc d0,enc d1,enc (sT (C3 d0 d1 e T C)),enc (sC (C3 d0 d1 e T C)),enc (sN (C3 d0 d1 e T C))]/\MB (sT (C3 d0 d1 e T C))/\MB (sC (C3 d0 d1 e T C)):=by
 obtain⟨ys,hL,T',C',n,rfl,U,Z,h3⟩:=WL (d0:=d0) (d1:=d1) (T:=T) (C:=C) (th:=(e.hd 0).n) (op:=(e.hd 1).n) (a:=(e.hd 3).n) (b:=(e.hd 4).n) h.2.2.1 h.2.2.2 hT hC;have e1:C3 d0 d1 e T C= [enc d0,enc d1,enc T',enc C',enc n]:=by unfold C3; rw [hL]; rfl
 rw [e1];simp only [sT,sC,sN,bJ,bK,bB];exact⟨hL,U,Z⟩
noncomputable def Ul (d0 d1:D):List D->D->D->List D
 |[],_,_=>[]
 |e::l,T,C=>sN (C3 d0 d1 e T C)::Ul d0 d1 l (sT (C3 d0 d1 e T C)) (sC (C3 d0 d1 e T C))
noncomputable def kf (d0 d1:D):List D->List D
 |[]=>[]
 |e::l=>sN (yf d0 d1 e)::Ul d0 d1 l (sT (yf d0 d1 e)) (sC (yf d0 d1 e))
theorem Sa (d0 d1:D): ∀(l:List D) (T C:D),(Ul d0 d1 l T C).length=l.length
 |[],_,_=>rfl
 |e::l,T,C=>by rw [Ul,aK,Sa d0 d1 l,aK]
theorem xM (d0 d1:D): ∀l:List D,(kf d0 d1 l).length=l.length
 |[]=>rfl
 |e::l=>by rw [kf,aK,Sa,aK]
theorem LY (d0 d1:D): ∀(l:List D) (T C:D) (n:Nat),Ul d0 d1 (l.take n) T C=(Ul d0 d1 l T C).take n
 |l,T,C,0=>by simp [Ul]
 |[],T,C,n+1=>by simp [Ul]
 |e::l,T,C,n+1=>by simp only [amw,Ul,LY d0 d1 l]
theorem L0 (d0 d1:D): ∀(l:List D) (n:Nat),kf d0 d1 (l.take n)=(kf d0 d1 l).take n
 |l,0=>by simp [kf]
 |[],n+1=>by simp [kf]
 |e::l,n+1=>by simp only [amw,kf,LY d0 d1 l]
section
variable {d0 d1 l:D} (hR: ∀e∈l.l,JX d0 d1 e) (hl:l.l.length<=50000)
include hR hl
theorem LZ: ∀(j i:Nat) (acc:List D) (T C:D),i+j=l.l.length->acc.length=i->0<i->MB T->MB C->L 23552 [enc (dL acc),enc l,(l.l.length:Int),(i:Int),enc d0,enc d1,enc T,enc C]=some [enc (dL (acc++Ul d0 d1 (l.l.drop i) T C))]
 |0,i,acc,T,C,hi,ha,h0,hT,hC=>by
  have c1: ¬(i:Int)<(l.l.length:Int):=J
  rw [amC J,bO,OZ];simp only [M0,zz,c1,bN,Ul,amm]
 |j+1,i,acc,T,C,hi,ha,h0,hT,hC=>by
  have eu:i<l.l.length:=J
  have c1:(i:Int)<(l.l.length:Int):=J
  have c2: ¬(i:Int)<0:=J
  have c3:(acc.length:Int)<5864062014804:=J
  have w:=bQ (n:=i) J;obtain⟨hs,m1,m2⟩:=aec (hR _ (aA eu)) hT hC;have ih:=LZ j (i+1) (acc++ [sN (C3 d0 d1 l.l[i] T C)]) _ _ J (by simp [ha]) J m1 m2;rw [bp eu,Ul,bO,OZ];simp only [M0,zz,c1,c2,c3,w,cA eu,hs,bM,bE];rw [amj] at ih;exact ih
theorem Uk: ∃a:D,L 23550 [enc d0,enc d1,enc l]=some [enc a]/\a.l=kf d0 d1 l.l:=by
 by_cases hz:0<l.l.length
 ·have c1:(0:Int)<(l.l.length:Int):=J
  obtain⟨hs,m1,m2⟩:=aed (hR _ (aA hz));have ih:=LZ hR hl (l.l.length-1) 1 [sN (yf d0 d1 l.l[0])] _ _ J rfl J m1 m2
  have hc:kf d0 d1 l.l= [sN (yf d0 d1 l.l[0])]++Ul d0 d1 (l.l.drop 1) (sT (yf d0 d1 l.l[0])) (sC (yf d0 d1 l.l[0])):=by
   have:l.l=l.l[0]::l.l.drop 1:=by rw [<- bp hz,amh]
   rw [congrArg (kf d0 d1) this];rfl
  refine⟨dL (kf d0 d1 l.l),?_,bM _⟩;have a0:l.at 0=l.l[0]:=cA (i:=0) hz;rw [hc,bO,O1];simp only [M3,zz,bE];rw [bO,O0];simp only [M1,zz,c1,a0,hs,bE,tx,aF];exact ih
 ·have hn:l.l= []:=amD.1 J;have c1: ¬(0:Int)<(l.l.length:Int):=J
  refine⟨.i 1,?_,by rw [hn]; rfl⟩;rw [bO,O1];simp only [M3,zz,bE];rw [bO,O0];simp only [M1,zz,c1,bN]
end
theorem CL {d0 d1 l:D} (hl:l.l.length<=50000): ∀(j i:Nat),i+j=l.l.length->dE 23501 [enc l,(l.l.length:Int),(i:Int),enc d0,enc d1] (fun ys=>ys= [0]/\(∃e∈l.l,¬JX d0 d1 e)\/ys= [1]/\∀e∈l.l.drop i,JX d0 d1 e)
 |0,i,hi=>by
  have c1: ¬(i:Int)<(l.l.length:Int):=J
  refine dE.of ?_;rw [O2,amC J];simp only [M4,zz,c1,if_true,if_false];exact .out (.inr ⟨rfl,fun e he=>by simp at he⟩)
 |j+1,i,hi=>by
  have eu:i<l.l.length:=J
  have c1:(i:Int)<(l.l.length:Int):=J
  have c2: ¬(i:Int)<0:=J
  have w:=bQ (n:=i) J;have hm:=aA eu;have no: ∀{ys:List Int},ys= [0]->¬JX d0 d1 l.l[i]->(ys= [0]/\(∃e∈l.l,¬JX d0 d1 e)\/ys= [1]/\∀e∈l.l.drop i,JX d0 d1 e):=fun h Z=> .inl ⟨h,_,hm,Z⟩;obtain⟨ys,hL,hq⟩:=CL (d0:=d0) (d1:=d1) hl j (i+1) J;refine dE.of ?_;rw [O2];simp only [M4,zz,c1,c2,w,cA eu,if_true,if_false];refine .ite (fun h=> .out (no rfl fun q=>by have:=q.1; omega)) (fun a1=> .ite (fun a2=> .ite (fun h=> .out (no rfl fun q=>by have:=q.2.2.1; omega)) (fun a3=> .ite (fun a4=> .jump ⟨ys,hL,?_⟩) (fun h=> .out (no rfl fun q=>h q.2.2.2)))) (fun h=> .out (no rfl fun q=>h q.2.1)));rcases hq with hq|⟨rfl,hq⟩
  ·exact .inl hq
  ·refine .inr ⟨rfl,fun e he=>?_⟩;rw [bp eu] at he;rcases aw.1 he with rfl|he
   ·exact⟨J,a2,J,a4⟩
   ·exact hq e he
theorem Vy {d0 d1 l:D} (hC:L 450 [enc d0,enc d1]=some [0]) (hl:l.l.length<=50000):L 23500 [enc d0,enc d1,enc l]=some [0]/\(∃e∈l.l,¬JX d0 d1 e)\/L 23500 [enc d0,enc d1,enc l]=some [1]/\∀e∈l.l,JX d0 d1 e:=by
 obtain⟨ys,hL,hq⟩:=CL (d0:=d0) (d1:=d1) hl l.l.length 0 J
 have e:L 23500 [enc d0,enc d1,enc l]=some ys:=by rw [bO,Zm];simp only [V7,zz,hC,bE];exact hL
 rcases hq with ⟨rfl,h⟩|⟨rfl,h⟩
 ·exact .inl ⟨e,h⟩
 ·exact .inr ⟨e,by rwa [amh] at h⟩
def at2 (a:D) (t:Int):Int:=if t<(a.l.length:Int) then (a.at t).n else 0
noncomputable def Rc (l all:D) (j:Nat) (th op ob:Int) (F:D) (x:D):D:=
 if (dH F.l (.i ob)).isSome=true then F else
 if ((l.at x.n).hd 0).n=th then F else
 if ((l.at x.n).hd 1).n=23\/op=23 then
  (if at2 (all.at (j:Int)) ((l.at x.n).hd 0).n<at2 (all.at x.n) ((l.at x.n).hd 0).n then dL (gW F.l (.i ob) (dL [.i ob,.i x.n,.i (j:Int)])) else F)
 else F
def SI (j:Nat) (S:D):Prop:= ∀k v,dH S.l k=some v->v.l≠[]/\v.l.length<=j/\∀x∈v.l,0<=x.n/\x.n<(j:Int)
theorem akl:SI 0 (.i 0):=fun k v h=>by simp [D.l,dH] at h
section
variable {d0 d1 l all:D} (hR: ∀e∈l.l,JX d0 d1 e) (hl:l.l.length<=50000) (ha:all.l.length=l.l.length)
include hR hl ha
theorem K2 {s S:D} {j:Nat} {th op ob a b:Int} (hj:j<l.l.length) (hs: ∀x∈s.l,0<=x.n/\x.n<(j:Int)) (t!:s.l.length<=50000): ∀(m i:Nat) (F:D),i+m=s.l.length->
 L 23605 [enc l,enc all,(j:Int),(l.l.length:Int),enc s,(s.l.length:Int),(i:Int),enc d0,enc d1,enc S,ob,enc F,th,op,a,b]=L 23601 [enc l,enc all,(l.l.length:Int),((j+1:Nat):Int),enc d0,enc d1,enc (dL (gW S.l (.i ob) (dL (s.l++ [.i (j:Int)])))),enc ((s.l.drop i).foldl (Rc l all j th op ob) F)]
 |0,i,F,hi=>by
  have c1: ¬(i:Int)<(s.l.length:Int):=J
  have c2:(s.l.length:Int)<17592186044415:=J
  have w:=bQ (n:=j) J;rw [amC J,bO 23605,OW];simp only [MX,zz,c1,c2,w,bE,List.foldl_nil]
 |m+1,i,F,hi=>by
  have eu:i<s.l.length:=J
  have c1:(i:Int)<(s.l.length:Int):=J
  have c2: ¬(i:Int)<0:=J
  have w:=bQ (n:=i) J;obtain⟨x0,x1⟩:=hs _ (aA eu);obtain⟨k,hk⟩ : ∃k:Nat,(s.l[i]).n=(k:Int):=⟨(s.l[i]).n.toNat,J⟩;have c3: ¬(s.l[i]).n<0:=J
  have c4:(s.l[i]).n<(l.l.length:Int):=J
  have c5:(s.l[i]).n<(all.l.length:Int):=J
  have c6: ¬(j:Int)<0:=J
  have c7:(j:Int)<(all.l.length:Int):=J
  have JP:k<l.l.length:=J
  have hev:l.at (s.l[i]).n=l.l[k]:=by rw [hk]; exact cA JP
  have c8: ¬((l.at (s.l[i]).n).hd 0).n<0:=by have:=(hR _ (aA JP)).1; rw [hev]; omega
  have ih:=fun F=>K2 hj hs t! m (i+1) F J (S:=S) (th:=th) (op:=op) (ob:=ob) (a:=a) (b:=b);rw [bp eu,anc,<- ih,bO 23605,OW];unfold Rc at2;simp only [MX,zz,c1,c2,c3,c4,c5,c6,c7,c8,w,cA eu];generalize ((l.at (s.l[i]).n).hd 0).n=t at *;generalize ((l.at (s.l[i]).n).hd 1).n=q at *;generalize all.at (s.l[i]).n=u at *;generalize all.at (j:Int)=v at *;by_cases f0:(dH F.l (.i ob)).isSome=true
  ·simp only [f0,if_true,bG,if_false,bE,reduceIte]
  ·by_cases f1:t=th
   ·simp only [f0,f1,if_true,if_false,bE,reduceIte,aL]
   ·by_cases g1:t<(u.l.length:Int)<;>by_cases g2:t<(v.l.length:Int)<;>by_cases f2:q=23<;>by_cases f3:op=23<;>
      simp only [f0,f1,f2,f3,g1,g2,c8,if_true,if_false,or_self,or_true,true_or,bE,reduceIte,aL,iH,k8,aC]<;>(try split)<;>simp_all only [bE,if_true,if_false,reduceIte]
noncomputable def S9 (d0 l all:D) (j:Nat) (p:D×D):D×D:=
 if ((d0.at ((l.at (j:Int)).hd 2).n).hd 0).n=9/\(((l.at (j:Int)).hd 1).n=22\/((l.at (j:Int)).hd 1).n=23) then
  match dH p.1.l (.i ((l.at (j:Int)).hd 2).n) with
  |none=>(dL (gW (gW p.1.l (.i ((l.at (j:Int)).hd 2).n) (.i 0)) (.i ((l.at (j:Int)).hd 2).n) (dL [.i (j:Int)])),p.2)
  |some v=>(dL (gW p.1.l (.i ((l.at (j:Int)).hd 2).n) (dL (v.l++ [.i (j:Int)]))),v.l.foldl (Rc l all j ((l.at (j:Int)).hd 0).n ((l.at (j:Int)).hd 1).n ((l.at (j:Int)).hd 2).n) p.2)
 else p
omit hR hl ha in
theorem aeb {S:D} {j:Nat} {k v:D} (h:SI j S) (hv:v.l≠[]/\v.l.length<=j+1/\∀x∈v.l,0<=x.n/\x.n<((j+1:Nat):Int)):SI (j+1) (dL (gW S.l k v)):=by
 intro k' v' h';rw [bM,oK] at h';split at h'
 ·simp only [ag] at h';exact h'▸hv
 ·obtain⟨a,b,c⟩:=h k' v' h';exact⟨a,J,fun x hx=>by have:=c x hx; omega⟩
omit hR hl ha in
theorem PK {S:D} {j:Nat} (h:SI j S):SI (j+1) S:=fun k v hv=>by obtain⟨a,b,c⟩:=h k v hv;exact⟨a,J,fun x hx=>by have:=c x hx; omega⟩
omit hR hl ha in
theorem aeg {j:Nat} {p:D×D} (h:SI j p.1):SI (j+1) (S9 d0 l all j p).1:=by
 unfold S9;split
 ·split
  ·refine fun k v hv=>?_;rw [bM,oK] at hv;split at hv
   ·simp only [ag] at hv;subst hv;rw [bM];exact⟨ad,ad,fun x hx=>by simp at hx; subst hx; show 0<=(j:Int)/\(j:Int)<_; omega⟩
   ·rw [oK,af (by assumption)] at hv;exact PK h k v hv
  ·rename_i v hv;obtain⟨a,b,c⟩:=h _ v hv;refine aeb h ?_;rw [bM];refine⟨ad,by simp; omega,fun x hx=>?_⟩;rcases amb.1 hx with hx|hx
   ·have:=c x hx; omega
   ·simp at hx; subst hx; show 0<=(j:Int)/\(j:Int)<_; omega
 ·exact PK h
theorem ahU {j:Nat} {p:D×D} (hj:j<l.l.length) (h:SI j p.1) :
 L 23601 [enc l,enc all,(l.l.length:Int),(j:Int),enc d0,enc d1,enc p.1,enc p.2]=L 23601 [enc l,enc all,(l.l.length:Int),((j+1:Nat):Int),enc d0,enc d1,enc (S9 d0 l all j p).1,enc (S9 d0 l all j p).2]:=by
 have c1:(j:Int)<(l.l.length:Int):=J
 have c2: ¬(j:Int)<0:=J
 have w:=bQ (n:=j) J;have E:=hR _ (aA hj);have mE:l.at (j:Int)=l.l[j]:=cA hj;rw [<- mE] at E;have c3: ¬((l.at (j:Int)).hd 2).n<0:=by have:=E.2.2.1; omega
 have c4:=E.2.2.2;have xS:=fun (v:D) (hv:dH p.1.l (.i ((l.at (j:Int)).hd 2).n)=some v)=>K2 hR hl ha (S:=p.1) (th:=((l.at (j:Int)).hd 0).n) (op:=((l.at (j:Int)).hd 1).n) (ob:=((l.at (j:Int)).hd 2).n) (a:=((l.at (j:Int)).hd 3).n) (b:=((l.at (j:Int)).hd 4).n) hj (h _ v hv).2.2 (by have:=(h _ v hv).2.1; omega) v.l.length 0 p.2 J;rw [bO 23601,OX];unfold S9;generalize JO:((l.at (j:Int)).hd 2).n=ob at *;generalize xA:((l.at (j:Int)).hd 1).n=op at *;generalize hth:((l.at (j:Int)).hd 0).n=th at *;simp only [MY,zz,c1,c2,c3,c4,w,JO,xA,hth]
 have aeu:dH p.1.l (.i ob)=none->∀x3 x4:Int,L 23602 [enc l,enc all,(j:Int),(l.l.length:Int),enc d0,enc d1,enc p.1,enc p.2,th,op,ob,x3,x4]=L 23601 [enc l,enc all,(l.l.length:Int),((j+1:Nat):Int),enc d0,enc d1,enc (dL (gW (gW p.1.l (.i ob) (.i 0)) (.i ob) (dL [.i (j:Int)]))),enc p.2]:=by intro hf x3 x4;rw [bO 23602,Zl];simp only [V6,zz,hf,w,anr,aL,if_true,if_false,reduceIte,bE,tx,bM,aF]
 have ad9: ∀v:D,dH p.1.l (.i ob)=some v->∀x3 x4:Int,fin L (if ((v.l.length:Nat):Int)=0 then (if enc v=enc (D.i 3) then RS.jump 23603 [enc l,enc all,(j:Int),(l.l.length:Int),enc d0,enc d1,enc p.1,ob,enc p.2,th,op,x3,x4] else RS.jump 23604 [enc l,enc all,(j:Int),(l.l.length:Int),enc v,enc d0,enc d1,enc p.1,ob,enc p.2,th,op,x3,x4]) else RS.jump 23605 [enc l,enc all,(j:Int),(l.l.length:Int),enc v,(v.l.length:Int),0,enc d0,enc d1,enc p.1,ob,enc p.2,th,op,x3,x4])=L 23605 [enc l,enc all,(j:Int),(l.l.length:Int),enc v,(v.l.length:Int),0,enc d0,enc d1,enc p.1,ob,enc p.2,th,op,x3,x4]:=by
  intro v hf x3 x4
  have hv: ¬((v.l.length:Nat):Int)=0:=by intro e;exact (h _ v hf).1 (amD.1 J)
  rw [af hv,bE]
 have done: ∀v:D,dH p.1.l (.i ob)=some v->L 23605 [enc l,enc all,(j:Int),(l.l.length:Int),enc v,(v.l.length:Int),0,enc d0,enc d1,enc p.1,ob,enc p.2,th,op,((l.at (j:Int)).hd 3).n,((l.at (j:Int)).hd 4).n]=L 23601 [enc l,enc all,(l.l.length:Int),((j+1:Nat):Int),enc d0,enc d1,enc (dL (gW p.1.l (.i ob) (dL (v.l++ [.i (j:Int)])))),enc (v.l.foldl (Rc l all j th op ob) p.2)]:=by intro v hf;have:=xS v hf;rw [amh] at this;exact this
 by_cases f0:((d0.at ob).hd 0).n=9
 ·have case:op=22\/op=23->fin L (if (if (dH p.1.l (D.i ob)).isSome=true then (1:Int) else 0)=0 then RS.jump 23602 [enc l,enc all,(j:Int),(l.l.length:Int),enc d0,enc d1,enc p.1,enc p.2,th,op,ob,((l.at (j:Int)).hd 3).n,((l.at (j:Int)).hd 4).n] else (if ((((dH p.1.l (D.i ob)).getD (D.i 0)).l.length:Nat):Int)=0 then (if enc ((dH p.1.l (D.i ob)).getD (D.i 0))=enc (D.i 3) then RS.jump 23603 [enc l,enc all,(j:Int),(l.l.length:Int),enc d0,enc d1,enc p.1,ob,enc p.2,th,op,((l.at (j:Int)).hd 3).n,((l.at (j:Int)).hd 4).n] else RS.jump 23604 [enc l,enc all,(j:Int),(l.l.length:Int),enc ((dH p.1.l (D.i ob)).getD (D.i 0)),enc d0,enc d1,enc p.1,ob,enc p.2,th,op,((l.at (j:Int)).hd 3).n,((l.at (j:Int)).hd 4).n]) else RS.jump 23605 [enc l,enc all,(j:Int),(l.l.length:Int),enc ((dH p.1.l (D.i ob)).getD (D.i 0)),(((dH p.1.l (D.i ob)).getD (D.i 0)).l.length:Int),0,enc d0,enc d1,enc p.1,ob,enc p.2,th,op,((l.at (j:Int)).hd 3).n,((l.at (j:Int)).hd 4).n]))=L 23601 [enc l,enc all,(l.l.length:Int),((j+1:Nat):Int),enc d0,enc d1,
   enc (if ((d0.at ob).hd 0).n=9/\(op=22\/op=23) then (match dH p.1.l (D.i ob) with
    |none=>(dL (gW (gW p.1.l (.i ob) (.i 0)) (.i ob) (dL [.i (j:Int)])),p.2)
    |some v=>(dL (gW p.1.l (.i ob) (dL (v.l++ [.i (j:Int)]))),v.l.foldl (Rc l all j th op ob) p.2)) else p).1,
   enc (if ((d0.at ob).hd 0).n=9/\(op=22\/op=23) then (match dH p.1.l (D.i ob) with
    |none=>(dL (gW (gW p.1.l (.i ob) (.i 0)) (.i ob) (dL [.i (j:Int)])),p.2)
    |some v=>(dL (gW p.1.l (.i ob) (dL (v.l++ [.i (j:Int)]))),v.l.foldl (Rc l all j th op ob) p.2)) else p).2]:=by
   intro ho;simp only [f0,ho,and_self,if_true]
   cases hf:dH p.1.l (D.i ob) with
   |none=> simp only [anr,aL,if_true,if_false,reduceIte,bE];exact aeu hf _ _
   |some v=> simp only [bo,az,if_true,if_false,bG,reduceIte];rw [ad9 v hf];exact done v hf
  rw [ah f0];by_cases o2:op=22
  ·rw [ah o2]
   exact case (.inl o2)
  ·rw [af o2];by_cases o3:op=23
   ·rw [ah o3]
    exact case (.inr o3)
   ·rw [af o3,af (fun q=>by rcases q.2 with q|q; exact o2 q; exact o3 q),bE]
 ·rw [af f0,af (fun q=>f0 q.1),bE]
omit hR hl ha in
theorem TA {S:List D} {k v k':D} (h:(dH S k').isSome=true):(dH (gW S k v) k').isSome=true:=by
 rw [oK];split
 ·rfl
 ·exact h
noncomputable def oh (d0 l all:D):Nat->D×D
 |0=>(.i 0,.i 0)
 |j+1=>S9 d0 l all j (oh d0 l all j)
omit hR hl ha in
theorem Da: ∀j:Nat,SI j (oh d0 l all j).1
 |0=>akl
 |j+1=>aeg (Da j)
theorem PW: ∀j:Nat,j<=l.l.length->L 23601 [enc l,enc all,(l.l.length:Int),0,enc d0,enc d1,enc (.i 0),enc (.i 0)]=L 23601 [enc l,enc all,(l.l.length:Int),(j:Int),enc d0,enc d1,enc (oh d0 l all j).1,enc (oh d0 l all j).2]
 |0,_=>rfl
 |j+1,h=>by rw [PW j J,ahU hR hl ha J (Da j)];rfl
omit hR hl ha in
theorem XT {j:Nat} {th op ob:Int} {k:D} {F x:D} (h:(dH F.l k).isSome=true):(dH (Rc l all j th op ob F x).l k).isSome=true:=by
 unfold Rc;split
 ·exact h
 ·split
  ·exact h
  ·split
   ·split
    ·rw [bM]; exact TA h
    ·exact h
   ·exact h
omit hR hl ha in
theorem GG {j:Nat} {th op ob:Int} {k:D}: ∀{xs:List D} {F:D},(dH F.l k).isSome=true->(dH (xs.foldl (Rc l all j th op ob) F).l k).isSome=true
 |[],_,h=>h
 |x::xs,F,h=>GG (xs:=xs) (XT h)
omit hR hl ha in
theorem WX {j:Nat} {p:D×D} {k:D} (h:(dH p.2.l k).isSome=true):(dH (S9 d0 l all j p).2.l k).isSome=true:=by
 unfold S9;split
 ·split
  ·exact h
  ·exact GG h
 ·exact h
omit hR hl ha in
theorem C9 {k:D} {i:Nat}: ∀{j:Nat},i<=j->(dH (oh d0 l all i).2.l k).isSome=true->(dH (oh d0 l all j).2.l k).isSome=true
 |0,h,hs=>by obtain rfl:i=0:=J
             exact hs
 |j+1,h,hs=>by
  by_cases he:i=j+1
  ·subst he; exact hs
  ·exact WX (C9 J hs)
omit hR hl ha in
theorem aeo {F:D} {n:Nat} (hn:n<=1000): ∀(m k:Nat) (acc:D),k+m=n->acc.l.length<=k->∃r:D,L 23607 [enc acc,(n:Int),(k:Int),enc F]=some [enc r]/\acc.l.length<=r.l.length
 |0,k,acc,h,Z=>by
  have c1: ¬(k:Int)<(n:Int):=J
  refine⟨acc,?_,au _⟩;rw [bO,Jp];simp only [HQ,zz,c1,bN]
 |m+1,k,acc,h,Z=>by
  have c1:(k:Int)<(n:Int):=J
  have c2:(acc.l.length:Int)<5864062014804:=J
  have w:=bQ (n:=k) J
  cases hf:dH F.l (.i (k:Int)) with
  |none=> obtain⟨r,h3,h4⟩:=aeo (F:=F) hn m (k+1) acc J J;refine⟨r,?_,h4⟩;rw [bO,Jp];simp only [HQ,zz,c1,w,hf,anr,aL,if_true,if_false,reduceIte,bE];exact h3
  |some v=> obtain⟨r,h3,h4⟩:=aeo (F:=F) hn m (k+1) (dL (acc.l++ [dL [.i (v.hd 0).n,.i (v.hd 1).n,.i (v.hd 2).n]])) J (by rw [bM]; simp; omega);refine⟨r,?_,by rw [bM] at h4; simp at h4; omega⟩;rw [bO,Jp];simp only [HQ,zz,c1,c2,w,hf,bo,az,if_true,if_false,bG,reduceIte,bE];exact h3
omit hR hl ha in
theorem ah7 {F:D} {n:Nat} (hn:n<=1000): ∀(m k:Nat),k+m=n->∃r:D,L 23606 [(n:Int),(k:Int),enc F]=some [enc r]/\(0<r.l.length↔∃i:Nat,k<=i/\i<n/\(dH F.l (.i (i:Int))).isSome=true)
 |0,k,h=>by
  have c1: ¬(k:Int)<(n:Int):=J
  refine⟨.i 1,?_,⟨fun q=>by simp [D.l] at q,fun⟨i,a,b,_⟩=>by omega⟩⟩;rw [bO,Jq];simp only [HR,zz,c1,bN]
 |m+1,k,h=>by
  have c1:(k:Int)<(n:Int):=J
  have w:=bQ (n:=k) J
  cases hf:dH F.l (.i (k:Int)) with
  |none=>
   obtain⟨r,h3,h4⟩:=ah7 (F:=F) hn m (k+1) J;refine⟨r,?_,h4.trans ⟨fun⟨i,a,b,c⟩=> ⟨i,J,b,c⟩,fun⟨i,a,b,c⟩=> ⟨i,?_,b,c⟩⟩⟩
   ·rw [bO,Jq];simp only [HR,zz,c1,w,hf,anr,aL,if_true,if_false,reduceIte,bE];exact h3
   ·by_cases e:i=k
    ·subst e;rw [hf] at c;simp at c
    ·omega
  |some v=> obtain⟨r,h3,h4⟩:=aeo (F:=F) hn m (k+1) (dL [dL [.i (v.hd 0).n,.i (v.hd 1).n,.i (v.hd 2).n]]) J (by rw [bM]; simp);refine⟨r,?_,⟨fun _=> ⟨k,J,J,by rw [hf]; rfl⟩,fun _=>by rw [bM] at h4; simp at h4; omega⟩⟩;rw [bO,Jq];simp only [HR,zz,c1,w,hf,bo,az,if_true,if_false,bG,reduceIte,bE,tx,aF];exact h3
end
theorem TF {l all l' tm:D} {j:Nat} {th op ob:Int} {F x:D} (hx:0<=x.n/\x.n<(j:Int)) (hA: ∀i:Nat,i<=j->l.at (i:Int)=l'.at (i:Int)/\all.at (i:Int)=tm.at (i:Int)):Rc l all j th op ob F x=Rc l' tm j th op ob F x:=by obtain⟨k,hk⟩ : ∃k:Nat,x.n=(k:Int):=⟨x.n.toNat,J⟩;have U:=(hA k J).1;have Z:=(hA k J).2;have h3:=(hA j (au _)).2;unfold Rc;rw [hk,U,Z,h3]
theorem DE {l all l' tm:D} {j:Nat} {th op ob:Int} (hA: ∀i:Nat,i<=j->l.at (i:Int)=l'.at (i:Int)/\all.at (i:Int)=tm.at (i:Int)): ∀{xs:List D} {F:D},(∀x∈xs,0<=x.n/\x.n<(j:Int))->xs.foldl (Rc l all j th op ob) F=xs.foldl (Rc l' tm j th op ob) F
 |[],_,_=>rfl
 |x::xs,F,h=>by rw [anc,anc,TF (h x (List.mem_cons_self ..)) hA];exact DE hA fun y hy=>h y (am9 _ hy)
theorem S8 {d0 l all l' tm:D} {j:Nat} {p:D×D} (h:SI j p.1) (hA: ∀i:Nat,i<=j->l.at (i:Int)=l'.at (i:Int)/\all.at (i:Int)=tm.at (i:Int)):S9 d0 l all j p=S9 d0 l' tm j p:=by
 have U:=(hA j (au _)).1;unfold S9;rw [U];split
 ·split
  ·rfl
  ·rename_i v hv;rw [DE hA (h _ v hv).2.2]
 ·rfl
theorem ug {d0 l all l' tm:D}: ∀j:Nat,(∀i:Nat,i<j->l.at (i:Int)=l'.at (i:Int)/\all.at (i:Int)=tm.at (i:Int))->oh d0 l all j=oh d0 l' tm j
 |0,_=>rfl
 |j+1,hA=>by have ih:=ug (d0:=d0) j fun i hi=>hA i J;show S9 d0 l all j (oh d0 l all j)=S9 d0 l' tm j (oh d0 l' tm j);rw [<- ih];exact S8 (Da j) fun i hi=>hA i J
theorem afS {d d':D} (h:d.l=d'.l) (i:Nat) (hi:i<d.l.length):d.at (i:Int)=d'.at (i:Int):=by rw [cA hi,cA (h▸hi)];simp only [h]
def aaT (d0 d1:D) (es:List D):Prop:=(∀e∈es,JX d0 d1 e)/\∃i:Nat,i<d0.l.length/\(dH (oh d0 (dL es) (dL (kf d0 d1 es)) es.length).2.l (.i (i:Int))).isSome=true
theorem Ks {d0 d1:D} (hC:L 450 [enc d0,enc d1]=some [0]) (hd:d0.l.length<=1000) (l:D) (hl:l.l.length<=50000): ∃r:D,L 23600 [enc d0,enc d1,enc l]=some [enc r]/\(0<r.l.length↔aaT d0 d1 l.l):=by
 rcases Vy (l:=l) hC hl with ⟨hT,e,he,hn⟩|⟨hT,hR⟩
 ·refine⟨.i 1,?_,⟨fun q=>by simp [D.l] at q,fun q=>absurd (q.1 e he) hn⟩⟩;rw [bO,OY];simp only [MZ,zz,hT,bN]
 ·obtain⟨all,hA,Ob⟩:=Uk hR hl;have ha:all.l.length=l.l.length:=by rw [Ob,xM]
  obtain⟨r,h3,h4⟩:=ah7 (F:=(oh d0 l all l.l.length).2) hd d0.l.length 0 J;have c1: ¬(l.l.length:Int)<(l.l.length:Int):=J
  refine⟨r,?_,h4.trans ?_⟩
  ·rw [bO,OY];simp only [MZ,zz,hT,hA,bG,if_false,reduceIte,bE];rw [PW hR hl ha _ (au _),bO,OX];simp only [MY,zz,c1,bE];exact h3
  ·have e:oh d0 l all l.l.length=oh d0 (dL l.l) (dL (kf d0 d1 l.l)) l.l.length:=ug _ fun i hi=> ⟨afS (by rw [bM]) i hi,afS (by rw [bM,Ob]) i J⟩;rw [e];exact⟨fun⟨i,_,b,c⟩=> ⟨hR,i,b,c⟩,fun⟨_,i,b,c⟩=> ⟨i,aml _,b,c⟩⟩
theorem Te {d0 d1:D} {es:List D} (hR: ∀e∈es,JX d0 d1 e) (m:Nat) (h:aaT d0 d1 (es.take m)):aaT d0 d1 es:=by
 obtain⟨_,i,hi,hs⟩:=h;refine⟨hR,i,hi,?_⟩;have hlen:(es.take m).length<=es.length:=by simp only [aZ]; omega
 have e:oh d0 (dL (es.take m)) (dL (kf d0 d1 (es.take m))) (es.take m).length=oh d0 (dL es) (dL (kf d0 d1 es)) (es.take m).length:=by
  refine ug _ fun i hi=>?_;have hi':i<es.length:=J
  rw [L0];rw [cA (d:=dL (es.take m)) (by rw [bM]; exact hi),cA (d:=dL es) (by rw [bM]; exact hi'),cA (d:=dL ((kf d0 d1 es).take m)) (by rw [bM,aZ,xM]; rw [aZ] at hi; exact hi),cA (d:=dL (kf d0 d1 es)) (by rw [bM,xM]; exact hi')];simp only [bM,List.getElem_take,and_self]
 rw [e] at hs;exact C9 hlen hs
theorem KN {es:D} (hl:es.l.length<=50000): ∀(j i:Nat),i+j=es.l.length->dE 25301 [enc es,(es.l.length:Int),(i:Int)] (fun ys=> ∃z:Int,ys= [z])
 |0,i,hi=>by
  have c1: ¬(i:Int)<(es.l.length:Int):=J
  refine dE.of ?_;rw [AM];simp only [zQ,zz,c1,if_true,if_false];exact .out ⟨_,rfl⟩
 |j+1,i,hi=>by
  have c1:(i:Int)<(es.l.length:Int):=J
  have c2: ¬(i:Int)<0:=J
  have w:=bQ (n:=i) J;have ih:=KN hl j (i+1) J;refine dE.of ?_;rw [AM];simp only [zQ,zz,c1,c2,w,if_true,if_false];exact .ite (fun _=> .out ⟨_,rfl⟩) (fun _=> .jump ih)
theorem T! {es:D} (hl:es.l.length<=50000): ∃b:Int,L 25200 [enc es]=some [b]/\(b=0\/b=1):=by
 obtain⟨ys,hL,z,rfl⟩:=KN hl es.l.length 0 J
 have Z:L 25300 [enc es]=some [z]:=by rw [bO,OS];simp only [MU,zz,bE];exact hL
 by_cases hz:z<0
 ·refine⟨0,?_,.inl rfl⟩;rw [bO,Ep];simp only [CR,zz,Z,hz,bN]
 ·refine⟨1,?_,.inr rfl⟩;rw [bO,Ep];simp only [CR,zz,Z,hz,bN]
noncomputable def uu (d0 d1:D):PS:=⟨ja d0,mh d1,[]⟩
noncomputable def rA (d0 d1:D) (l:List D):PS:=if 0<d1.l.length then ry d0 d1 (uu d0 d1) (l.map (UC d1)) else uu d0 d1
section
variable {d0 d1:D} (h0:Wd (.sl 3) d0) (U:Wd (.sl 4) d1) (hC:L 450 [enc d0,enc d1]=some [0])
include h0 U hC
theorem P7:L 1450 [enc d0,enc d1]=some [enc (ja d0),enc (mh d1),0]/\D_ d1 (uu d0 d1) 0/\uz d0 d1:=by obtain⟨ys,hC',c,rfl,hc,oL⟩:=rR h0 U;rw [hC] at hC';simp only [ag,List.cons.injEq,and_true] at hC';subst hC';have ok:=(oL rfl).1;exact⟨Tz U hC ok,⟨Ww h0 U ok,MO d1,au _⟩,ok⟩
theorem NB (q:D) (hq:q.l.length<=1000):L 2400 [enc d0,enc d1,enc q]=some (ES (rA d0 d1 q.l))/\D_ d1 (rA d0 d1 q.l) q.l.length:=by
 obtain⟨hB,P,_⟩:=P7 h0 U hC;unfold rA;by_cases hn:0<d1.l.length
 ·rw [ah hn];have hQ:=PO h0 U (q.l.map (UC d1)) _ 0 P (by rw [al7]; omega);rw [al7,ay] at hQ;exact⟨O' h0 U hn hB P q J,hQ⟩
 ·rw [af hn];refine⟨?_,P.sx.mono (aml _),P.lk,by simp [uu]⟩;have c1: ¬(0:Int)<(d1.l.length:Int):=J
  have e:ES (uu d0 d1)= [enc (.i 1),enc (ja d0),enc (mh d1)]:=by simp [ES,uu]
  rw [e,bO,Zh];simp only [V3,zz,hB,bE];rw [bO,RJ];by_cases hqz:(0:Int)<(q.l.length:Int)
  ·simp only [A3,zz,hqz,c1,bN]
  ·simp only [A3,zz,hqz,bN]
theorem U' (k:Int) (l:List D) (hl:l.length<=1000): ∃b:Int,(b=0\/b=1)/\∀q:D,q.l=l->L 26400 [enc q,enc d0,enc d1,k]=some [enc d0,enc d1,k,b]:=by
 obtain⟨hP,hQ⟩:=NB h0 U hC (dL l) (by rw [bM]; exact hl);rw [bM] at hQ
 have hP': ∀q:D,q.l=l->L 2400 [enc d0,enc d1,enc q]=some (ES (rA d0 d1 l)):=fun q hq=>by have:=(NB h0 U hC q (by rw [hq]; exact hl)).1;rw [hq] at this;exact this
 clear hP;unfold ES at hP';generalize rA d0 d1 l=Q at hQ hP'
 have jD:(if Q.l= [] then D.i 1 else dL Q.l).l.length<=1000:=by
  have:=hQ.ll;split
  ·simp [D.l]
  ·rw [bM]; omega
 generalize (if Q.l= [] then D.i 1 else dL Q.l)=es at hP' jD;obtain⟨ys,hS,hSb⟩:=Wx hQ.sx J h0 U
 obtain⟨b1,rfl⟩ : ∃b1:Int,ys= [b1]:=by obtain⟨b,e,_⟩:=hSb;exact⟨b,e⟩
 obtain⟨b2,hM,_⟩:=T! (es:=es) J;obtain⟨r,hR,_⟩:=Ks hC (by have:=(P7 h0 U hC).2.2.1; omega) es J
 have key: ∃b:Int,(b=0\/b=1)/\b=(if k=1 then (if b1=0 then 0 else 1) else if k=2 then (if b2=0 then 0 else 1) else if k=3 then (if (0:Int)<(r.l.length:Int) then 1 else 0) else 0):=by
  refine⟨_,?_,rfl⟩;split
  ·split<;>simp
  ·split
   ·split<;>simp
   ·split
    ·split<;>simp
    ·simp
 obtain⟨b,Y,he⟩:=key;refine⟨b,Y,fun q hq=>?_⟩;have hp:=hP' q hq;subst he;rw [bO,xJ];by_cases k1:k=1
 ·by_cases z:b1=0
  ·simp only [mU,zz,hp,hS,k1,z,bN]
  ·simp only [mU,zz,hp,hS,k1,z,bN]
 ·by_cases k2:k=2
  ·by_cases z:b2=0
   ·simp only [mU,zz,hp,hM,k2,z,bN,Int.reduceEq]
   ·simp only [mU,zz,hp,hM,k2,z,bN,Int.reduceEq]
  ·by_cases k3:k=3
   ·by_cases z:(0:Int)<(r.l.length:Int)
    ·simp only [mU,zz,hp,hR,k3,z,bN,Int.reduceEq]
    ·simp only [mU,zz,hp,hR,k3,z,bN,Int.reduceEq]
   ·simp only [mU,zz,hp,k1,k2,k3,bN]
noncomputable def jm (d0 d1:D) (k:Int) (l:List D):Int:=low ((L 26400 [enc (dL l),enc d0,enc d1,k]).getD []) 3
theorem DA (k:Int) (q:D) (hq:q.l.length<=1000):L 26400 [enc q,enc d0,enc d1,k]=some [enc d0,enc d1,k,jm d0 d1 k q.l]/\(jm d0 d1 k q.l=0\/jm d0 d1 k q.l=1):=by
 obtain⟨b,Y,hA⟩:=U' h0 U hC k q.l hq
 have e:jm d0 d1 k q.l=b:=by unfold jm;rw [hA (dL q.l) (bM _)];rfl
 rw [e];exact⟨hA q rfl,Y⟩
theorem Ym (k:Int) (q:D) (hq:q.l.length<=1000):L 23650 [enc d0,enc d1,enc q,k]=some [jm d0 d1 k q.l]:=by
 obtain⟨hA,Y⟩:=DA h0 U hC k q hq;rw [bO,OV];rcases Y with Y|Y
 ·rw [Y] at hA ⊢;simp only [HP,zz,hC,hA,bN]
 ·rw [Y] at hA ⊢;simp only [HP,zz,hC,hA,bN,bG]
end
theorem Yl {d0 d1:D} {c:Int} (hC:L 450 [enc d0,enc d1]=some [c]) (hc:c≠0) (k:Int) (q:D):L 23650 [enc d0,enc d1,enc q,k]=some [0]:=by rw [bO,OV];simp only [HP,zz,hC,hc,bN]
def pV (h:List D->Int):Nat->List D->Nat->List D
 |0,x,_=>x
 |j+1,x,p=>if h (x.eraseIdx p)=0 then pV h j x (p+1) else pV h j (x.eraseIdx p) p
section
variable {h:List D->Int}
theorem vD: ∀(j:Nat) (x:List D) (p:Nat),(pV h j x p).Sublist x
 |0,x,p=>List.Sublist.refl _
 |j+1,x,p=>by
  rw [pV];split
  ·exact vD j x (p+1)
  ·exact (vD j _ p).trans (List.eraseIdx_sublist ..)
theorem Af: ∀(j:Nat) (x:List D) (p:Nat),h x≠0->h (pV h j x p)≠0
 |0,x,p,hx=>hx
 |j+1,x,p,hx=>by
  rw [pV];split
  ·exact Af j x (p+1) hx
  ·rename_i hn;exact Af j _ p hn
theorem Dp: ∀(j:Nat) (x:List D) (p:Nat),x.length=p+j->(pV h j x p).length=x.length->pV h j x p=x/\∀q,p<=q->q<p+j->h (x.eraseIdx q)=0
 |0,x,p,_,_=> ⟨rfl,fun q a b=>by omega⟩
 |j+1,x,p,hl,he=>by
  rw [pV] at he ⊢;split at he
  ·rename_i h0;rw [ah h0];obtain⟨a,b⟩:=Dp j x (p+1) J he;refine⟨a,fun q U Z=>?_⟩;by_cases e:q=p
   ·subst e; exact h0
   ·exact b q J J
  ·exfalso;have:=(vD (h:=h) j (x.eraseIdx p) p).length_le;rw [List.length_eraseIdx,ah J] at this;omega
theorem Ge: ∀(j:Nat) (x:List D) (p:Nat),(∀q,p<=q->q<p+j->h (x.eraseIdx q)=0)->pV h j x p=x
 |0,x,p,_=>rfl
 |j+1,x,p,hq=>by rw [pV,ah (hq p (au _) J)];exact Ge j x (p+1) fun q a b=>hq q J J
end
def Sl (d:D):Prop:=d.l= []->d= .i 1\/d= .i 2
theorem H4 {d:D} {l:List D}:Sl (fu d l):=by
 intro h;rw [fb] at h;subst h;unfold fu;simp only;split
 ·exact .inl rfl
 ·exact .inr rfl
section
variable {d0 d1:D} (h0:Wd (.sl 3) d0) (U:Wd (.sl 4) d1) (hC:L 450 [enc d0,enc d1]=some [0])
include h0 U hC
theorem Ae (k:Int) {n:Nat} (hn:n<=1000): ∀(j i g:Nat) (x:D),i+j=n->g<=i->x.l.length=(i-g)+j->Sl x->
 ∃y:D,L 26501 [enc x,(g:Int),(n:Int),(i:Int),enc d0,enc d1,k]=some [enc d0,enc d1,k,enc y]/\y.l=pV (jm d0 d1 k) j x.l (i-g)/\Sl y
 |0,i,g,x,hi,hg,hx,hs=>by
  have c1: ¬(i:Int)<(n:Int):=J
  refine⟨x,?_,rfl,hs⟩;rw [bO,ON];simp only [MP,zz,c1,bN]
 |j+1,i,g,x,hi,hg,hx,hs=>by
  obtain⟨p,hp⟩ : ∃p:Nat,p=i-g:=⟨_,rfl⟩;rw [<- hp] at hx ⊢;have c1:(i:Int)<(n:Int):=J
  have c2:(0:Int)<(x.l.length:Int):=J
  have c3:(x.l.length:Int)<17592186044416:=J
  have w:=bQ (n:=i) J;have w2:=bQ (n:=g) J
  have wp:IntKind.i64.wrap ((i:Int)-(g:Int))=(p:Int):=by rw [show (i:Int)-(g:Int)=(p:Int) by omega];exact lh J J
  have wp1:=bQ (n:=p) J;have e1:((p+1:Nat):Int)+((x.l.length:Int)-((p+1:Nat):Int))=(x.l.length:Int):=J
  have e2:(p:Int)+((x.l.length:Int)-((p+1:Nat):Int))=((x.l.length-1:Nat):Int):=J
  have c4: ¬(p:Int)<0:=J
  have c5: ¬((p+1:Nat):Int)<(p:Int):=J
  have c6: ¬(x.l.length:Int)<((p+1:Nat):Int):=J
  have c7: ¬(p:Int)=((p+1:Nat):Int):=J
  have c8: ¬(x.l.length:Int)<(p:Int):=J
  have c9: ¬((p+1:Nat):Int)<0:=J
  have c10: ¬((x.l.length:Int)-((p+1:Nat):Int))<0:=J
  have c11: ¬((x.l.length-1:Nat):Int)<0:=J
  have c12: ¬(x.l.length:Int)<((x.l.length-1:Nat):Int):=J
  have c13:((x.l.length-1:Nat):Int)<(x.l.length:Int):=J
  have c14: ¬(x.l.length:Int)<(x.l.length:Int):=J
  have hE:List.take p x.l++List.drop (p+1) x.l=x.l.eraseIdx p:=(List.eraseIdx_eq_take_drop_succ ..).symm;have hEl:(x.l.eraseIdx p).length=x.l.length-1:=by rw [List.length_eraseIdx,ah J]
  have hk:List.take (x.l.length-1) (x.l.eraseIdx p++List.drop (x.l.length-1) x.l)=x.l.eraseIdx p:=by rw [<- hEl,anX]
  have hr: ∀z:List D,List.take (x.l.length-1) (x.l.eraseIdx p++z)=x.l.eraseIdx p:=fun z=>by rw [<- hEl,anX]
  have hlen:(x.l.eraseIdx p++List.drop (x.l.length-1) x.l).length=x.l.length:=by rw [a8,hEl,al6]; omega
  have pL:(x.l.eraseIdx p++List.replicate (x.l.length-(x.l.length-1)) (D.i 0)).length=x.l.length:=by rw [a8,hEl,amz]; omega
  have e3:((x.l.length-1:Nat):Int)+((x.l.length:Int)-((x.l.length-1:Nat):Int))=(x.l.length:Int):=J
  have c15: ¬((x.l.length:Int)-((x.l.length-1:Nat):Int))<0:=J
  obtain⟨Z!,hZ⟩ : ∃Z!:D,Z!=fu (dL (x.l.eraseIdx p++List.replicate (x.l.length-(x.l.length-1)) (D.i 0))) (x.l.eraseIdx p):=⟨_,rfl⟩;have hZl:Z!.l=x.l.eraseIdx p:=by rw [hZ,fb]
  have hZs:Sl Z!:=by rw [hZ]; exact H4
  obtain⟨hK,Y⟩:=DA h0 U hC k Z! (by rw [hZl,hEl]; omega);rw [hZl] at hK Y;rw [bO,ON,pV];simp only [MP,zz,c1,c2,c3,w,w2,wp,wp1,e1,e2,e3,c4,c5,c6,c7,c8,c9,c10,c11,c12,c13,c14,c15,fb,bM,bj,amx,hE,hk,hr,hlen,pL,<- hZ,hK];rcases Y with Y|Y
  ·obtain⟨y,q1,q2,q3⟩:=Ae k hn j (i+1) g x J J J hs;rw [show i+1-g=p+1 by omega] at q2;refine⟨y,?_,by rw [ah Y]; exact q2,q3⟩;simp only [Y,if_true,bE];exact q1
  ·obtain⟨y,q1,q2,q3⟩:=Ae k hn j (i+1) (g+1) Z! J J (by rw [hZl,hEl]; omega) hZs;rw [show i+1-(g+1)=p by omega,hZl] at q2;refine⟨y,?_,by rw [af (by rw [Y]; decide)]; exact q2,q3⟩;simp only [Y,bG,if_false,bE];exact q1
theorem QC (k:Int) (x:D) (hx:x.l.length<=1000) (hs:Sl x): ∃y:D,L 26500 [enc x,enc d0,enc d1,k]=some [enc d0,enc d1,k,enc y]/\y.l=pV (jm d0 d1 k) x.l.length x.l 0/\Sl y:=by
 obtain⟨y,q1,q2,q3⟩:=Ae h0 U hC k hx x.l.length 0 0 x J (au _) J hs;refine⟨y,?_,q2,q3⟩;rw [bO,Y8];by_cases hz:(0:Int)<(x.l.length:Int)
 ·have c3:(x.l.length:Int)<17592186044416:=J
  simp only [HM,zz,hz,c3,bE];exact q1
 ·rcases hs (amD.1 J) with rfl|rfl
  ·simp only [HM,zz,hz,bE];exact q1
  ·have v_: ¬enc (D.i 2)=enc (D.i 1):=fun e=>by have:=fT e; simp at this
   simp only [HM,zz,hz,v_,bE];exact q1
theorem WG (k:Int): ∀(n:Nat) (x:D),x.l.length=n->n<=1000->Sl x->jm d0 d1 k x.l=1->
 ∃r:D,L 23701 [enc x,enc d0,enc d1,k]=some [enc r]/\Sl r/\jm d0 d1 k r.l=1/\r.l.Sublist x.l/\∀p,p<r.l.length->jm d0 d1 k (r.l.eraseIdx p)=0:=by
 intro n
 induction n using Nat.strongRecOn with
 |_ n ih=>
  intro x hx hn hs hh;obtain⟨y,q1,q2,q3⟩:=QC h0 U hC k x J hs;have l8:=vD (h:=jm d0 d1 k) x.l.length x.l 0;rw [<- q2] at l8;have hy:=Af (h:=jm d0 d1 k) x.l.length x.l 0 (by rw [hh]; decide);rw [<- q2] at hy;have hyl:=l8.length_le;by_cases he:(y.l.length:Int)=(x.l.length:Int)
  ·have hm:=Dp (h:=jm d0 d1 k) x.l.length x.l 0 J (by rw [<- q2]; omega);refine⟨x,?_,hs,hh,List.Sublist.refl _,fun p hp=>hm.2 p J J⟩;rw [bO,Jo];simp only [HO,zz,q1,he,bN]
  ·have hy1:jm d0 d1 k y.l=1:=by
    rcases (DA h0 U hC k y J).2 with h|h
    ·exact absurd h hy
    ·exact h
   obtain⟨r,a1,a2,a3,a4,a5⟩:=ih y.l.length J y rfl J q3 hy1;refine⟨r,?_,a2,a3,a4.trans l8,a5⟩;rw [bO,Jo];simp only [HO,zz,q1,he,bE];exact a1
theorem S1 (k:Int) (q:D) (hq:q.l.length<=1000) (hs:Sl q): ∃r:D,L 23700 [enc d0,enc d1,enc q,k]=some [enc r]/\Sl r/\(jm d0 d1 k q.l=0/\r=q\/jm d0 d1 k q.l=1/\jm d0 d1 k r.l=1/\r.l.Sublist q.l/\∀p,p<r.l.length->jm d0 d1 k (r.l.eraseIdx p)=0):=by
 have hH:=Ym h0 U hC k q hq;have v_: ¬enc (D.i 2)=enc (D.i 1):=fun e=>by have:=fT e; simp at this
 rcases (DA h0 U hC k q hq).2 with Y|Y
 ·rw [Y] at hH;refine⟨q,?_,hs,.inl ⟨Y,rfl⟩⟩;rw [bO,Er];by_cases hz:(0:Int)<(q.l.length:Int)
  ·have c3:(q.l.length:Int)<17592186044416:=J
   simp only [mV,zz,hz,c3,hH,bN]
  ·rcases hs (amD.1 J) with rfl|rfl
   ·simp only [mV,zz,hz,hH,bN]
   ·simp only [mV,zz,hz,hH,v_,bN]
 ·rw [Y] at hH;obtain⟨r,a1,a2,a3,a4,a5⟩:=WG h0 U hC k _ q rfl hq hs Y;refine⟨r,?_,a2,.inr ⟨Y,a3,a4,a5⟩⟩;rw [bO,Er];by_cases hz:(0:Int)<(q.l.length:Int)
  ·have c3:(q.l.length:Int)<17592186044416:=J
   simp only [mV,zz,hz,c3,hH,bG,bE];exact a1
  ·rcases hs (amD.1 J) with rfl|rfl
   ·simp only [mV,zz,hz,hH,bG,bE];exact a1
   ·simp only [mV,zz,hz,hH,v_,bG,bE];exact a1
theorem Nr (k:Int) (q:D) (hq:q.l.length<=1000) (hs:Sl q) (hm:jm d0 d1 k q.l=0\/∀p,p<q.l.length->jm d0 d1 k (q.l.eraseIdx p)=0):L 23700 [enc d0,enc d1,enc q,k]=some [enc q]:=by
 have hH:=Ym h0 U hC k q hq;have v_: ¬enc (D.i 2)=enc (D.i 1):=fun e=>by have:=fT e; simp at this
 rcases (DA h0 U hC k q hq).2 with Y|Y
 ·obtain⟨r,a1,a2,a3⟩:=S1 h0 U hC k q hq hs;rcases a3 with ⟨_,rfl⟩|⟨h,_⟩
  ·exact a1
  ·omega
 ·have hm:=hm.resolve_left J;rw [Y] at hH;obtain⟨y,q1,q2,q3⟩:=QC h0 U hC k q J hs;rw [Ge _ _ _ fun p a b=>hm p J] at q2;have he:(y.l.length:Int)=(q.l.length:Int):=by rw [q2]
  have a1:L 23701 [enc q,enc d0,enc d1,k]=some [enc q]:=by rw [bO,Jo];simp only [HO,zz,q1,he,bN]
  rw [bO,Er];by_cases hz:(0:Int)<(q.l.length:Int)
  ·have c3:(q.l.length:Int)<17592186044416:=J
   simp only [mV,zz,hz,c3,hH,bG,bE];exact a1
  ·rcases hs (amD.1 J) with rfl|rfl
   ·simp only [mV,zz,hz,hH,bG,bE];exact a1
   ·simp only [mV,zz,hz,hH,v_,bG,bE];exact a1
end
theorem S0 {d0 d1:D} {c:Int} (hC:L 450 [enc d0,enc d1]=some [c]) (hc:c≠0) (k:Int) (q:D) (hq:q.l.length<=1000) (hs:Sl q):L 23700 [enc d0,enc d1,enc q,k]=some [enc q]:=by
 have hH:=Yl hC hc k q;have v_: ¬enc (D.i 2)=enc (D.i 1):=fun e=>by have:=fT e; simp at this
 rw [bO,Er];by_cases hz:(0:Int)<(q.l.length:Int)
 ·have c3:(q.l.length:Int)<17592186044416:=J
  simp only [mV,zz,hz,c3,hH,bN]
 ·rcases hs (amD.1 J) with rfl|rfl
  ·simp only [mV,zz,hz,hH,bN]
  ·simp only [mV,zz,hz,hH,v_,bN]
theorem Du {a b:D} (DR:a.l=b.l) (hl:a.l.length<=1000): ∀(j i:Nat),i+j=a.l.length->L 23901 [enc a,enc b,(i:Int)]=some [1]
 |0,i,hi=>by
  obtain rfl:i=a.l.length:=J
  have c1: ¬(a.l.length:Int)<(a.l.length:Int):=J
  have c2:(a.l.length:Int)=(b.l.length:Int):=by rw [DR]
  rw [bO,OT];simp only [MV,zz,c1,c2,if_true,if_false,aC,bN]
 |j+1,i,hi=>by
  have eu:i<a.l.length:=J
  have hib:i<b.l.length:=by rw [<- DR]; exact eu
  have c1:(i:Int)<(a.l.length:Int):=J
  have c2:(i:Int)<(b.l.length:Int):=J
  have c3: ¬(i:Int)<0:=J
  have w:=bQ (n:=i) J;have e:a.at (i:Int)=b.at (i:Int):=afS DR i eu;have ih:=Du DR hl j (i+1) J;rw [bO,OT];simp only [MV,zz,c1,c2,c3,w,e,if_true,if_false,bE];exact ih
theorem TB {a b:D} (DR:a.l=b.l) (hl:a.l.length<=1000):L 23900 [enc a,enc b]=some [1]:=by rw [bO,Zi];simp only [V4,zz,bE];exact Du DR hl a.l.length 0 J
theorem DM {d0 d1:D} (h0:Wd (.sl 3) d0) (U:Wd (.sl 4) d1): ∀(j i:Nat) (s:Int),i+j=d1.l.length->dE 23851 [s,(d1.l.length:Int),(i:Int),enc d0,enc d1] wy
 |0,i,s,hi=>by
  have c1: ¬(i:Int)<(d1.l.length:Int):=J
  obtain⟨ys,hG,b,rfl,Y⟩:=TW (d0:=d0) U;refine dE.of ?_;rw [OU];simp only [MW,zz,c1,hG,if_true,if_false];exact .ite (fun _=> .out oZ) (fun _=> .ite (fun _=> .out qF) (fun _=> .out oZ))
 |j+1,i,s,hi=>by
  have c1:(i:Int)<(d1.l.length:Int):=J
  have c2: ¬(i:Int)<0:=J
  have Y:=U.len;have w:=bQ (n:=i) J;refine dE.of ?_;rw [OU];simp only [MW,zz,c1,c2,w,if_true,if_false];exact .jump (DM h0 U j (i+1) _ J)
theorem TS {d0 d1:D} (h0:Wd (.sl 3) d0) (U:Wd (.sl 4) d1): ∃b:Int,L 23850 [enc d0,enc d1]=some [b]/\(b=0\/b=1):=by obtain⟨ys,hL,b,rfl,Y⟩:=DM h0 U d1.l.length 0 (d0.l.length:Int) J;refine⟨b,?_,Y⟩;rw [bO,Zj];simp only [V5,zz,bE];exact hL
section
variable {d0 d1 r P:D} {k:Int} (hr:r.l.length<=1000) (hP:P.l.length<=1000)
include hr hP
end
theorem J? (d0 d1:D) (p:PS) (t:Int): ∃z,(SY d0 d1 p t).l=p.l++z:=by
 unfold SY;simp only;split
 ·exact⟨_,rfl⟩
 ·exact⟨[],(amm _).symm⟩
theorem Km (d0 d1:D): ∀(ts:List Int) (p:PS),∃z,(ry d0 d1 p ts).l=p.l++z
 |[],p=> ⟨[],(amm _).symm⟩
 |t::ts,p=>by obtain⟨z,hz⟩:=Km d0 d1 ts (SY d0 d1 p t);obtain⟨y,hy⟩:=J? d0 d1 p t;exact⟨y++z,by rw [ry,hz,hy,amj]⟩
theorem Ny (d0 d1:D) (l:List D) (m:Nat): ∃n,(rA d0 d1 (l.take m)).l=(rA d0 d1 l).l.take n:=by
 unfold rA;split
 ·obtain⟨z,hz⟩:=Km d0 d1 ((l.drop m).map (UC d1)) (ry d0 d1 (uu d0 d1) ((l.take m).map (UC d1)));rw [<- A9,<- ank,amr] at hz;exact⟨(ry d0 d1 (uu d0 d1) ((l.take m).map (UC d1))).l.length,by rw [hz,anX]⟩
 ·exact⟨0,by simp [uu]⟩
section
variable {d0 d1:D} (h0:Wd (.sl 3) d0) (U:Wd (.sl 4) d1)
include h0 U
theorem ad8 {p:PS} {t:Int} {n:Nat} (P:D_ d1 p n) (hn:n<5000) (hs:p.s.l.length=d0.l.length) (he: ∀e∈p.l,JX d0 d1 e):(SY d0 d1 p t).s.l.length=d0.l.length/\∀e∈(SY d0 d1 p t).l,JX d0 d1 e:=by
 obtain⟨s',k',e1,e2,e3,e4,e5,oc,hL,H⟩:=Ni P.sx J h0 U t;have t!:=(WA P.sx J h0 U H).2.1
 have Br:SY d0 d1 p t=⟨s',k',if oc=2\/oc=3 then p.l++ [evD e1 e2 e3 e4 e5] else p.l⟩:=by unfold SY WD;rw [hL];simp only [az,bJ,bK,bB]<;>rfl
 rw [Br];refine⟨t!.trans hs,?_⟩;simp only;split
 ·rename_i ho
  have key:0<=e1/\e1<(d1.l.length:Int)/\0<=e3/\e3<(d0.l.length:Int):=by
   cases H with
   |no h=>omega
   |over x R h=>omega
   |loc x R h h'=>omega
   |tri x R h op obj arg tr hq k1 k2 k3 fL s' e1 e2 e3 e4 e5 oc A T=>
    cases T with
    |no=>omega
    |Aj B=>exact⟨B.t0,B.t1,B.o0,by have:=B.o1; omega⟩
    |res B=>exact⟨B.t0,B.t1,B.o0,by have:=B.o1; omega⟩
  intro e hm;rcases amb.1 hm with hm|hm
  ·exact he e hm
  ·rw [anI] at hm;subst hm;exact key
 ·exact he
theorem PQ: ∀(ts:List Int) (p:PS) (n:Nat),D_ d1 p n->n+ts.length<5000->p.s.l.length=d0.l.length->(∀e∈p.l,JX d0 d1 e)->∀e∈(ry d0 d1 p ts).l,JX d0 d1 e
 |[],p,n,P,hn,hs,he=>he
 |t::ts,p,n,P,hn,hs,he=>by simp only [aK] at hn;obtain⟨a,b⟩:=ad8 h0 U (t:=t) P J hs he;obtain⟨s',k',e1,e2,e3,e4,e5,oc,A⟩:=ya P.sx J h0 U t;exact PQ ts _ (n+1) (Nk P A) J a b
end
theorem Kc (d0:D):(ja d0).l.length=d0.l.length:=by
 unfold ja;split
 ·rename_i h; rw [h]; rfl
 ·rw [bM,al7]
theorem Gn {es:D} (hl:es.l.length<=50000): ∀(j i:Nat),i+j=es.l.length->∃z:Int,L 25301 [enc es,(es.l.length:Int),(i:Int)]=some [z]/\(z<0/\(∀e∈es.l.drop i,(e.hd 1).n≠27)\/0<=z/\∃e∈es.l.drop i,(e.hd 1).n=27)
 |0,i,hi=>by
  have c1: ¬(i:Int)<(es.l.length:Int):=J
  refine⟨-1,?_,.inl ⟨ae,fun e he=>?_⟩⟩
  ·rw [bO,AM];simp only [zQ,zz,c1,if_true,if_false,bN]
  ·rw [amC J] at he;simp at he
 |j+1,i,hi=>by
  have eu:i<es.l.length:=J
  have c1:(i:Int)<(es.l.length:Int):=J
  have c2: ¬(i:Int)<0:=J
  have w:=bQ (n:=i) J;rw [bp eu];by_cases h27:((es.l[i]).hd 1).n=27
  ·refine⟨(i:Int),?_,.inr ⟨J,_,List.mem_cons_self ..,h27⟩⟩;rw [bO,AM];simp only [zQ,zz,c1,c2,w,cA eu,h27,if_true,if_false,bN]
  ·obtain⟨z,hz,hq⟩:=Gn hl j (i+1) J;refine⟨z,?_,?_⟩
   ·rw [bO,AM];simp only [zQ,zz,c1,c2,w,cA eu,h27,if_true,if_false,bE];exact hz
   ·rcases hq with ⟨a,b⟩|⟨a,e,b,c⟩
    ·exact .inl ⟨a,fun e he=>by rcases aw.1 he with rfl|he; exact h27; exact b e he⟩
    ·exact .inr ⟨a,e,am9 _ b,c⟩
theorem aeB {es:D} (hl:es.l.length<=50000): ∃b:Int,L 25200 [enc es]=some [b]/\(b=0/\(∀e∈es.l,(e.hd 1).n≠27)\/b=1/\∃e∈es.l,(e.hd 1).n=27):=by
 obtain⟨z,hL,hq⟩:=Gn hl es.l.length 0 J;rw [amh] at hq
 have Z:L 25300 [enc es]=some [z]:=by rw [bO,OS];simp only [MU,zz,bE];exact hL
 rcases hq with ⟨hz,h⟩|⟨hz,h⟩
 ·refine⟨0,?_,.inl ⟨rfl,h⟩⟩;rw [bO,Ep];simp only [CR,zz,Z,hz,bN]
 ·have Fg: ¬z<0:=J
  refine⟨1,?_,.inr ⟨rfl,h⟩⟩;rw [bO,Ep];simp only [CR,zz,Z,Fg,bN]
section
variable {d0 d1:D} (h0:Wd (.sl 3) d0) (U:Wd (.sl 4) d1) (hC:L 450 [enc d0,enc d1]=some [0])
include h0 U hC
theorem IL (l:List D) (hl:l.length<=1000):(jm d0 d1 2 l≠0↔∃e∈(rA d0 d1 l).l,(e.hd 1).n=27)/\(jm d0 d1 3 l≠0↔aaT d0 d1 (rA d0 d1 l).l)/\∀k:Int,k≠1->k≠2->k≠3->jm d0 d1 k l=0:=by
 obtain⟨hP,hQ⟩:=NB h0 U hC (dL l) (by rw [bM]; exact hl);rw [bM] at hQ hP;unfold ES at hP;generalize rA d0 d1 l=Q at hQ hP ⊢
 have jD:(if Q.l= [] then D.i 1 else dL Q.l).l=Q.l:=by
  split
  ·rename_i h; rw [h]; rfl
  ·rw [bM]
 have hel:Q.l.length<=1000:=by have:=hQ.ll; omega
 generalize (if Q.l= [] then D.i 1 else dL Q.l)=es at hP jD;obtain⟨b2,hM,hMb⟩:=aeB (es:=es) (by rw [jD]; omega);obtain⟨r,hR,hRb⟩:=Ks hC (by have:=(P7 h0 U hC).2.2.1; omega) es (by rw [jD]; omega);rw [jD] at hMb hRb;refine⟨?_,?_,fun k k1 k2 k3=>?_⟩
 ·rcases hMb with ⟨rfl,h⟩|⟨rfl,h⟩
  ·have:jm d0 d1 2 l=0:=by
    unfold jm;rw [bO,xJ];simp only [mU,zz,hP,hM,bN,Int.reduceEq]
   exact⟨fun q=>absurd this q,fun⟨e,he,q⟩=>absurd q (h e he)⟩
  ·have:jm d0 d1 2 l=1:=by
    unfold jm;rw [bO,xJ];simp only [mU,zz,hP,hM,bN,Int.reduceEq,bG]
   exact⟨fun _=>h,fun _=>by rw [this]; decide⟩
 ·by_cases z:(0:Int)<(r.l.length:Int)
  ·have:jm d0 d1 3 l=1:=by
    unfold jm;rw [bO,xJ];simp only [mU,zz,hP,hR,z,bN,Int.reduceEq]
   exact⟨fun _=>hRb.1 J,fun _=>by rw [this]; decide⟩
  ·have:jm d0 d1 3 l=0:=by
    unfold jm;rw [bO,xJ];simp only [mU,zz,hP,hR,z,bN,Int.reduceEq]
   exact⟨fun q=>absurd this q,fun q=>absurd (hRb.2 q) J⟩
 ·unfold jm;rw [bO,xJ];simp only [mU,zz,hP,k1,k2,k3,bN]
theorem O! (l:List D) (hl:l.length<=1000): ∀e∈(rA d0 d1 l).l,JX d0 d1 e:=by
 obtain⟨_,P,_⟩:=P7 h0 U hC;unfold rA;split
 ·exact PQ h0 U _ _ 0 P (by rw [al7]; omega) (Kc d0) (fun e he=>by simp [uu] at he)
 ·exact fun e he=>by simp [uu] at he
theorem Yk (l:List D) (hl:l.length<=1000) (m:Nat):(jm d0 d1 2 (l.take m)≠0->jm d0 d1 2 l≠0)/\(jm d0 d1 3 (l.take m)≠0->jm d0 d1 3 l≠0):=by
 have ht:(l.take m).length<=1000:=by rw [aZ]; omega
 obtain⟨a1,a2,_⟩:=IL h0 U hC l hl;obtain⟨b1,b2,_⟩:=IL h0 U hC (l.take m) ht;obtain⟨n,hn⟩:=Ny d0 d1 l m;refine⟨fun h=>?_,fun h=>?_⟩
 ·obtain⟨e,he,q⟩:=b1.1 h;rw [hn] at he;exact a1.2 ⟨e,al9 he,q⟩
 ·have:=b2.1 h;rw [hn] at this;exact a2.2 (Te (O! h0 U hC l hl) n this)
end
theorem ajI {ρ:Nat->Int} {a b:V}:(V.rem a b).den ρ=Int.tmod (a.den ρ) (b.den ρ):=rfl
theorem Nj {d0 d1:D} (h0:Wd (.sl 3) d0) (U:Wd (.sl 4) d1): ∃H:Int->List D->Int,(∀(k:Int) (q:D),q.l.length<=1000->L 23650 [enc d0,enc d1,enc q,k]=some [H k q.l])/\
 (∀(l:List D) (m:Nat),l.length<=1000->(H 2 (l.take m)≠0->H 2 l≠0)/\(H 3 (l.take m)≠0->H 3 l≠0))/\
 (∀(k:Int) (q:D),q.l.length<=1000->Sl q->k≠1->k≠2->k≠3->H k q.l=0/\L 23700 [enc d0,enc d1,enc q,k]=some [enc q]):=by
 obtain⟨ys,hC,c,rfl,_,oL⟩:=rR h0 U;by_cases hc:c=0
 ·subst hc;refine⟨jm d0 d1,fun k q hq=>Ym h0 U hC k q hq,fun l m hl=>Yk h0 U hC l hl m,fun k q hq hs k1 k2 k3=>?_⟩;have hz:=(IL h0 U hC q.l hq).2.2 k k1 k2 k3;exact⟨hz,Nr h0 U hC k q hq hs (.inl hz)⟩
 ·exact⟨fun _ _=>0,fun k q _=>Yl hC hc k q,fun l m _=> ⟨fun h=>h,fun h=>h⟩,fun k q hq hs _ _ _=> ⟨rfl,S0 hC hc k q hq hs⟩⟩
theorem Nl {d0 d1 q:D} {x0 x1:Int} (h0:Wd (.sl 3) d0) (U:Wd (.sl 4) d1) (hq:Wd (.sl 0) q) (k0:fX .u8 x0) (k1:fX .u8 x1):L 23800 [enc d0,enc d1,enc q,x0,x1]=some [1]:=by
 obtain⟨b,hG,Y⟩:=TS h0 U;obtain⟨H,hH,hM,hK⟩:=Nj h0 U;rw [bO,Zk];rcases Y with rfl|rfl
 ·have main: ∀P R:D,P.l.length<=40->Sl P->(∃m,R.l=P.l.take m)->L 23801 [enc P,enc R,0,enc d0,enc d1,x0,x1]=some [1]:=by
   intro P R hP hs hR;obtain⟨m,hR⟩:=hR;have hRl:R.l.length<=1000:=by rw [hR,aZ]; omega
   have hS:=TB (a:=P) (b:=P) rfl J;have w0:IntKind.i64.wrap (0+1)=1:=ae
   have w1:IntKind.i64.wrap (1+1)=2:=ae
   have last:L 23801 [enc P,enc R,2,enc d0,enc d1,x0,x1]=some [1]:=by
    rw [bO,Jn]
    have no: ∀k:Int,k≠1->k≠2->k≠3->L 23650 [enc d0,enc d1,enc P,k]=some [0]/\L 23700 [enc d0,enc d1,enc P,k]=some [enc P]:=fun k a b c=>by obtain⟨u,v⟩:=hK k P J hs a b c;have:=hH k P J;rw [u] at this;exact⟨this,v⟩
    by_cases c1:x1<1
    ·obtain⟨u,v⟩:=no x1 J J J;simp only [tX,zz,c1,u,v,hS,bG,bN,Int.reduceLT,Int.reduceEq]
    ·by_cases c3:3<x1
     ·obtain⟨u,v⟩:=no x1 J J J;simp only [tX,zz,c1,c3,u,v,hS,bG,bN,Int.reduceLT,Int.reduceEq]
     ·obtain⟨u,v⟩:=no 0 J J J;simp only [tX,zz,c1,c3,u,v,hS,bG,bN,Int.reduceLT,Int.reduceEq]
   obtain⟨m2,m3⟩:=hM P.l m J;rw [<- hR] at m2 m3
   have mid:L 23801 [enc P,enc R,1,enc d0,enc d1,x0,x1]=some [1]:=by
    have a:=hH 3 R hRl;have b:=hH 3 P J;rw [bO,Jn];by_cases z:H 3 R.l=0
    ·simp only [tX,zz,a,z,w1,bE,Int.reduceLT,Int.reduceEq];exact last
    ·have z2:=m3 z;simp only [tX,zz,a,b,z,z2,w1,bE,Int.reduceLT,Int.reduceEq];exact last
   have a:=hH 2 R hRl;have b:=hH 2 P J;rw [bO,Jn];by_cases z:H 2 R.l=0
   ·simp only [tX,zz,a,z,w0,bE,Int.reduceLT,Int.reduceEq];exact mid
   ·have z2:=m2 z;simp only [tX,zz,a,b,z,z2,w0,bE,Int.reduceLT,Int.reduceEq];exact mid
  have u0:0<=x0/\x0<=255:=by unfold fX at k0; exact k0
  have wx:IntKind.i64.wrap x0=x0:=lh J J
  have top: ∀n:Nat,n<=40->∃m:Nat,Int.tmod x0 ((n+1:Nat):Int)=(m:Int)/\m<=n:=by intro n hn;obtain⟨y,rfl⟩ : ∃y:Nat,x0=(y:Int):=⟨x0.toNat,J⟩;refine⟨y % (n+1),by rw [an8 J]; rfl,?_⟩;have:=Nat.mod_lt y (show 0<n+1 by omega);omega
  by_cases h40:40<q.l.length
  ·have c40:(40:Int)<(q.l.length:Int):=J
   have i40:(40:Int).toNat=40:=rfl;have hl:(q.l.take 40).length=40:=by rw [aZ]; omega
   have w:=bQ (n:=40) J;obtain⟨m,hm,Y!⟩:=top 40 J;have c1: ¬((40+1:Nat):Int)=0:=J
   have c2: ¬((40:Nat):Int)<(m:Int):=J
   have c3: ¬(m:Int)<0:=J
   simp only [HN,zz,hG,c40,i40,fb,hl,wx,w,ajI,hm,c1,c2,c3,bj,if_true,if_false,bE];exact main _ _ (by rw [fb,hl]; omega) H4 ⟨m,by rw [fb,fb]⟩
  ·have c40: ¬(40:Int)<(q.l.length:Int):=J
   have cx: ¬(q.l.length:Int)<(q.l.length:Int):=J
   have cl:q.l.take q.l.length=q.l:=amx;have w:=bQ (n:=q.l.length) J;obtain⟨m,hm,Y!⟩:=top q.l.length J;have c1: ¬((q.l.length+1:Nat):Int)=0:=J
   have c2: ¬(q.l.length:Int)<(m:Int):=J
   have c3: ¬(m:Int)<0:=J
   simp only [HN,zz,hG,c40,cx,cl,bj,fb,wx,w,ajI,hm,c1,c2,c3,if_true,if_false,bE];exact main _ _ (by rw [fb]; omega) H4 ⟨m,by rw [fb,fb]⟩
 ·simp only [HN,zz,hG,bG,bN]
end Go.As.Try
end
section
namespace Go.Proofs.YtbmkacliajebmaaGreatDoor.fnShrinkStays
open Go hiding Stat
open Go.As Go.As.Try Go.Proofs Go.RowKit Go.ChangeShapes Go.WideShapes Go.ChangeAt
set_option maxRecDepth 100000
theorem aal:rN Tryz.prog Xc 8 25=some [.sl 3,.sl 4]:=aa
theorem aak:rN Tryz.prog Xc 8 26=some [.sl 0]:=aa
theorem aaj:rN Tryz.prog Xc 8 32=some [.int .u8,.int .u8]:=aa
theorem EJ {H:Type} {enc:TypeId×Value->H} {Z_:World} {t:TypeId} {v:Value} {d:DataW H} {p:List MemPlace} {Fo:List CK} (hf:rN Tryz.prog Xc 8 t=some Fo) (h:DataW.Trod enc Tryz.prog Z_ 0 (fun _=>true) true t v d p) (hw:(d.weights Tryz.prog t).all (·<=reachBytes)=true) :
 ∃ds,Rs (Ko Z_) Z_.heap Fo ds v.cells.toList:=by
 obtain⟨fuel,hx⟩:=h;exact H7 Q? fuel t 8 Fo v.cells.toList (d,p) hf hx hw
theorem ah8:23800∈S.BW 4:=by
 have h:S.BW 4= [23800]:=aa
 rw [h];simp
theorem Z9 (H:Type) (enc:TypeId×Value->H) (Z_:World) (base:Nat) (args:Array Value) (ds gs:List (DataW H)) (before:List MemPlace)
 (Fh: ∀(j:Nat) t v,Tryz.f4.params[j]?=some t->args[j]?=some v->Value.okWide Tryz.prog Z_ .any base t v)
 (hW:DataW.Whole enc Tryz.prog Tryz.f4.params.toList Rows.shrinkStaysSpec.vars false Z_ args.toList ds gs before)
 (gX:(DataW.weightsEach Tryz.prog (Tryz.f4.params.toList++ []) (ds++gs)).all (·<=reachBytes)=true) (xy:Z_.ShapedOpen Tryz.prog) :
 Calls Tryz.prog 4 args Z_ fun e W'=> ∃v,e= .returned v/\Rows.shrinkStaysSpec.post enc Tryz.prog Tryz.f4 false true false false Z_ args v W':=by
 have hW':=hW;obtain⟨p,q,hA0,hV,rfl,hfz,Bv⟩:=hW;have hA:DataW.TrodAll enc Tryz.prog Z_ 0 (fun _=>true) true Tryz.f4.params.toList args.toList ds p:=hA0;rw [Tryz.params4] at hA Fh gX;obtain⟨v0,vs0,d0,ds0,p0,q0,ab5,rfl,rfl,h0,r0⟩:=trodAll_cons hA;obtain⟨v1,Vl,d1,ds1,p1,q1,rfl,rfl,rfl,U,r1⟩:=trodAll_cons r0;obtain⟨v2,vs2,d2,ds2,p2,q2,rfl,rfl,rfl,Z,r2⟩:=trodAll_cons r1;obtain⟨rfl,rfl,rfl⟩:=trodAll_nil r2;obtain rfl:args= #[v0,v1,v2]:=by cases args; simp_all
 obtain⟨rfl,rfl⟩:=trodVars_none hV;clear hA0;simp only [amm] at hW';have fe: ∀x∈p0++(p1++p2),x.block<Z_.heap.size:=fun x hx=>by simpa using hW'.lt x (by simpa using hx)
 have akQ: ∀x∈p0,x.block<Z_.heap.size:=fun x hx=>fe x (List.mem_append_left _ hx);have akP: ∀x∈p1,x.block<Z_.heap.size:=fun x hx=>fe x (anY _ (List.mem_append_left _ hx));have akO: ∀x∈p2,x.block<Z_.heap.size:=fun x hx=>fe x (anY _ (anY _ hx))
 have aeR:(d0.weights Tryz.prog 25).all (·<=reachBytes)=true/\(d1.weights Tryz.prog 26).all (·<=reachBytes)=true/\(d2.weights Tryz.prog 32).all (·<=reachBytes)=true:=by have:(DataW.weightsEach Tryz.prog [25,26,32] [d0,d1,d2]).all (·<=reachBytes)=true:=gX;simp only [DataW.weightsEach,anq,an] at this;exact⟨this.1,this.2.1,this.2.2.1⟩
 obtain⟨es0,R0⟩:=EJ aal h0 aeR.1;obtain⟨es1,R1⟩:=EJ aak U aeR.2.1;obtain⟨es2,R2⟩:=EJ aaj Z aeR.2.2;obtain⟨cs0,rfl,_⟩:=okWide_struct Tryz.underlying25 (Fh 0 25 v0 rfl rfl);have e0:(Value.agg cs0).cells.toList=cs0.toList:=rfl;obtain⟨ad1,iz,aaJ,rfl⟩:=okWide_slice Tryz.underlying26 (Fh 1 26 v1 rfl rfl);have e1:(Value.slice ad1 iz aaJ).cells.toList= [.slice ad1 iz aaJ]:=rfl;obtain⟨cs2,rfl,_⟩:=Ik Tryz.underlying32 (Fh 2 32 v2 rfl rfl);have e2:(Value.agg cs2).cells.toList=cs2.toList:=rfl;rw [e0] at R0;rw [e1] at R1;rw [e2] at R2
 match es0,ak7:cs0.toList,R0 with
 |[x0,x1],[u0,u1],.cons r0_ w0 (.cons r1_ w1 .nil)=>
  obtain rfl:cs0= #[u0,u1]:=by rw [<- Array.toArray_toList (xs:=cs0),ak7]
  match es1,R1 with
  |[x2],.cons r2_ w2 .nil=>
   match es2,ak6:cs2.toList,R2 with
   |[x3,x4],[u3,u4],.cons r3_ w3 (.cons r4_ w4 .nil)=>
    obtain rfl:cs2= #[u3,u4]:=by rw [<- Array.toArray_toList (xs:=cs2),ak6]
    obtain⟨n3,rfl,h3_⟩:=w3.i;have q3:rY (Ko Z_) Z_.heap (.int .u8) n3 (u3):=by cases r3_; rfl
    obtain⟨n4,rfl,h4_⟩:=w4.i;have q4:rY (Ko Z_) Z_.heap (.int .u8) n4 (u4):=by cases r4_; rfl
    have hL:=(Nl w0 w1 w2 h3_ h4_);refine (b? (g:=4) (j:=23800) (e:=(aj2 aa5 83).ent) ah8 aa rfl rfl hL xy (vals:=[.agg [u0,u1].toArray,.slice ad1 iz aaJ,.agg [u3,u4].toArray]) (fl:=[u0,u1,.slice ad1 iz aaJ,u3,u4]) (.agg _ [u0,u1] rfl (.one _ _ (.agg _ [u3,u4] rfl .nil))) ⟨_,_,_,_,rfl,rfl,EM r0_,_,_,_,_,rfl,rfl,EM r1_,_,_,_,_,rfl,rfl,EM r2_,_,_,_,_,rfl,rfl,q3,_,_,_,_,rfl,rfl,q4,rfl,rfl⟩).mono fun e W' ⟨he,Y⟩=>?_;subst he;exact⟨_,rfl,⟨_,_,_,[],_,[],hW',trodAll_mk1 (shut_bool Tryz.underlying4 _),trodAll_mk3 (Below.trod laidOut aa (of_decide_eq_true aa) h0 Y akQ) (Below.trod laidOut aa (of_decide_eq_true aa) U Y akP) (Below.trod laidOut aa (of_decide_eq_true aa) Z Y akO),rfl,Y.frame _,fun h=>by cases h⟩⟩
abbrev Pv:Array Value:=#[.agg #[.slice none 0 0,.slice none 0 0],.slice none 0 0,.agg #[.int .u8 0,.int .u8 0]]
theorem XD (os:Os):laidMet Tryz.prog Rows.shrinkStaysRow.laid ((Aq os).forCall (fun _ _=>0) ⟨#[],Pv,[]⟩).memory:=
 laidMet_of_run' 8 aa aa
theorem reads (os:Os) {H:Type} (enc:TypeId×Value->H): ∃places,DataW.whole enc Tryz.prog ((Aq os).forCall (fun _ _=>0) ⟨#[],Pv,[]⟩).memory Tryz.f4.params.toList [] false Pv.toList 8=some ([.agg [.nil,.nil],.nil,.agg [.lit (.int .u8 0),.lit (.int .u8 0)]],[],places):=
 ⟨[],aa⟩
set_option maxHeartbeats 400000 in
theorem lifted (os:Os) (started:os.Started) (H:Type) (enc:TypeId×Value->H) (F:Stop.Interp) :
 ReturnsInHanded {} Tryz.checked os 4 .any ((OpenSpec.ofChange Rows.shrinkStaysSpec).preRow enc Tryz.prog Tryz.f4 Rows.shrinkStaysRow.domain false Rows.shrinkStaysRow.laid) (((OpenSpec.ofChange Rows.shrinkStaysSpec).at F).post enc Tryz.prog Tryz.f4 false true false false):=by
 obtain⟨places,hx⟩:=reads os enc
 refine returnsInHanded_of_row (C:=Tryz.checked) (s:=OpenSpec.ofChange Rows.shrinkStaysSpec) Try.own started aa Tryz.func4
  (witness_row_at (enc:=enc) (C:=Tryz.checked) false (Aq os) Pv rfl aa aa aa
   (OpenSpec.preRow_of_cond 8 hx aa (fun k hk=>by cases hk) aa (XD os))) ?_
 intro Z_ base args ds gs before Fh hW _ _ gX _ xy _;exact Z9 H enc Z_ base args ds gs before Fh hW gX xy
theorem gN {a b:Bool} (U:a=true) (Z:b=true):(a&&b)=true:=by rw [U,Z]; rfl
theorem closed:joinedFacts Tryz.pinned.checked.prog 4 Tryz.f4 (OpenSpec.ofChange Rows.shrinkStaysSpec).bare Rows.shrinkStaysRow=true:=(gN (gN (gN (gN (gN (gN (gN (gN (gN (gN (gN (gN (gN (gN (gN (gN (gN (gN (gN (gN (gN (gN (gN (gN (gN (gN (gN (gN (gN (gN (gN aa aa) aa) aa) aa) aa) aa) aa) aa) aa) aa) aa) aa) aa) aa) aa) aa) aa) aa) aa) aa) aa) aa) aa) aa) aa) aa) aa) aa) aa) aa) aa)
theorem said:Rows.ShrinkStaysSaid:=
 OpenClaim.holds_of_cond 4 Tryz.f4 rfl rfl rfl rfl rfl rfl rfl ⟨rfl,rfl,rfl,rfl,rfl⟩ rfl rfl rfl rfl rfl aa Tryz.func4 closed
  (of_decide_eq_true aa) (by unfold Func.isWrapper; first |(rw [ah (by decide +kernel)]; kernel_rfl)|(rw [af (by decide +kernel)]; exact⟨rfl,rfl⟩))
  (fun os started H enc _ F=>by rw [OpenClaim.pre_eq_preRow]; exact lifted os started H enc F)
theorem plain (f:FuncId) (fn:Func) (hf:Tryz.pinned.checked.prog.funcNamed "amanuensis/amanuensislaw27.ShrinkStays" = some f) (tA:Tryz.pinned.checked.prog.funcs[f]?=some fn) :
 false=Tryz.pinned.checked.prog.looks []/\∀(j:Nat) t,fn.params[j]?=some t->Tryz.pinned.checked.prog.wantsStandIn t=false:=by
 obtain rfl:f=4:=Option.some.inj ((show Tryz.prog.funcNamed "amanuensis/amanuensislaw27.ShrinkStays" = some 4 by kernel_rfl).symm.trans hf) |>.symm;obtain rfl:fn=Tryz.f4:=(Option.some.inj (Tryz.func4.symm.trans tA)).symm;refine⟨aa,fun j t ht=>?_⟩;rw [Tryz.params4] at ht;have hm:=anM ht;simp only [List.mem_toArray,aw,amn,or_false] at hm;rcases hm with rfl|rfl|rfl
 all_goals exact (by kernel_rfl:Tryz.prog.wantsStandIn _=false)
theorem card:Rows.ShrinkStaysCardSaid:=
 Claim7.holds_tied_plain_at .later [] _ _ _ _ said (fun _ h=>by cases h) aa (fun _ h=>by cases h) shrinkStays_row_tie rfl ⟨rfl,rfl⟩ aa rfl plain aa
end Go.Proofs.YtbmkacliajebmaaGreatDoor.fnShrinkStays
end

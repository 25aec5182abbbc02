/-
  Proved: the given card of the law WaitsStuck: whatever the input, the call returns true and each argument reads afterwards as it did. Conditions: those of the given row alone (its listed package-level variables start as the program's text lays them; each string, slice and map that is handed in lies within a process's addresses).
-/
import Derived.Test.YtlgfoolepdjmoaaGreatDoorAsZT6
set_option linter.unusedSectionVars false
set_option linter.unusedVariables false
set_option linter.unusedSimpArgs false
section
namespace Go.As.Try
open Go hiding Stat Spec shape
open Go.As
set_option maxRecDepth 100000
theorem z5:(∀p:Prop,(p/\False)=False)/\(∀p:Prop,(False/\p)=False)/\(¬True)=False/\(∀p:Prop,(p/\p)=p)/\(∀(a:Int) (l m:List Int),(a::l)++m=a::(l++m))/\(∀l:List Int,[]++l=l)/\((16:Int)=15)=False/\((3:Int)=0)=False/\((15:Int)=16)=False/\(∀ys:List Int,fin L (.out ys)=some ys):=
 ⟨and_false,false_and,not_true_eq_false,and_self,fun _ _ _=>rfl,fun _=>rfl,ad,ad,ad,fun _=>rfl⟩
def U0:Act->Prop
 | .res _ _ _ _ _ _ _ a _=>gq .i64 a
 |_=>True
theorem U0.ite {p:Prop} [Decidable p] {a b:Act} (ha:U0 a) (hb:U0 b):U0 (if p then a else b):=by
 grind
theorem ahz {r:D} (h:Wd (.sl 0) r) (i:Nat):gq .i64 (r.at (i:Int)).n:=by
 by_cases hi:i<r.l.length
 ·rw [bX hi];obtain⟨n,hn,hk⟩:=(h.el1 rfl _ (az hi)).i;rw [hn];exact hk
 ·rw [Bh,anF J];constructor<;>(simp only [anv,T0]; omega)
theorem akH {y:D} {M mo th op arg tries o c dn g:Int} {r v:D} (T:Tg y o c dn g r v) (hr:r.l.length<=140737488351232) (ha:gq .i64 arg):U0 (act M mo th op arg tries o c dn g r v):=by
 have hz:gq .i64 0:=⟨J,J⟩;have U:gq .i64 1:=⟨J,J⟩;have w:=@qj;have hv:=ahz T.hv 0;have Y:gq .i64 (r.l.length:Int):=⟨J,J⟩;unfold act
 repeat' refine U0.ite ?_ ?_
 all_goals first
  |trivial
  |exact hz
  |exact U
  |exact w _
  |exact T.hc
  |exact ha
  |exact T.hg
  |exact hv
  |exact Y
def pb (I:D) (x:KT) (op e2 e3 e4 oc:Int):KT:=
 if oc=0 then (if op=4 then { x with tr:=if 4611686018427387904<x.tr+1 then 4611686018427387904 else x.tr+1 } else x)
 else if x.w=0 then
  { a:=if (I.hd 0).n=1/\(I.hd 1).n=16/\¬(e2=16/\e4=1) then (I.hd 4).n else x.a+1,lc:=if (I.hd 0).n=1/\¬(I.hd 3).n<0 then dL (fC x.lc.l (I.hd 3).n (.i e4)) else x.lc,w:=if oc=3 then (if e2=15 then 25 else 24) else 0,o:=if oc=3 then e3 else x.o,g:=if oc=3/\e2=15 then e4 else x.g,tr:=0 }
 else { x with w:=0,o:=0,g:=0,tr:=0 }
def evT (e1 e2 e3 e4 e5 oc:Int):List Int:=if oc=0 then [0,0,0,0,0] else [e1,e2,e3,e4,e5]
section
variable {d0 d1 s s' k:D} {t op obj arg tries e1 e2 e3 e4 e5 oc:Int} {x:KT} (C:Cd d0 d1) (ht:t<(k.l.length:Int)) (R:Rt d0 d1 t x)
 (hA:L 400 [enc d0,enc d1,enc s,t,op,obj,arg,tries]=some [enc s',e1,e2,e3,e4,e5,oc]) (h0:oc=0->s'=s) (hx:x.w=0->x.a<(Nc d1 t:Int))
include C ht R hA h0 hx
set_option maxHeartbeats 4000000 in
theorem VS:L 14500 [enc d0,enc d1,t,op,obj,arg,tries,enc s,enc k,x.a,enc x.lc,x.w,x.o,x.g,x.tr]=some (0::enc d0::enc d1::t::op::obj::arg::tries::enc s::enc k::x.a::enc x.lc::x.w::x.o::x.g::x.tr::(evT e1 e2 e3 e4 e5 oc++ [oc,enc s',(pb (Ins d1 t x) x op e2 e3 e4 oc).a,enc (pb (Ins d1 t x) x op e2 e3 e4 oc).lc,(pb (Ins d1 t x) x op e2 e3 e4 oc).w,(pb (Ins d1 t x) x op e2 e3 e4 oc).o,(pb (Ins d1 t x) x op e2 e3 e4 oc).g,(pb (Ins d1 t x) x op e2 e3 e4 oc).tr])):=by
 have c1: ¬t<0:=by have:=R.t0; omega
 have c2:=R.t1;have c3: ¬x.a<0:=by have:=R.ok.1; omega
 have q0:=R.ok.2.2.2.1;have q1:=R.ok.2.2.2.2.1;have wt:IntKind.i64.wrap (x.tr+1)=x.tr+1:=mj J J;rw [bL,ZN];unfold pb evT;by_cases o0:oc=0
 ·have hs:=h0 o0;subst hs;subst o0;by_cases p4:op=4
  ·subst p4;by_cases pt:4611686018427387904<x.tr+1
   ·simp only [fc,zz,hA,c1,ht,wt,pt,bR,if_true,eq_self,aR,ay]
   ·simp only [fc,zz,hA,c1,ht,wt,pt,bR,if_true,eq_self,if_false,aR,ay]
  ·simp only [fc,zz,hA,c1,ht,p4,bR,if_true,if_false,aR,ay]
 ·by_cases w0:x.w=0
  ·have c4:=hx w0;have F:=C.inf R c4;have ok:=F.ok;have E_:(x.lc.l.length:Int)=(((d1.at t).hd 1).l.length:Int):=R.ok.2.2.1;have hnc:((d1.at t).hd 2).l.length<=140737488351232:=(C.code R.t0 R.t1).len;unfold Nc at c4;have hw:IntKind.i64.wrap (x.a+1)=x.a+1:=mj J J;unfold OkI Ins at ok;unfold Ins;by_cases n1:((((d1.at t).hd 2).at x.a).hd 0).n=1
   ·have u6:((((d1.at t).hd 2).at x.a).hd 3).n= -1\/0<=((((d1.at t).hd 2).at x.a).hd 3).n/\((((d1.at t).hd 2).at x.a).hd 3).n<(x.lc.l.length:Int):=by
     grind
    by_cases i0:((((d1.at t).hd 2).at x.a).hd 3).n<0
    ·by_cases tN:((((d1.at t).hd 2).at x.a).hd 1).n=16
     ·by_cases BB:e2=16
      ·by_cases q4:e4=1
       ·by_cases q3:oc=3
        ·simp only [fc,zz,hA,c1,ht,c2,c3,c4,o0,w0,hw,n1,i0,tN,BB,q4,q3,z5]
        ·simp only [fc,zz,hA,c1,ht,c2,c3,c4,o0,w0,hw,n1,i0,tN,BB,q4,q3,z5]
       ·by_cases q3:oc=3
        ·simp only [fc,zz,hA,c1,ht,c2,c3,c4,o0,w0,hw,n1,i0,tN,BB,q4,q3,z5]
        ·simp only [fc,zz,hA,c1,ht,c2,c3,c4,o0,w0,hw,n1,i0,tN,BB,q4,q3,z5]
      ·by_cases sI:e2=15
       ·by_cases q3:oc=3
        ·simp only [fc,zz,hA,c1,ht,c2,c3,c4,o0,w0,hw,n1,i0,tN,BB,sI,q3,z5]
        ·simp only [fc,zz,hA,c1,ht,c2,c3,c4,o0,w0,hw,n1,i0,tN,BB,sI,q3,z5]
       ·by_cases q3:oc=3
        ·simp only [fc,zz,hA,c1,ht,c2,c3,c4,o0,w0,hw,n1,i0,tN,BB,sI,q3,z5]
        ·simp only [fc,zz,hA,c1,ht,c2,c3,c4,o0,w0,hw,n1,i0,tN,BB,sI,q3,z5]
     ·by_cases sI:e2=15
      ·by_cases q3:oc=3
       ·simp only [fc,zz,hA,c1,ht,c2,c3,c4,o0,w0,hw,n1,i0,tN,sI,q3,z5]
       ·simp only [fc,zz,hA,c1,ht,c2,c3,c4,o0,w0,hw,n1,i0,tN,sI,q3,z5]
      ·by_cases q3:oc=3
       ·simp only [fc,zz,hA,c1,ht,c2,c3,c4,o0,w0,hw,n1,i0,tN,sI,q3,z5]
       ·simp only [fc,zz,hA,c1,ht,c2,c3,c4,o0,w0,hw,n1,i0,tN,sI,q3,z5]
    ·have i1:((((d1.at t).hd 2).at x.a).hd 3).n<(x.lc.l.length:Int):=J
     by_cases tN:((((d1.at t).hd 2).at x.a).hd 1).n=16
     ·by_cases BB:e2=16
      ·by_cases q4:e4=1
       ·by_cases q3:oc=3
        ·simp only [fc,zz,hA,c1,ht,c2,c3,c4,o0,w0,hw,n1,i0,i1,tN,BB,q4,q3,z5]
        ·simp only [fc,zz,hA,c1,ht,c2,c3,c4,o0,w0,hw,n1,i0,i1,tN,BB,q4,q3,z5]
       ·by_cases q3:oc=3
        ·simp only [fc,zz,hA,c1,ht,c2,c3,c4,o0,w0,hw,n1,i0,i1,tN,BB,q4,q3,z5]
        ·simp only [fc,zz,hA,c1,ht,c2,c3,c4,o0,w0,hw,n1,i0,i1,tN,BB,q4,q3,z5]
      ·by_cases sI:e2=15
       ·by_cases q3:oc=3
        ·simp only [fc,zz,hA,c1,ht,c2,c3,c4,o0,w0,hw,n1,i0,i1,tN,BB,sI,q3,z5]
        ·simp only [fc,zz,hA,c1,ht,c2,c3,c4,o0,w0,hw,n1,i0,i1,tN,BB,sI,q3,z5]
       ·by_cases q3:oc=3
        ·simp only [fc,zz,hA,c1,ht,c2,c3,c4,o0,w0,hw,n1,i0,i1,tN,BB,sI,q3,z5]
        ·simp only [fc,zz,hA,c1,ht,c2,c3,c4,o0,w0,hw,n1,i0,i1,tN,BB,sI,q3,z5]
     ·by_cases sI:e2=15
      ·by_cases q3:oc=3
       ·simp only [fc,zz,hA,c1,ht,c2,c3,c4,o0,w0,hw,n1,i0,i1,tN,sI,q3,z5]
       ·simp only [fc,zz,hA,c1,ht,c2,c3,c4,o0,w0,hw,n1,i0,i1,tN,sI,q3,z5]
      ·by_cases q3:oc=3
       ·simp only [fc,zz,hA,c1,ht,c2,c3,c4,o0,w0,hw,n1,i0,i1,tN,sI,q3,z5]
       ·simp only [fc,zz,hA,c1,ht,c2,c3,c4,o0,w0,hw,n1,i0,i1,tN,sI,q3,z5]
   ·by_cases sI:e2=15
    ·by_cases q3:oc=3
     ·simp only [fc,zz,hA,c1,ht,c2,c3,c4,o0,w0,hw,n1,sI,q3,z5]
     ·simp only [fc,zz,hA,c1,ht,c2,c3,c4,o0,w0,hw,n1,sI,q3,z5]
    ·by_cases q3:oc=3
     ·simp only [fc,zz,hA,c1,ht,c2,c3,c4,o0,w0,hw,n1,sI,q3,z5]
     ·simp only [fc,zz,hA,c1,ht,c2,c3,c4,o0,w0,hw,n1,sI,q3,z5]
  ·simp only [fc,zz,hA,c1,ht,o0,w0,bR,if_true,if_false,aR,ay]
end
section
variable {d0 d1 s s' k:D} {t op obj arg tries e1 e2 e3 e4 e5 oc:Int} {x:KT} (C:Cd d0 d1) (ht:t<(k.l.length:Int)) (R:Rt d0 d1 t x)
 (hA:L 400 [enc d0,enc d1,enc s,t,op,obj,arg,tries]=some [enc s',e1,e2,e3,e4,e5,oc]) (h0:oc=0->s'=s) (hx:x.w=0->x.a<(Nc d1 t:Int)) (hz:x.lc.l.length=0)
include C ht R hA h0 hx hz
set_option maxHeartbeats 4000000 in
theorem VQ:L 14550 [enc d0,enc d1,t,op,obj,arg,tries,enc s,enc k,x.a,enc x.lc,x.w,x.o,x.g,x.tr]=some (0::enc d0::enc d1::t::op::obj::arg::tries::enc s::enc k::x.a::enc x.lc::x.w::x.o::x.g::x.tr::(evT e1 e2 e3 e4 e5 oc++ [oc,enc s',(pb (Ins d1 t x) x op e2 e3 e4 oc).a,(pb (Ins d1 t x) x op e2 e3 e4 oc).w,(pb (Ins d1 t x) x op e2 e3 e4 oc).o,(pb (Ins d1 t x) x op e2 e3 e4 oc).g,(pb (Ins d1 t x) x op e2 e3 e4 oc).tr]))/\(pb (Ins d1 t x) x op e2 e3 e4 oc).lc=x.lc:=by
 have c1: ¬t<0:=by have:=R.t0; omega
 have c2:=R.t1;have c3: ¬x.a<0:=by have:=R.ok.1; omega
 have q0:=R.ok.2.2.2.1;have q1:=R.ok.2.2.2.2.1;have wt:IntKind.i64.wrap (x.tr+1)=x.tr+1:=mj J J;rw [bL,ZK];unfold pb evT;by_cases o0:oc=0
 ·have hs:=h0 o0;subst hs;subst o0;by_cases p4:op=4
  ·subst p4;by_cases pt:4611686018427387904<x.tr+1
   ·simp only [iJ,zz,hA,c1,ht,wt,pt,bR,if_true,eq_self,aR,ay]<;>exact⟨rfl,rfl⟩
   ·simp only [iJ,zz,hA,c1,ht,wt,pt,bR,if_true,eq_self,if_false,aR,ay]<;>exact⟨rfl,rfl⟩
  ·simp only [iJ,zz,hA,c1,ht,p4,bR,if_true,if_false,aR,ay]<;>exact⟨rfl,rfl⟩
 ·by_cases w0:x.w=0
  ·have c4:=hx w0;have F:=C.inf R c4;have ok:=F.ok;have E_:(x.lc.l.length:Int)=(((d1.at t).hd 1).l.length:Int):=R.ok.2.2.1;have hnc:((d1.at t).hd 2).l.length<=140737488351232:=(C.code R.t0 R.t1).len;unfold Nc at c4;have hw:IntKind.i64.wrap (x.a+1)=x.a+1:=mj J J;unfold OkI Ins at ok;unfold Ins;by_cases n1:((((d1.at t).hd 2).at x.a).hd 0).n=1
   ·have u6:((((d1.at t).hd 2).at x.a).hd 3).n= -1\/0<=((((d1.at t).hd 2).at x.a).hd 3).n/\((((d1.at t).hd 2).at x.a).hd 3).n<(x.lc.l.length:Int):=by
     grind
    by_cases i0:((((d1.at t).hd 2).at x.a).hd 3).n<0
    ·by_cases tN:((((d1.at t).hd 2).at x.a).hd 1).n=16
     ·by_cases BB:e2=16
      ·by_cases q4:e4=1
       ·by_cases q3:oc=3
        ·simp only [iJ,zz,hA,c1,ht,c2,c3,c4,o0,w0,hw,n1,i0,tN,BB,q4,q3,z5]<;>exact⟨rfl,rfl⟩
        ·simp only [iJ,zz,hA,c1,ht,c2,c3,c4,o0,w0,hw,n1,i0,tN,BB,q4,q3,z5]<;>exact⟨rfl,rfl⟩
       ·by_cases q3:oc=3
        ·simp only [iJ,zz,hA,c1,ht,c2,c3,c4,o0,w0,hw,n1,i0,tN,BB,q4,q3,z5]<;>exact⟨rfl,rfl⟩
        ·simp only [iJ,zz,hA,c1,ht,c2,c3,c4,o0,w0,hw,n1,i0,tN,BB,q4,q3,z5]<;>exact⟨rfl,rfl⟩
      ·by_cases sI:e2=15
       ·by_cases q3:oc=3
        ·simp only [iJ,zz,hA,c1,ht,c2,c3,c4,o0,w0,hw,n1,i0,tN,BB,sI,q3,z5]<;>exact⟨rfl,rfl⟩
        ·simp only [iJ,zz,hA,c1,ht,c2,c3,c4,o0,w0,hw,n1,i0,tN,BB,sI,q3,z5]<;>exact⟨rfl,rfl⟩
       ·by_cases q3:oc=3
        ·simp only [iJ,zz,hA,c1,ht,c2,c3,c4,o0,w0,hw,n1,i0,tN,BB,sI,q3,z5]<;>exact⟨rfl,rfl⟩
        ·simp only [iJ,zz,hA,c1,ht,c2,c3,c4,o0,w0,hw,n1,i0,tN,BB,sI,q3,z5]<;>exact⟨rfl,rfl⟩
     ·by_cases sI:e2=15
      ·by_cases q3:oc=3
       ·simp only [iJ,zz,hA,c1,ht,c2,c3,c4,o0,w0,hw,n1,i0,tN,sI,q3,z5]<;>exact⟨rfl,rfl⟩
       ·simp only [iJ,zz,hA,c1,ht,c2,c3,c4,o0,w0,hw,n1,i0,tN,sI,q3,z5]<;>exact⟨rfl,rfl⟩
      ·by_cases q3:oc=3
       ·simp only [iJ,zz,hA,c1,ht,c2,c3,c4,o0,w0,hw,n1,i0,tN,sI,q3,z5]<;>exact⟨rfl,rfl⟩
       ·simp only [iJ,zz,hA,c1,ht,c2,c3,c4,o0,w0,hw,n1,i0,tN,sI,q3,z5]<;>exact⟨rfl,rfl⟩
    ·omega
   ·by_cases sI:e2=15
    ·by_cases q3:oc=3
     ·simp only [iJ,zz,hA,c1,ht,c2,c3,c4,o0,w0,hw,n1,sI,q3,z5]<;>exact⟨rfl,rfl⟩
     ·simp only [iJ,zz,hA,c1,ht,c2,c3,c4,o0,w0,hw,n1,sI,q3,z5]<;>exact⟨rfl,rfl⟩
    ·by_cases q3:oc=3
     ·simp only [iJ,zz,hA,c1,ht,c2,c3,c4,o0,w0,hw,n1,sI,q3,z5]<;>exact⟨rfl,rfl⟩
     ·simp only [iJ,zz,hA,c1,ht,c2,c3,c4,o0,w0,hw,n1,sI,q3,z5]<;>exact⟨rfl,rfl⟩
  ·simp only [iJ,zz,hA,c1,ht,o0,w0,bR,if_true,if_false,aR,ay]<;>exact⟨rfl,rfl⟩
end
structure Sx (s k:D) (n:Nat):Prop where
 g:Gs s n
 wk:Wd (.sl 8) k
 n2s:s≠.i 2
 n2k:k≠.i 2
structure Sw (s k:D) (n:Nat):Prop where
 g:Gs s n
 wk:Wd (.sl 8) k
theorem Sx.sw {s k:D} {n:Nat} (S:Sx s k n):Sw s k n:=⟨S.g,S.wk⟩
theorem Sw.st {s k:D} {n:Nat} (S:Sw s k n):Sk s k:=⟨S.g.wd,S.wk⟩
theorem Sx.st {s k:D} {n:Nat} (S:Sx s k n):Sk s k:=S.sw.st
instance {s k:D} {n:Nat}:CoeOut (Sx s k n) (Sk s k):=⟨Sx.st⟩
instance {s k:D} {n:Nat}:CoeOut (Sw s k n) (Sk s k):=⟨Sw.st⟩
theorem Sx.mono {s k:D} {n m:Nat} (S:Sx s k n) (h:n<=m):Sx s k m:=⟨S.g.mono h,S.wk,S.n2s,S.n2k⟩
abbrev pg (k:D) (t:Int) (x:KT):D:=dL (fC k.l t x.d)
theorem dZ (a:D) (l:List D):dL (a::l)= .p a (dL l):=rfl
theorem eQ:dL []= .i 0:=rfl
structure Fv (d0 d1 s:D) (t op obj arg tries:Int) (n:Nat) (s':D) (e1 e2 e3 e4 e5 oc:Int):Prop where
 eq:L 400 [enc d0,enc d1,enc s,t,op,obj,arg,tries]=some [enc s',e1,e2,e3,e4,e5,oc]
 no:oc=0->s'=s/\e1=0/\e2=0/\e3=0/\e4=0/\e5=0
 oc3:oc=0\/oc=2\/oc=3
 gs:Gs s' (n+1)
 len:s'.l.length=s.l.length
 n2:s≠.i 2->s'≠.i 2
 e3:gq .i64 e3
 e4:gq .i64 e4
theorem PU {d0 d1 s:D} {t op obj arg tries:Int} {n:Nat} (h0:Wd (.sl 3) d0) (U:Wd (.sl 4) d1) (G:Gs s n) (hn:n<17592186043904) (ht:gq .i64 t) (w6:gq .u8 op) (I9:gq .i64 obj) (ha:gq .i64 arg) :
 ∃s' e1 e2 e3 e4 e5 oc,Fv d0 d1 s t op obj arg tries n s' e1 e2 e3 e4 e5 oc:=by
 have hf:=G.l7 (by omega:n<17592186044415);have z:gq .i64 0:=⟨J,J⟩;by_cases A:Acc d0 d1 s t op obj
 ·obtain⟨_,o,c,dn,g,r,v,T,hL⟩:=Cx (arg:=arg) (tries:=tries) h0 U G.wd hf w6 A;rw [CF] at hL;have o0:=A.o0;have o1:=A.o1;obtain⟨i,rfl⟩ : ∃i:Nat,obj=(i:Int):=⟨obj.toNat,J⟩;have hi:i<s.l.length:=J
  have iR:=G.rows _ (az hi);have e:s.l[i]=dL [.i o,.i c,.i dn,.i g,r,v]:=by rw [<- bX hi]; exact T.is
  rw [e] at iR;have hA:=agB (M:=Mx d0 (i:Int)) (mo:=Mo d0 s (i:Int)) (op:=op) (tries:=tries) T (n:=n) iR.1 iR.2 J ht ha;have hE:=akH (M:=Mx d0 (i:Int)) (mo:=Mo d0 s (i:Int)) (th:=t) (op:=op) (tries:=tries) T (by have:=iR.1; have:r.l.length<=n:=this; omega) ha
  have hM:NoM (act (Mx d0 (i:Int)) (Mo d0 s (i:Int)) t op arg tries o c dn g r v)\/0<=Mx d0 (i:Int)/\Mx d0 (i:Int)<(s.l.length:Int):=by
   by_cases h:op=12\/op=24
   ·have:=MK h0 U G.wd hf w6 A h;exact .inr ⟨this.1,this.2.1⟩
   ·exact .inl (UO J J)
  have hg:=W? G hA o0 o1 hM;have Y:=Xx s (i:Int) (Mx d0 (i:Int)) (act (Mx d0 (i:Int)) (Mo d0 s (i:Int)) t op arg tries o c dn g r v);generalize act (Mx d0 (i:Int)) (Mo d0 s (i:Int)) t op arg tries o c dn g r v=B at *
  have hn2:s≠.i 2->NV s (i:Int) (Mx d0 (i:Int)) B≠.i 2:=fun _ he=>by rw [he] at Y;have:(D.i 2).l.length=0:=rfl;omega
  cases B with
  |jX=>exact⟨s,0,0,0,0,0,0,hL,fun _=> ⟨rfl,rfl,rfl,rfl,rfl,rfl⟩,.inl rfl,hg,rfl,fun h=>h,z,z⟩
  |yc=>exact⟨s,t,27,_,_,0,2,hL,fun h=>absurd h J,.inr (.inl rfl),hg,rfl,fun h=>h,I9,qj _⟩
  |res o' c' Kl g' r' v' m a oc=>exact⟨_,t,op,_,a,0,oc,hL,fun h=>by have:=hA.2.2.2.2.2.2.2.2.2; omega,.inr hA.2.2.2.2.2.2.2.2.2,hg,Y,hn2,I9,hE⟩
 ·exact⟨s,0,0,0,0,0,0,Nk h0 U G.wd hf w6 A,fun _=> ⟨rfl,rfl,rfl,rfl,rfl,rfl⟩,.inl rfl,G.mono (anl n),rfl,fun h=>h,z,z⟩
noncomputable abbrev stE (d0 d1 s k:D) (t:Int):Nat->Int:=cT L (low [enc d0,enc d1,enc s,enc k,t])
theorem Xc {k:D} {t:Int} {x:KT} (h:k=dL k.l) (t0:0<=t) (t1:t<(k.l.length:Int)) (hk:k.at t=x.d):pg k t x=k:=by
 obtain⟨i,rfl⟩ : ∃i:Nat,t=(i:Int):=⟨t.toNat,J⟩;have hi:i<k.l.length:=J
 rw [bX hi] at hk;unfold pg;rw [<- hk];exact eS h hi
section
variable {d0 d1 s k:D} {t:Int} (S:Sk s k)
include S
theorem It (hR:L 1550 [enc d0,enc d1,enc s,enc k,t]=some [0]):L 1850 [enc d0,enc d1,enc s,enc k,t]=some [enc s,enc k,0,0,0,0,0,0]:=by
 by_cases hr:t<0\/(k.l.length:Int)<=t
 ·rcases UL S hr with h|⟨h,he⟩|⟨h,he⟩
  ·have K:ew (stE d0 d1 s k t) mr= .out [enc s,enc k,0,0,0,0,0,0]:=by
    simp only [mr,zz,h,hR,Int.reduceEq]
   rw [bL,B3];exact congrArg (fin L) K
  ·subst he
   have K:ew (stE d0 d1 s (.i 1) t) mr= .out [enc s,enc (.i 1),0,0,0,0,0,0]:=by simp only [mr,zz,h,hR,Int.reduceEq]
   rw [bL,B3];exact congrArg (fin L) K
  ·subst he
   have K:ew (stE d0 d1 s (.i 2) t) mr= .out [enc s,enc (.i 2),0,0,0,0,0,0]:=by simp only [mr,zz,h,hR,Int.reduceEq]
   rw [bL,B3];exact congrArg (fin L) K
 ·obtain⟨i,rfl⟩ : ∃i:Nat,t=(i:Int):=⟨t.toNat,J⟩;have hi:i<k.l.length:=J
  obtain⟨a,lc,w,o,g,tr,T⟩:=gY S.wk _ (az hi);have h:=HT S hi T;have hs:pg k (i:Int) ⟨a,lc,w,o,g,tr⟩ = k:=Xc (F6 S.wk J).sh J J (by rw [bX hi,T.is]);simp only [pg,KT.d,dZ,eQ] at hs;have ha:wP lc=3\/wP lc=4:=by unfold wP; split<;>simp
  have K:ew (stE d0 d1 s k (i:Int)) mr= .out [enc s,enc k,0,0,0,0,0,0]:=by
   rcases ha with ha|ha
   ·rw [ha] at h;simp only [mr,zz,h,hR,hs,Int.reduceEq]
   ·rw [ha] at h;simp only [mr,zz,h,hR,hs,Int.reduceEq]
  rw [bL,B3];exact congrArg (fin L) K
end
structure Rs (d0 d1 s k:D) (t:Int) (x:KT):Prop where
 c:Cd d0 d1
 r:Rt d0 d1 t x
 hk:k.at t=x.d
 ht:t<(k.l.length:Int)
 yes:L 1550 [enc d0,enc d1,enc s,enc k,t]=some [1]
theorem aeU {d0 d1 s k:D} {t:Int} {n:Nat} (S:Sw s k n) (hn:n<17592186044000) (h0:Wd (.sl 3) d0) (U:Wd (.sl 4) d1):L 1550 [enc d0,enc d1,enc s,enc k,t]=some [0]\/∃x,Rs d0 d1 s k t x:=by
 obtain⟨ys,hL,b,rfl,hb⟩:=DE (k:=k) h0 U (S.g.l7 J).rows U.len t;rcases hb with ⟨rfl,_⟩|⟨rfl,t0,t1,M⟩
 ·exact .inl hL
 ·refine .inr ?_;obtain⟨hle,hO⟩:=M.2;obtain⟨i,rfl⟩ : ∃i:Nat,t=(i:Int):=⟨t.toNat,J⟩;have hi:i<k.l.length:=J
  have hd:i<d1.l.length:=J
  obtain⟨a,lc,w,o,g,tr,T⟩:=gY S.wk _ (az hi);have ok:=hO i hi;unfold OkK at ok;rw [T.is] at ok;simp only [zg,aC,T0] at ok;refine⟨⟨a,lc,w,o,g,tr⟩,(MR.code h0 U (S.g.l7 J).rows M).1,⟨J,J,?_,T.Y,T.hg⟩,by rw [bX hi,T.is],J,hL⟩;rw [bX hd];exact ok
theorem KO {d0 d1 s k:D} {t:Int} {n:Nat} (S:Sx s k n) (hn:n<17592186043904) (h0:Wd (.sl 3) d0) (U:Wd (.sl 4) d1):L 1550 [enc d0,enc d1,enc s,enc k,t]=some [0]\/∃x,Rs d0 d1 s k t x:=aeU S.sw J h0 U
section
variable {d0 d1 s k:D} {t:Int} {n:Nat} {x:KT} (S:Sk s k) (R:Rs d0 d1 s k t x)
include S R
theorem Rs.cp:L 9050 [t,enc s,enc k]=some [wP x.lc,t,enc s,enc k,x.a,enc x.lc,x.w,x.o,x.g,x.tr]:=by
 have t0:=R.r.t0;have ht:=R.ht;obtain⟨i,rfl⟩ : ∃i:Nat,t=(i:Int):=⟨t.toNat,J⟩;have hi:i<k.l.length:=J
 obtain⟨a,lc,w,o,g,tr,T⟩:=gY S.wk _ (az hi);have h:=HT S hi T;have e:=R.hk;rw [bX hi,T.is] at e;simp only [KT.d,dZ,eQ,D.p.injEq,D.i.injEq,and_true] at e;obtain⟨rfl,rfl,rfl,rfl,rfl,rfl⟩:=e;exact h
theorem Rs.self:dL (fC k.l t (.p (.i x.a) (.p x.lc (.p (.i x.w) (.p (.i x.o) (.p (.i x.g) (.p (.i x.tr) (.i 0))))))))=k:=by
 have Y:0<k.l.length:=by have:=R.r.t0; have:=R.ht; omega
 exact Xc (F6 S.wk Y).sh R.r.t0 R.ht R.hk
theorem Gg (ho:iB d1 t x=1):L 1850 [enc d0,enc d1,enc s,enc k,t]=some [enc s,enc k,0,0,0,0,0,4]:=by
 have h:=R.cp S;have hs:=R.self S;have hR:=R.yes;have hO:=yO (s:=s) R.hk R.ht R.r;rw [ho] at hO;have ha:wP x.lc=3\/wP x.lc=4:=by unfold wP; split<;>simp
 have K:ew (stE d0 d1 s k t) mr= .out [enc s,enc k,0,0,0,0,0,4]:=by
  rcases ha with ha|ha
  ·rw [ha] at h;simp only [mr,zz,h,hR,hs,hO,Int.reduceEq]
  ·rw [ha] at h;simp only [mr,zz,h,hR,hs,hO,Int.reduceEq]
 rw [bL,B3];exact congrArg (fin L) K
theorem Dv (ho:iB d1 t x=0) (hn:low (iO d1 t x) 4=0):L 1850 [enc d0,enc d1,enc s,enc k,t]=some [enc s,enc (pg k t (sN (Ins d1 t x) x)),0,0,0,0,0,1]:=by
 have h:=R.cp S;have hs:=R.self S;have hR:=R.yes;have hO:=yO (s:=s) R.hk R.ht R.r;have hN:=IM (s:=s) R.c R.hk R.ht R.r;have Lc:=X0 R.r ho hn;rw [ho] at hO
 have K:ew (stE d0 d1 s k t) mr= .out [enc s,enc (pg k t (sN (Ins d1 t x) x)),0,0,0,0,0,1]:=by
  have hw:(sN (Ins d1 t x) x).w=x.w/\(sN (Ins d1 t x) x).o=x.o/\(sN (Ins d1 t x) x).g=x.g/\(sN (Ins d1 t x) x).tr=x.tr:=by
   unfold sN
   repeat' split
   all_goals exact⟨rfl,rfl,rfl,rfl⟩
  by_cases hp:0<x.lc.l.length
  ·have ha:wP x.lc=3:=ag hp;rw [ha] at h;have Y:=XY (s:=s) R.c R.ht R.r Lc;simp only [mr,zz,h,hR,hs,hO,hN,hn,Y,pg,KT.d,dZ,eQ,hw,Int.reduceEq]
  ·have ha:wP x.lc=4:=af hp;rw [ha] at h;obtain⟨Y,hc⟩:=XX (s:=s) R.c R.ht R.r Lc J;simp only [mr,zz,h,hR,hs,hO,hN,hn,Y,pg,KT.d,dZ,eQ,hw,hc,Int.reduceEq]
 rw [bL,B3];exact congrArg (fin L) K
theorem Du {op obj arg tries e1 e2 e3 e4 e5 oc:Int} {s':D} (ho:iB d1 t x=0) (hn:iO d1 t x= [op,obj,arg,tries,1]) (A:Fv d0 d1 s t op obj arg tries n s' e1 e2 e3 e4 e5 oc) :
 L 1850 [enc d0,enc d1,enc s,enc k,t]=some [enc s',enc (pg k t (pb (Ins d1 t x) x op e2 e3 e4 oc)),e1,e2,e3,e4,e5,oc]:=by
 have h:=R.cp S;have hs:=R.self S;have hR:=R.yes;have hO:=yO (s:=s) R.hk R.ht R.r;have hN:=IM (s:=s) R.c R.hk R.ht R.r;rw [ho] at hO;rw [hn] at hN
 have hx:x.w=0->x.a<(Nc d1 t:Int):=fun w0=>by unfold iB at ho;rw [ag w0] at ho;have:=R.r.ok.2.1;unfold Nc at ho ⊢;split at ho<;>omega
 have hE:evT e1 e2 e3 e4 e5 oc= [e1,e2,e3,e4,e5]:=by
  unfold evT;split
  ·rename_i h0;obtain⟨_,rfl,rfl,rfl,rfl,rfl⟩:=A.no h0;rfl
  ·rfl
 have K:ew (stE d0 d1 s k t) mr= .out [enc s',enc (pg k t (pb (Ins d1 t x) x op e2 e3 e4 oc)),e1,e2,e3,e4,e5,oc]:=by
  by_cases hp:0<x.lc.l.length
  ·have ha:wP x.lc=3:=ag hp;rw [ha] at h;have Y:=VS R.c R.ht R.r A.eq (fun h=>(A.no h).1) hx;rw [hE] at Y;simp only [aR,ay] at Y;simp only [mr,zz,h,hR,hs,hO,hN,Y,pg,KT.d,dZ,eQ,Int.reduceEq]
  ·have ha:wP x.lc=4:=af hp;rw [ha] at h;obtain⟨Y,hc⟩:=VQ R.c R.ht R.r A.eq (fun h=>(A.no h).1) hx J;rw [hE] at Y;simp only [aR,ay] at Y;simp only [mr,zz,h,hR,hs,hO,hN,Y,pg,KT.d,dZ,eQ,hc,Int.reduceEq]
 rw [bL,B3];exact congrArg (fin L) K
end
theorem dC.jmp {j k:Nat} {xs ys:List Int} {t:T Lf} {p:List Int->Prop} (e:S.tree j=t) (h:ew (cT L (low xs)) t= .jump k ys) (q:dC k ys p):dC j xs p:=by refine dC.of ?_;rw [e,h];exact .jump q
theorem dC.ret {j:Nat} {xs ys:List Int} {t:T Lf} {p:List Int->Prop} (e:S.tree j=t) (h:ew (cT L (low xs)) t= .out ys) (q:p ys):dC j xs p:=by refine dC.of ?_;rw [e,h];exact .out q
theorem Gj (m:Nat) (hm:m<=60) (ih: ∀(k n:Int) (s kids:D),Wd .str s->Wd (.sl 6) kids->dC 150 [k,enc s,n,enc kids,(m:Int)] one) (x3 x4 x5:Int) (kids:D) (hk:Wd (.sl 6) kids) :
 ∀(j i:Nat) (x1:Int),i+j=kids.l.length->dC 151 [((m+1:Nat):Int),x1,(i:Int),x3,x4,x5,enc kids] one
 |0,i,x1,hi=>dC.ret aaT (ys:=[x1]) (ee [] [.lt Qo H5] (ou [Qb]) (by simp only [zz]<;>omega) aa (by simp only [zz])) ⟨x1,rfl⟩
 |j+1,i,x1,hi=>by
  have Y:=hk.len;have dX:i<kids.l.length:=J
  have hw:=bS (n:=i) J;obtain⟨k,s,n,ks,he,_,hs,_,LF⟩:=wi hk dX;have ha:kids.at (i:Int)=dL [.i k,s,.i n,ks]:=by rw [bX dX]; exact he
  obtain⟨ys,OB,z,rfl⟩:=ih k n s ks hs LF;have hw2:IntKind.i64.wrap (((m+1:Nat):Int)-1)=(m:Int):=by rw [mj J J]; omega
  by_cases hx:10000<x1
  ·exact dC.ret aaT (ys:=[x1]) (ee [.lt Qo H5,.lt (.lit 10000) Qb] [] (ou [Qb]) (by simp only [zz]<;>omega) aa (by simp only [zz])) ⟨x1,rfl⟩
  ·exact dC.jmp aaT (ee [.lt Qo H5,.eq (a0 150 Qfb) Q0] [.lt (.lit 10000) Qb,Kd] (ju 151 [Qf,wr (.add Qb (rr 150 Qfb 0)),UX,Qm,c9,ek,eN]) (by simp only [zz,ha,zg,hw2,OB]<;>omega) aa (by simp only [zz,ha,zg,hw2,OB,hw]<;>rfl)) (Gj m hm ih x3 x4 x5 kids hk j (i+1) (IntKind.i64.wrap (x1+z)) J)
theorem KJ: ∀(m:Nat),m<=60->∀(k n:Int) (s kids:D),Wd .str s->Wd (.sl 6) kids->dC 150 [k,enc s,n,enc kids,(m:Int)] one
 |0,_,k,n,s,kids,_,_=>dC.ret agj (ys:=[10000]) (ee [Qe8] [] (ou [.lit 10000]) (by simp only [zz]<;>omega) aa (by simp only [zz])) ⟨_,rfl⟩
 |m+1,hm,k,n,s,kids,hs,hk=>dC.jmp agj (ys:=[((m+1:Nat):Int),_,(0:Nat),k,enc s,n,enc kids]) (ee [] [Qe8] (ju 151 [c9,wr (.add Q0 (wr (.quo Qc (.lit 100)))),Qa,Qf,Qb,Qo,Qm]) (by simp only [zz]<;>omega) aa (by simp only [mu,List.map,bU,Nat.reduceLT,bM,bN]<;>rfl)) (Gj m J (KJ m J) k (enc s) n kids hk kids.l.length 0 _ J)
section
variable {d0 d1:D} (U:Wd (.sl 4) d1)
include U
theorem Ek (x1 x2 x3:Int) (FI:D) (ha:Wd (.sl 6) FI) (q: ∀x0,dC 102 [x0,x1,IntKind.i64.wrap (x2+1),x3,enc d0,enc d1] xI): ∀(j i:Nat) (x0:Int),i+j=FI.l.length->dC 103 [x0,x1,x2,x3,enc FI,(FI.l.length:Int),(i:Int),enc d0,enc d1] xI
 |0,i,x0,hi=>dC.jmp agm (ee [] [.lt eN ek] (ju 102 [Qf,Qb,UX,Qm,gr,jc]) (by simp only [zz]<;>omega) aa (by simp only [zz])) (q x0)
 |j+1,i,x0,hi=>by
  have Y:=ha.len;have dX:i<FI.l.length:=J
  have hw:=bS (n:=i) J;obtain⟨k,s,n,ks,he,_,hs,_,LF⟩:=wi ha dX;have mQ:FI.at (i:Int)=dL [.i k,s,.i n,ks]:=by rw [bX dX]; exact he
  obtain⟨ys,OB,z,rfl⟩:=KJ 60 J k n s ks hs LF;have OB:L 150 [k,enc s,n,enc ks,60]=some [z]:=OB;exact dC.jmp agm (ee [.lt eN ek,.lt eN UU,.eq (a0 150 Qe7) Q0] [Qe5] (ju 103 [wr (.add Qf (rr 150 Qe7 0)),Qb,Qo,Qm,c9,ek,wr (.add eN Q0),gr,jc]) (by simp only [zz,mQ,zg,OB]<;>omega) aa (by simp only [zz,mQ,zg,OB,hw]<;>rfl)) (Ek x1 x2 x3 FI ha q j (i+1) (IntKind.i64.wrap (x0+z)) J)
theorem Uo (i:Nat) (hi:i<d1.l.length) (q: ∀x0,dC 101 [x0,(d1.l.length:Int),((i+1:Nat):Int),enc d0,enc d1] xI): ∀(j k:Nat) (x0:Int),(∀wZ lc cd,d1.l[i]=dL [wZ,lc,cd]->k+j=cd.l.length)->dC 102 [x0,(i:Int),(k:Int),(d1.l.length:Int),enc d0,enc d1] xI:=by
 have Y:=U.len;have hw:=bS (n:=i) J;obtain⟨wZ,lc,cd,he,_,_,RJ⟩:=yo U hi;have mQ:d1.at (i:Int)=dL [wZ,lc,cd]:=by rw [bX hi]; exact he
 have BQ:=RJ.len;intro j
 induction j with
 |zero=> intro k x0 hk;have hk:=hk _ _ _ he;exact dC.jmp aaU (ee [.lt Qb (ln ek)] [PC,.lt Qo (ln (ce 2 (el ek Qb)))] (ju 101 [Qf,Qm,qb,c9,ek]) (by simp only [zz,mQ,zg]<;>omega) aa (by simp only [zz,hw]<;>rfl)) (q x0)
 |succ j ih=>
  intro k x0 hk;have Ov:=hk _ _ _ he;by_cases h6:6000<x0
  ·exact dC.jmp aaU (ee [.lt Qb (ln ek),.lt Qo (ln (ce 2 (el ek Qb))),.lt (.lit 6000) Qf] [PC] (ju 101 [Qf,Qm,qb,c9,ek]) (by simp only [zz,mQ,zg]<;>omega) aa (by simp only [zz,hw]<;>rfl)) (q x0)
  ·have Ja:k<cd.l.length:=J
   have hw2:=bS (n:=k) J;obtain⟨a,b,c,e,f,g,FI,u6,_,_,_,_,_,_,has⟩:=Oh RJ Ja;have alR:cd.at (k:Int)=dL [.i a,.i b,.i c,.i e,.i f,.i g,FI]:=by rw [bX Ja]; exact u6
   refine dC.jmp aaU (ee [.lt Qb (ln ek),.lt Qo (ln (ce 2 (el ek Qb)))] [PC,.lt (.lit 6000) Qf,Kd] (ju 103 [Qf,Qb,Qo,Qm,Qe4,ln Qe4,Qa,c9,ek]) (by simp only [zz,mQ,zg]<;>omega) aa (by simp only [zz,mQ,alR,zg]<;>rfl)) (Ek U (i:Int) (k:Int) (d1.l.length:Int) FI has (fun x0=>?_) FI.l.length 0 x0 J);rw [hw2];exact ih (k+1) x0 fun wZ lc cd he=>by have:=hk wZ lc cd he; omega
theorem Ej: ∀(j i:Nat) (x0:Int),i+j=d1.l.length->dC 101 [x0,(d1.l.length:Int),(i:Int),enc d0,enc d1] xI
 |0,i,x0,hi=>by
  by_cases h6:6000<x0
  ·exact dC.ret aaV (ee [.lt (.lit 6000) Qf] [wR] (ou [Q0]) (by simp only [zz]<;>omega) aa (by simp only [zz])) sR
  ·exact dC.ret aaV (ee [] [wR,.lt (.lit 6000) Qf] (ou [Qa]) (by simp only [zz]<;>omega) aa (by simp only [zz])) sS
 |j+1,i,x0,hi=>by
  have dX:i<d1.l.length:=J
  obtain⟨wZ,lc,cd,he,_,_,RJ⟩:=yo U dX;refine dC.jmp aaV (ys:=[_,(i:Int),((0:Nat):Int),(d1.l.length:Int),enc d0,enc d1]) (ee [wR,z?] [Kd] (ju 102 [wr (.add Qf (wr (.add (ln Qdl) (ln (ce 2 Qdk))))),Qo,Qa,Qb,Qm,c9]) (by simp only [zz]<;>omega) aa (by simp only [zz]<;>rfl)) (Uo U i dX (fun x0=>Ej j (i+1) x0 J) cd.l.length 0 _ fun n' l' c' yh=>?_);rw [he] at yh;have:=Fc yh;simp only [List.cons.injEq,and_true] at this;rw [this.2.2];omega
theorem Un:dC 100 [enc d0,enc d1] xI:=
 dC.jmp akB (ys:=[_,(d1.l.length:Int),((0:Nat):Int),enc d0,enc d1]) (ee [] [] (ju 101 [wr (.add qi Qc),Qc,Qa,Qf,Qb]) (by simp only [zz]<;>omega) aa (by simp only [zz]<;>rfl)) (Ej U d1.l.length 0 _ J)
end
def kT (x:D):D:=dL [.i 0,if (x.hd 1).l.length=0 then .i 2 else dL (List.replicate (x.hd 1).l.length (.i 0)),.i 0,.i 0,.i 0,.i 0]
def ml (d0:D):D:=if d0.l.length=0 then .i 1 else dL (d0.l.map jZ)
def mq (d1:D):D:=if d1.l.length=0 then .i 1 else dL (d1.l.map kT)
theorem Kx {l:List D} (h: ∀x∈l,∃a lc w o g tr,Kt x a lc w o g tr) (hn:l≠[]) (Y:l.length<=2199023255488):Wd (.sl 8) (dL l):=by
 have e:(l.map fun x=>x.l).map dL=l:=by
  rw [am7]
  conv=>rhs; rw [<- ano l]
  apply anH;intro x hx;obtain⟨a,lc,w,o,g,tr,T⟩:=h x hx;rw [T.is];rfl
 rw [<- e];refine .many 8 [.int .i64,.sl 0,.int .u8,.int .i64,.int .i64,.int .i64] _ rfl (by simpa using hn) (by have:pW 8=64:=rfl; rw [this,aL]; omega) (fun r hr=>?_) fun r hr j d c U Z=>?_
 ·obtain⟨x,hx,rfl⟩:=aH.1 hr;obtain⟨a,lc,w,o,g,tr,T⟩:=h x hx;rw [T.is];rfl
 ·obtain⟨x,hx,rfl⟩:=aH.1 hr;obtain⟨a,lc,w,o,g,tr,T⟩:=h x hx;rw [T.is,bJ] at U
  match j with
  |0=>simp at U Z; subst U Z; exact .int _ _ T.ha
  |1=>simp at U Z; subst U Z; exact T.Y
  |2=>simp at U Z; subst U Z; exact .int _ _ T.hw
  |3=>simp at U Z; subst U Z; exact .int _ _ T.ho
  |4=>simp at U Z; subst U Z; exact .int _ _ T.hg
  |5=>simp at U Z; subst U Z; exact .int _ _ T.ht
  |j+6=>simp at U
theorem VZ (x:D) (h:(x.hd 1).l.length<=17592186043904): ∃a lc w o g tr,Kt (kT x) a lc w o g tr:=by
 have z:gq .i64 0:=⟨J,J⟩;refine⟨0,_,0,0,0,0,rfl,z,?_,⟨J,J⟩,z,z,z⟩;split
 ·exact .uQ 0
 ·rename_i hn;refine vJ (fun y hy=> ⟨0,(List.mem_replicate.1 hy).2,z⟩) (fun he=>?_) (by simpa using h);have:=congrArg List.length he;simp only [ani,bg] at this;omega
theorem xD {d1:D} (U:Wd (.sl 4) d1): ∀x∈d1.l,(x.hd 1).l.length<=8796093021952:=by intro x hx;obtain⟨i,hi,rfl⟩:=ank hx;obtain⟨wZ,lc,cd,he,_,hlc,_⟩:=yo U hi;rw [he];simp only [zg,aC];have:=hlc.room;have h3:pW 2=16:=rfl;rw [h3] at this;omega
theorem WW {d0 d1:D} (h0:Wd (.sl 3) d0) (U:Wd (.sl 4) d1) (ok:uO d0 d1):Sx (ml d0) (mq d1) 0:=by
 refine⟨?_,?_,?_,?_⟩
 ·unfold ml;split
  ·exact⟨.nil 7,fun x hx=>by simp [D.l] at hx⟩
  ·refine⟨Ap (fun x hx=>?_) (fun he=>?_) (by rw [aL]; have:=ok.1; omega),fun x hx=>?_⟩
   ·obtain⟨y,hy,rfl⟩:=aH.1 hx;obtain⟨kd,wZ,ln,s1,s2,he,_,hnn,_⟩:=h0.decl y hy;rw [he];refine⟨-1,_,0,0,.i 1,.i 1,rfl,⟨J,J⟩,?_,.inl rfl,⟨J,J⟩,.nil 0,.nil 0⟩;split
    ·exact hnn
    ·exact⟨J,J⟩
   ·have:=congrArg List.length he;simp only [aL,bg] at this;omega
   ·rw [bJ] at hx;obtain⟨y,hy,rfl⟩:=aH.1 hx;exact⟨au 0,au 0⟩
 ·unfold mq;split
  ·exact .nil 8
  ·refine Kx (fun x hx=>?_) (fun he=>?_) (by rw [aL]; have:=ok.2.1; omega)
   ·obtain⟨y,hy,rfl⟩:=aH.1 hx;exact VZ y (by have:=xD U y hy; omega)
   ·have:=congrArg List.length he;simp only [aL,bg] at this;omega
 ·unfold ml;split
  ·intro h; cases h
  ·intro h;have:=congrArg (fun d=>d.l.length) h;simp only [bJ,aL,mI,bg] at this;omega
 ·unfold mq;split
  ·intro h; cases h
  ·intro h;have:=congrArg (fun d=>d.l.length) h;simp only [bJ,aL,mI,bg] at this;omega
theorem BJ (d1:D) (U:Wd (.sl 4) d1) (hlen:d1.l.length<=16) (s:D): ∀(k i:Nat) (acc:List D),i+k=d1.l.length->acc.length=i->
 L 1452 [enc d1,(d1.l.length:Int),(i:Int),enc s,enc (dL acc)]=some [enc s,enc (dL (acc++(d1.l.drop i).map kT)),0]
 |0,i,acc,hi,ha=>by
  have c1: ¬(i:Int)<(d1.l.length:Int):=J
  rw [bL,ZL,anm J];simp only [P5,zz,c1,bR,anj,anc]
 |k+1,i,acc,hi,ha=>by
  have dX:i<d1.l.length:=J
  have hd:d1.l.drop i=d1.l[i]::d1.l.drop (i+1):=bh dX;have ih:=BJ d1 U hlen s k (i+1) (acc++ [kT d1.l[i]]) J (by simp [ha]);have c1:(i:Int)<(d1.l.length:Int):=J
  have c2: ¬((i:Int)<0):=J
  have w:=bS (n:=i) J;have c3:(acc.length:Int)<2199023255551:=J
  have hb:=xD U _ (az dX);have c4:((((d1.l[i]).hd 1).l.length:Nat):Int)<17592186044416:=J
  have e2:acc++(kT d1.l[i]::(d1.l.drop (i+1)).map kT)=acc++ [kT d1.l[i]]++(d1.l.drop (i+1)).map kT:=ad
  rw [hd,aw,e2,<- ih,bL,ZL];by_cases hz:((d1.l[i]).hd 1).l.length=0
  ·have I5:((((d1.l[i]).hd 1).l.length:Nat):Int)=0:=J
   have et:kT d1.l[i]= .p (.i 0) (.p (.i 2) (.p (.i 0) (.p (.i 0) (.p (.i 0) (.p (.i 0) (.i 0)))))):=by unfold kT; rw [ag hz]; rfl
   rw [et];simp only [P5,zz,c1,c2,w,bX dX,I5,c3,bJ,bC]
  ·have I5: ¬((((d1.l[i]).hd 1).l.length:Nat):Int)=0:=J
   have et:kT d1.l[i]= .p (.i 0) (.p (dL (List.replicate ((d1.l[i]).hd 1).l.length (.i 0))) (.p (.i 0) (.p (.i 0) (.p (.i 0) (.p (.i 0) (.i 0)))))):=by unfold kT; rw [af hz]; rfl
   rw [et];simp only [P5,zz,c1,c2,w,bX dX,I5,c3,c4,bJ,bd,bC]
theorem Lh (d1:D) (U:Wd (.sl 4) d1) (hlen:d1.l.length<=16) (s:D):L 1451 [enc d1,(d1.l.length:Int),enc s]=some [enc s,enc (mq d1),0]:=by
 by_cases hn:d1.l.length=0
 ·have c1: ¬(0:Int)<(d1.l.length:Int):=J
  have e:mq d1= .i 1:=by unfold mq; rw [ag hn]
  rw [bL,ZM,e];simp only [P6,zz,c1,bR]
 ·have hp:0<d1.l.length:=J
  have c1:(0:Int)<(d1.l.length:Int):=J
  have e:mq d1=dL (d1.l.map kT):=by unfold mq; rw [af hn]
  have ih:=BJ d1 U hlen s (d1.l.length-1) 1 [kT (d1.l[0]'hp)] J rfl
  have e1:[kT (d1.l[0]'hp)]++(d1.l.drop 1).map kT=d1.l.map kT:=by
   conv=>rhs; rw [<- am4 (l:=d1.l),bh hp]
   rfl
  rw [e1,<- e] at ih;have a0:d1.at 0=d1.l[0]'hp:=bX (i:=0) hp;have hb:=xD U _ (az hp);have c4:((((d1.l[0]'hp).hd 1).l.length:Nat):Int)<17592186044416:=J
  rw [<- ih,bL,ZM];by_cases hz:((d1.l[0]'hp).hd 1).l.length=0
  ·have I5:((((d1.l[0]'hp).hd 1).l.length:Nat):Int)=0:=J
   have et:dL [kT (d1.l[0]'hp)]= .p (.p (.i 0) (.p (.i 2) (.p (.i 0) (.p (.i 0) (.p (.i 0) (.p (.i 0) (.i 0))))))) (.i 0):=by unfold kT; rw [ag hz]; rfl
   rw [et];simp only [P6,zz,c1,a0,I5,mI,ay,dZ,eQ,bC,bk]
  ·have I5: ¬((((d1.l[0]'hp).hd 1).l.length:Nat):Int)=0:=J
   have et:dL [kT (d1.l[0]'hp)]= .p (.p (.i 0) (.p (dL (List.replicate ((d1.l[0]'hp).hd 1).l.length (.i 0))) (.p (.i 0) (.p (.i 0) (.p (.i 0) (.p (.i 0) (.i 0))))))) (.i 0):=by unfold kT; rw [af hz]; rfl
   rw [et];simp only [P6,zz,c1,a0,I5,c4,mI,ay,dZ,eQ,bd,bC,bk]
theorem T5 {d0 d1:D} (U:Wd (.sl 4) d1) (hc:L 450 [enc d0,enc d1]=some [0]) (ok:uO d0 d1):L 1450 [enc d0,enc d1]=some [enc (ml d0),enc (mq d1),0]:=by
 have h3:L 300 [enc d0,enc d1]=some [enc (ml d0)]:=by
  by_cases hn:d0.l.length=0
  ·have e:ml d0= .i 1:=by unfold ml; rw [ag hn]
   rw [e];exact q_ hc (.inr hn)
  ·have e:ml d0=dL (d0.l.map jZ):=by unfold ml; rw [af hn]
   rw [e];exact q! hc ok.1 J
 have K:ew (cT L (low [enc d0,enc d1])) Ws= .jump 1451 [enc d1,(d1.l.length:Int),enc (ml d0)]:=by refine ee [Qfg,Qfh,.eq (a0 300 C7) Q0] [] (ju 1451 [Qb,Qc,rr 300 C7 0]) (by simp only [zz,hc,h3]<;>omega) aa ?_;simp only [zz,h3]
 rw [bL,ZO];exact (congrArg (fin L) K).trans (Lh d1 U ok.2.1 _)
theorem T4 {d0 d1:D} {c:Int} (hc:L 450 [enc d0,enc d1]=some [c]) (h:c≠0):L 1450 [enc d0,enc d1]=some [enc (.i 1),enc (.i 1),c]:=by
 have K:ew (cT L (low [enc d0,enc d1])) Ws= .out [enc (.i 1),enc (.i 1),c]:=by refine ee [Qfg] [Qfh] (ou [Qh,Qh,rr 450 C7 0]) (by simp only [zz,hc]<;>omega) aa ?_;simp only [zz,hc]
 rw [bL,ZO];exact congrArg (fin L) K
theorem T? {k:D} {t:Int} (t0:0<=t) (ht:t<(k.l.length:Int)) (x:KT):(pg k t x).at t=x.d:=by obtain⟨i,rfl⟩ : ∃i:Nat,t=(i:Int):=⟨t.toNat,J⟩;rw [Bh,bJ,YS J];rfl
theorem uG (k:D) (t:Int) (x:KT):(pg k t x).l.length=k.l.length:=by rw [bJ,gu]
theorem GU {d1:D} {t:Int} {x:KT} (ho: ¬iB d1 t x=1) (h: ¬low (iO d1 t x) 4=0): ∃op obj arg tr,iO d1 t x= [op,obj,arg,tr,1]:=by
 unfold iB at ho;unfold iO at h ⊢;by_cases w0:x.w=0
 ·rw [ag w0] at ho h ⊢;by_cases a0:x.a=(Nc d1 t:Int)
  ·rw [ag a0] at ho;omega
  ·rw [af a0] at h ⊢;by_cases U:((Ins d1 t x).hd 0).n=1
   ·rw [ag U];exact⟨_,_,_,_,rfl⟩
   ·rw [af U] at h ⊢;by_cases Z:((Ins d1 t x).hd 0).n=2
    ·rw [ag Z];exact⟨_,_,_,_,rfl⟩
    ·rw [af Z] at h;exact absurd rfl h
 ·rw [af w0];exact⟨_,_,_,_,rfl⟩
theorem CD (d1:D) (t:Int) (x:KT):iB d1 t x=0\/iB d1 t x=1:=by
 unfold iB;split
 ·split
  ·exact .inr rfl
  ·exact .inl rfl
 ·exact .inl rfl
theorem QN {d0 d1:D} {t:Int} {x:KT} (C:Cd d0 d1) (R:Rt d0 d1 t x) (Uk:d0.l.length<=64) {op obj arg tr b:Int} (hn:iO d1 t x= [op,obj,arg,tr,b]):gq .u8 op/\gq .i64 obj/\gq .i64 arg:=by
 have z8:gq .u8 0:=⟨J,J⟩;have z:gq .i64 0:=⟨J,J⟩;have ok:=R.ok;unfold iO at hn;by_cases w0:x.w=0
 ·rw [ag w0] at hn;by_cases a0:x.a=(Nc d1 t:Int)
  ·rw [ag a0] at hn;simp only [List.cons.injEq] at hn;obtain⟨rfl,rfl,rfl,_⟩:=hn;exact⟨z8,z,z⟩
  ·have ff:x.a<(Nc d1 t:Int):=by have:=ok.2.1; unfold Nc at a0 ⊢; omega
   have F:=C.inf R ff;rw [af a0] at hn;by_cases U:((Ins d1 t x).hd 0).n=1
   ·rw [ag U] at hn;simp only [List.cons.injEq] at hn;obtain⟨rfl,rfl,rfl,_⟩:=hn;exact⟨F.op,F.ob,abe F.ar R.ints⟩
   ·rw [af U] at hn;by_cases Z:((Ins d1 t x).hd 0).n=2
    ·rw [ag Z] at hn;simp only [List.cons.injEq] at hn;obtain⟨rfl,rfl,rfl,_⟩:=hn;exact⟨⟨J,J⟩,F.ob,z⟩
    ·rw [af Z] at hn;simp only [List.cons.injEq] at hn;obtain⟨rfl,rfl,rfl,_⟩:=hn;exact⟨z8,z,z⟩
 ·rw [af w0] at hn;simp only [List.cons.injEq] at hn;obtain⟨rfl,rfl,rfl,_⟩:=hn;obtain⟨_,_,_,_,_,hw⟩:=ok;exact⟨⟨J,J⟩,⟨J,J⟩,R.hg⟩
theorem K? {lc:D} (h:Wd (.sl 0) lc) {z v:Int} (h0:0<=z) (U:z<(lc.l.length:Int)) (hv:gq .i64 v):Wd (.sl 0) (dL (fC lc.l z (.i v))):=by
 have:=h.room;have h3:pW 0=8:=rfl;rw [h3] at this;have hs:=gu lc.l z (.i v);refine vJ (fun y hy=>?_) (fun he=>?_) (by rw [hs]; omega)
 ·rcases rR hy with h'|rfl
  ·exact (h.el1 rfl y h').i
  grind
 grind
theorem PL {k:D} (hk:Wd (.sl 8) k) {t:Int} {x:KT} (h: ∃a lc w o g tr,Kt x.d a lc w o g tr) (hp:0<k.l.length):Wd (.sl 8) (pg k t x):=by
 have hf:=hk.room;have h3:pW 8=64:=rfl;rw [h3] at hf;have hs:=gu k.l t x.d;refine Kx (fun y hy=>?_) (fun he=>?_) (by rw [hs]; omega)
 ·rcases rR hy with h'|rfl
  ·exact gY hk y h'
  grind
 grind
section
variable {d0 d1 s k:D} {t:Int} {n:Nat} {x:KT}
theorem Ll {x:KT} (ha:gq .i64 x.a) (Y:Wd (.sl 0) x.lc) (hw:gq .u8 x.w) (ho:gq .i64 x.o) (hg:gq .i64 x.g) (ht:gq .i64 x.tr): ∃a lc w o g tr,Kt x.d a lc w o g tr:=⟨_,_,_,_,_,_,rfl,ha,Y,hw,ho,hg,ht⟩
theorem Rt.kt (C:Cd d0 d1) (R:Rt d0 d1 t x): ∃a lc w o g tr,Kt x.d a lc w o g tr:=by obtain⟨a0,a1,_,t0,t1,hw⟩:=R.ok;have hd:=C.ok.1;have hnc:=(C.code R.t0 R.t1).len;exact Ll ⟨J,J⟩ R.Y ⟨J,J⟩ ⟨J,J⟩ R.hg ⟨J,J⟩
theorem aex (C:Cd d0 d1) (R:Rt d0 d1 t x) (hx:x.w=0->x.a<(Nc d1 t:Int)) {op e2 e3 e4 oc:Int} (h3:gq .i64 e3) (h4:gq .i64 e4): ∃a lc w o g tr,Kt (pb (Ins d1 t x) x op e2 e3 e4 oc).d a lc w o g tr:=by
 obtain⟨a0,a1,E_,t0,t1,hw⟩:=R.ok;have hd:=C.ok.1;have hnc:=(C.code R.t0 R.t1).len;have ka:gq .i64 x.a:=⟨J,J⟩;have kw:gq .u8 x.w:=⟨J,J⟩;have ko:gq .i64 x.o:=⟨J,J⟩;have kt:gq .i64 x.tr:=⟨J,J⟩;have z:gq .i64 0:=⟨J,J⟩;have z8: ∀v:Int,v=0\/v=24\/v=25->gq .u8 v:=fun v h=> ⟨J,J⟩;unfold pb;split
 ·split
  ·exact Ll ka R.Y kw ko R.hg (by
    show gq .i64 (if 4611686018427387904<x.tr+1 then 4611686018427387904 else x.tr+1)
    split<;>exact⟨J,J⟩)
  ·exact Ll ka R.Y kw ko R.hg kt
 ·split
  ·rename_i w0;have F:=C.inf R (hx w0);have ok:=F.ok;have U:=hx w0;unfold Nc at U;unfold OkI at ok;have k1:gq .i64 (x.a+1):=⟨J,J⟩;refine Ll ?_ ?_ ?_ ?_ ?_ z
   ·show gq .i64 (if _ then _ else _);split
    ·exact F.to
    grind
   ·show Wd (.sl 0) (if _ then _ else _);split
    ·rename_i hc;refine K? R.Y J ?_ h4
     grind
    ·exact R.Y
   all_goals grind
  ·exact Ll ka R.Y (z8 _ (.inl rfl)) z z z
theorem P9 {k:D} (hp:0<k.l.length) (t:Int) (x:KT):pg k t x≠.i 2:=fun he=>by have:=uG k t x;rw [he] at this;have e:(D.i 2).l.length=0:=rfl;omega
theorem VU (S:Sx s k n) (C:Cd d0 d1) (R:Rt d0 d1 t x) (ht:t<(k.l.length:Int)) (hx:x.w=0->x.a<(Nc d1 t:Int)) {op obj arg tries e1 e2 e3 e4 e5 oc:Int} {s':D} (A:Fv d0 d1 s t op obj arg tries n s' e1 e2 e3 e4 e5 oc) :
 Sx s' (pg k t (pb (Ins d1 t x) x op e2 e3 e4 oc)) (n+1):=by
 have hp:0<k.l.length:=by have:=R.t0; omega
 exact⟨A.gs,PL S.wk (aex C R hx A.e3 A.e4) hp,A.n2 S.n2s,P9 hp _ _⟩
theorem adI (R:Rt d0 d1 t x) (ho:iB d1 t x=0):x.w=0->x.a<(Nc d1 t:Int):=fun w0=>by unfold iB at ho;rw [ag w0] at ho;have:=R.ok.2.1;unfold Nc at ho ⊢;split at ho<;>omega
end
theorem vU: ∀(l:List D) (k v k':D),gf (j8 l k v) k'=if k=k' then some v else gf l k'
 |[],k,v,k'=>by
  simp only [j8,gf];by_cases h:k=k'
  ·rw [ag h]; exact ag h
  ·rw [af h]; exact af h
 |d::l,k,v,k'=>by
  simp only [j8];by_cases h:jk d=k
  ·rw [ag h];simp only [gf];by_cases Z:k=k'
   ·rw [ag Z]; exact ag Z
   ·rw [af Z,af (fun h3=>Z (h.symm.trans h3))]; exact af Z
  ·rw [af h];simp only [gf,vU l k v k']
   grind
def Af (m:Int) (l:List D):Prop:=(∀x∈l,0<=x.n/\x.n<m)/\(l.map D.n).Nodup
def S3 (N o dn:Int) (rl vl:Nat):Prop:=(N<0->(vl:Int)=0)/\(0<=N->(vl:Int)<=N)/\(o<0\/(rl:Int)=0/\dn=0)
def PA (s:D) (l:List D):Prop:= ∀n:Int,(gf s.l (.i n)=none/\n∉l.map D.n)\/(gf s.l (.i n)=some (.i 1)/\n∈l.map D.n)
theorem Xf {s x:D} {l:List D} (h:PA s l):PA (dL (j8 s.l (.i x.n) (.i 1))) (l++ [x]):=fun n=>by
 rw [bJ,vU,ane];by_cases hn:x.n=n
 ·rw [ag (by rw [hn])];exact .inr ⟨rfl,aoN _ (by simp [hn])⟩
 ·rw [af (fun h=>hn (by simpa using h))];rcases h n with ⟨U,Z⟩|⟨U,Z⟩
  ·refine .inl ⟨U,fun h3=>?_⟩;rcases amW.1 h3 with h3|h3
   ·exact Z h3
   ·simp only [List.map,ax,amY,or_false] at h3;exact hn h3.symm
  ·exact .inr ⟨U,aoO _ Z⟩
theorem CN {P Q:Prop} {ys:List Int} (h:P) (hQ:Ki Q ys):Ki (P/\Q) ys:=by
 grind
theorem sQ {P Q:Prop} (h: ¬P):Ki (P/\Q) [0]:=tO fun q=>h q.1
theorem KP (m:Int) (r:D) (Y:r.l.length<=140737488351232) (k wZ N x7 x8 o c dn g:Int) (v:D): ∀(j i:Nat) (seen:D),i+j=r.l.length->PA seen (r.l.take i)->Af m (r.l.take i)->
 dC 501 [m,enc r,(r.l.length:Int),(i:Int),k,wZ,N,x7,x8,o,c,dn,g,enc v,enc seen] (Ki (Af m r.l/\S3 N o dn r.l.length v.l.length))
 |0,i,seen,hi,_,hR=>by
  have c1: ¬(i:Int)<(r.l.length:Int):=J
  rw [anN J] at hR;refine dC.of ?_;unfold S3;rw [Zu];simp only [Te,zz,c1]
  repeat' first
   |exact .out (CN hR (tO J))
   |exact .out (CN hR (Ha J))
   |refine .ite (fun _=>?_) (fun _=>?_)
 |j+1,i,seen,hi,hS,hR=>by
  have dX:i<r.l.length:=J
  have c1:(i:Int)<(r.l.length:Int):=J
  have c2: ¬((i:Int)<0):=J
  have w:=bS (n:=i) J;have ht:r.l.take (i+1)=r.l.take i++ [r.l[i]]:=by rw [List.take_add_one,aO dX]; rfl
  have qZ:r.l[i]∈r.l:=az dX;have ih:=fun h=>KP m r Y k wZ N x7 x8 o c dn g v j (i+1) (dL (j8 seen.l (.i (r.l[i]).n) (.i 1))) J (by rw [ht]; exact Xf hS) h;refine dC.of ?_;rw [Zu];rcases hS (r.l[i]).n with ⟨U,Z⟩|⟨U,Z⟩
  ·simp only [Te,zz,c1,c2,w,bX dX,U,aoP,aP];refine .ite (fun q=> .out (sQ fun R=>?_)) (fun q=> .ite (fun q2=>?_) (fun q2=> .out (sQ fun R=>?_)))
   ·have:=R.1 _ qZ;omega
   ·refine .jump (ih ?_);rw [ht];refine⟨fun x hx=>?_,?_⟩
    ·rcases amW.1 hx with hx|hx
     ·exact hR.1 x hx
     ·simp only [ax,amY,or_false] at hx;subst hx;exact⟨J,q2⟩
    ·rw [ane,aof];refine⟨hR.2,ad,fun a ha b hb=>?_⟩;simp only [List.map,ax,amY,or_false] at hb;subst hb;intro he;subst he;exact Z ha
   ·have:=R.1 _ qZ;omega
  ·simp only [Te,zz,c1,c2,w,bX dX,U,bG]
   have nd: ¬Af m r.l:=fun R=>by
    have hn:=R.2;have e:r.l=r.l.take i++r.l[i]::r.l.drop (i+1):=by rw [<- bh dX,anb]
    rw [e,ane,aof] at hn;exact hn.2.2 _ Z _ (by rw [aw]; exact anw) rfl
   refine .ite (fun q=> .out (sQ nd)) (fun q=> .ite (fun q2=> .out (sQ nd)) (fun q2=> .out (sQ nd)))
theorem Tu (m:Int) (r:D) (Y:r.l.length<=140737488351232) (k wZ N x7 x8 o c dn g:Int) (v:D) :
 dC 501 [m,enc r,(r.l.length:Int),0,k,wZ,N,x7,x8,o,c,dn,g,enc v,enc (.i 0)] (Ki (Af m r.l/\S3 N o dn r.l.length v.l.length)):=
 KP m r Y k wZ N x7 x8 o c dn g v r.l.length 0 (.i 0) J (fun n=> .inl ⟨rfl,ad⟩) ⟨ad,ad⟩
def yb (k N c:Int):Prop:=k=9\/(k=3/\0<=c/\c<=N)\/(k=5/\0<=c/\c<=IntKind.i64.wrap (N-1))\/(k=7/\0<=c/\c<=1099511627776)\/(k≠3/\k≠5/\k≠7/\k≠9/\c=0)
theorem aal (k x1 N x3 x4 c:Int): ∃a b:Int,L 650 [k,x1,N,x3,x4]=some [a,b]/\(b=0/\yb k N c\/b=1/\(yb k N c↔0<=c/\c<=a)):=by
 have:dC 650 [k,x1,N,x3,x4] (fun ys=> ∃a b:Int,ys= [a,b]/\(b=0/\yb k N c\/b=1/\(yb k N c↔0<=c/\c<=a))):=by
  unfold yb;refine dC.of ?_;rw [af2];simp only [aeC,zz]
  repeat' first
   |exact .out ⟨_,_,rfl,J⟩
   |refine .ite (fun _=>?_) (fun _=>?_)
 obtain⟨ys,h,a,b,rfl,Z⟩:=this
 grind
def adP (k N m o c dn g:Int) (rl vl:Nat):Prop:=
 yb k N c/\-1<=o/\o<m/\0<=g/\g<=4611686018427387904/\(0<=o->k=1\/k=2\/k=6)/\(0<(rl:Int)->k=4\/k=2)/\(0<(vl:Int)->k=8)/\(dn≠0->k=6)/\(0<g->k=5)
def Pz (k N m o c dn g:Int) (r v:D):Prop:=adP k N m o c dn g r.l.length v.l.length/\Af m r.l/\S3 N o dn r.l.length v.l.length
set_option maxHeartbeats 4000000 in
theorem W6 (k x1 N x3 x4 m o c dn g:Int) (r v:D) (Y:r.l.length<=140737488351232):dC 500 [k,x1,N,x3,x4,o,c,dn,g,enc r,enc v,m] (Ki (Pz k N m o c dn g r v)):=by
 unfold Pz adP;obtain⟨a,b,hM,hb⟩:=aal k x1 N x3 x4 c;have ih:=Tu m r Y k x1 N x3 x4 o c dn g v;refine dC.of ?_;rw [af4];generalize yb k N c=H at *;by_cases b0:b=0
 ·subst b0
  have hH:H:=by
   grind
  simp only [Q_,zz,hM]
  repeat' first
   |exact .out (sQ J)
   |exact .jump (let ⟨ys,hL,hB⟩:=ih; ⟨ys,hL,CN ⟨hH,J,J,J,J,J,J,J,J,J⟩ hB⟩)
   |refine .ite (fun _=>?_) (fun _=>?_)
 ·have hH:H↔0<=c/\c<=a:=by
   grind
  simp only [Q_,zz,hM,af b0]
  repeat' first
   |exact .out (sQ fun h=>by first |omega|(have:=hH.1 h.1; omega))
   |exact .jump (let ⟨ys,hL,hB⟩:=ih; ⟨ys,hL,CN ⟨hH.2 ⟨J,J⟩,J,J,J,J,J,J,J,J,J⟩ hB⟩)
   |refine .ite (fun _=>?_) (fun _=>?_)
theorem aar {P:Prop} {j:Nat} {xs:List Int} (h:dC j xs (Ki P)):L j xs=some [1]↔P:=by
 obtain⟨ys,hL,b,rfl,hb⟩:=h
 grind
theorem W9 {d x:D} {m:Nat} {o c dn g:Int} {r v:D} (T:Tg x o c dn g r v) (Y:r.l.length<=140737488351232):Snd d x m↔Pz (d.hd 0).n (d.hd 2).n (m:Int) o c dn g r v:=by
 have h:=aar (W6 (d.hd 0).n (enc (d.hd 1)) (d.hd 2).n (enc (d.hd 3)) (d.hd 4).n (m:Int) o c dn g r v Y)
 have e:(if dn=0 then (0:Int) else 1)=dn:=by rcases T.hd with rfl|rfl<;>rfl
 unfold Snd S_;rw [T.is];simp only [zg,aC,T0,e];exact h
theorem V' {m:Int} {l l':List D} (h:Af m l) (hs:l'.Sublist l):Af m l':=⟨fun x hx=>h.1 x (hs.subset hx),h.2.sublist (hs.map _)⟩
def abn (k N m:Int):Act->Prop
 | .res o c dn g r v _ _ _=>Pz k N m o c dn g r v
 |_=>True
theorem abn.ite {k N m:Int} {p:Prop} [Decidable p] {a b:Act} (ha:p->abn k N m a) (hb: ¬p->abn k N m b):abn k N m (if p then a else b):=by
 grind
section
variable {d0 x:D} {k N m mo th op arg tries o c dn g:Int} {r v:D}
end
structure agC (d0 d1 s k:D) (t:Int) (n:Nat) (s' k':D) (e1 e2 e3 e4 e5 oc:Int):Prop where
 eq:L 1850 [enc d0,enc d1,enc s,enc k,t]=some [enc s',enc k',e1,e2,e3,e4,e5,oc]
 sx:Sx s' k' (n+1)
 ls:s'.l.length=s.l.length
 lk:k'.l.length=k.l.length
section
variable {d0 d1 s k:D} {n:Nat} (S:Sx s k n) (hn:n<17592186043904) (h0:Wd (.sl 3) d0) (U:Wd (.sl 4) d1)
include S hn h0 U
theorem XZ {t:Int} {x:KT} (R:Rs d0 d1 s k t x) (ho:iB d1 t x=0) (ha:low (iO d1 t x) 4=0):Sx s (pg k t (sN (Ins d1 t x) x)) n:=by
 have hp:0<k.l.length:=by have:=R.r.t0; have:=R.ht; omega
 exact⟨S.g,PL S.wk ((XW R.c R.ht R.r (X0 R.r ho ha)).1.kt R.c) hp,S.n2s,P9 hp _ _⟩
theorem yr (t:Int): ∃s' k' e1 e2 e3 e4 e5 oc,agC d0 d1 s k t n s' k' e1 e2 e3 e4 e5 oc:=by
 rcases KO (t:=t) S hn h0 U with h|⟨x,R⟩
 ·exact⟨s,k,0,0,0,0,0,0,It S h,S.mono (anl n),rfl,rfl⟩
 ·rcases CD d1 t x with ho|ho
  ·by_cases ha:low (iO d1 t x) 4=0
   ·exact⟨_,_,0,0,0,0,0,1,Dv S R ho ha,(XZ S hn h0 U R ho ha).mono (anl n),rfl,uG _ _ _⟩
   ·obtain⟨op,obj,arg,tr,hq⟩:=GU J ha;obtain⟨k1,k2,k3⟩:=QN R.c R.r R.c.ok.1 hq
    have fP:gq .i64 t:=by have:=R.r.t0;have:=R.r.t1;have:=U.len;exact⟨J,J⟩
    obtain⟨s',e1,e2,e3,e4,e5,oc,A⟩:=PU (tries:=tr) h0 U S.g hn fP k1 k2 k3;exact⟨s',_,e1,e2,e3,e4,e5,oc,Du S R ho hq A,VU S R.c R.r R.ht (adI R.r ho) A,A.len,uG _ _ _⟩
  ·exact⟨s,k,0,0,0,0,0,4,Gg S R ho,S.mono (anl n),rfl,rfl⟩
end
def tM (x n:Int):Int:=if x.tmod n<0 then x.tmod n+n else x.tmod n
theorem KA {x n:Int} (h:0<n): -n<x.tmod n/\x.tmod n<n:=by have U:=anU x h;have Z:=anU (-x) h;rw [Int.neg_tmod] at Z;omega
theorem TG {x n:Int} (h:0<n):0<=tM x n/\tM x n<n:=by
 have:=KA (x:=x) h;unfold tM
 grind
theorem TF {x n:Int} (h:0<n) (hb:n<=140737488351232):(IntKind.i64.wrap (x.tmod n+n)).tmod n=tM x n:=by
 have U:=KA (x:=x) h;rw [mj J J];unfold tM;split
 ·exact Int.tmod_eq_of_lt J J
 ·rw [Int.tmod_eq_emod_of_nonneg J,Int.add_emod_right];exact Int.emod_eq_of_lt J J
inductive t! (d0 d1 s:D) (t op obj arg tries:Int):D->Int->Int->Int->Int->Int->Int->Prop
 |no:t! d0 d1 s t op obj arg tries s 0 0 0 0 0 0
 |yc (A:Acc d0 d1 s t op obj):t! d0 d1 s t op obj arg tries s t 27 obj (IntKind.i64.wrap op) 0 2
 |res (A:Acc d0 d1 s t op obj) (o c dn g:Int) (r v:D) (o' c' Kl g':Int) (r' v':D) (m:Option Int) (a oc:Int) (T:Tg (s.at obj) o c dn g r v)
  (h:act (Mx d0 obj) (Mo d0 s obj) t op arg tries o c dn g r v= .res o' c' Kl g' r' v' m a oc):t! d0 d1 s t op obj arg tries (NV s obj (Mx d0 obj) (.res o' c' Kl g' r' v' m a oc)) t op obj a 0 oc
section
variable {d0 d1 s s':D} {t op obj arg tries e1 e2 e3 e4 e5 oc:Int} {n:Nat}
theorem Nl (h0:Wd (.sl 3) d0) (U:Wd (.sl 4) d1) (G:Gs s n) (hn:n<17592186043904) (w6:gq .u8 op) (A:Fv d0 d1 s t op obj arg tries n s' e1 e2 e3 e4 e5 oc):t! d0 d1 s t op obj arg tries s' e1 e2 e3 e4 e5 oc:=by
 have hf:=G.l7 (by omega:n<17592186044415);have hA:=A.eq;by_cases h:Acc d0 d1 s t op obj
 ·obtain⟨_,o,c,dn,g,r,v,T,hL⟩:=Cx (arg:=arg) (tries:=tries) h0 U G.wd hf w6 h;rw [CF] at hL;rw [hA] at hL
  cases hB:act (Mx d0 obj) (Mo d0 s obj) t op arg tries o c dn g r v with
  |jX=> rw [hB] at hL;simp only [evA,ah,List.cons.injEq,and_true] at hL;obtain⟨q,rfl,rfl,rfl,rfl,rfl,rfl⟩:=hL;have q:=hU q;subst q;exact .no
  |yc=> rw [hB] at hL;simp only [evA,ah,List.cons.injEq,and_true] at hL;obtain⟨q,rfl,rfl,rfl,rfl,rfl,rfl⟩:=hL;have q:=hU q;subst q;exact .yc h
  |res o' c' Kl g' r' v' m a oc'=> rw [hB] at hL;simp only [evA,ah,List.cons.injEq,and_true] at hL;obtain⟨q,rfl,rfl,rfl,rfl,rfl,rfl⟩:=hL;have q:=hU q;subst q;exact .res h o c dn g r v o' c' Kl g' r' v' m _ _ T hB
 ·have hL:=Nk (arg:=arg) (tries:=tries) h0 U G.wd hf w6 h;rw [hA] at hL;simp only [ah,List.cons.injEq,and_true] at hL;obtain⟨q,rfl,rfl,rfl,rfl,rfl,rfl⟩:=hL;have q:=hU q;subst q;exact .no
end
section
variable {d0 d1 s:D} {n:Nat} (h0:Wd (.sl 3) d0) (U:Wd (.sl 4) d1) (G:Gs s n) (hn:n<17592186044000)
include h0 U G hn
theorem yG (R:L 350 [enc d0,enc d1,enc s]=some [1]):L 450 [enc d0,enc d1]=some [0]/\uO d0 d1/\s.l.length=d0.l.length:=by obtain⟨b,hb,_,hi⟩:=lN h0 U (G.l7 J).rows;rw [R] at hb;simp only [ah,List.cons.injEq,and_true] at hb;obtain⟨hC,hle,_⟩:=hi.1 hb.symm;exact⟨hC,DC h0 U (G.l7 J) R⟩
theorem Xl (R:L 350 [enc d0,enc d1,enc s]=some [1]) {i:Int} (i0:0<=i) (i1:i<(s.l.length:Int)) {o c dn g:Int} {r v:D} (T:Tg (s.at i) o c dn g r v):Pz ((d0.at i).hd 0).n ((d0.at i).hd 2).n (d1.l.length:Int) o c dn g r v:=by
 obtain⟨b,hb,_,hi⟩:=lN h0 U (G.l7 J).rows;rw [R] at hb;simp only [ah,List.cons.injEq,and_true] at hb;obtain⟨_,hle,hs⟩:=hi.1 hb.symm;obtain⟨k,rfl⟩ : ∃k:Nat,i=(k:Int):=⟨i.toNat,J⟩;have hk:k<s.l.length:=J
 have h:=hs k hk;rw [bX hk] at T;have iR:=G.rows _ (az hk);rw [T.is] at iR;have Y:r.l.length<=140737488351232:=by have:=iR.1; have:r.l.length<=n:=this; omega
 rw [W9 T Y] at h;rw [bX (by omega:k<d0.l.length)];exact h
theorem aix (hC:L 450 [enc d0,enc d1]=some [0]) (hle:s.l.length=d0.l.length) (h: ∀i:Nat,i<s.l.length->∃o c dn g r v,Tg (s.at (i:Int)) o c dn g r v/\Pz ((d0.at (i:Int)).hd 0).n ((d0.at (i:Int)).hd 2).n (d1.l.length:Int) o c dn g r v):L 350 [enc d0,enc d1,enc s]=some [1]:=by
 obtain⟨b,hb,_,hi⟩:=lN h0 U (G.l7 J).rows;rw [hb,hi.2 ⟨hC,hle,fun k hk=>?_⟩];obtain⟨o,c,dn,g,r,v,T,P⟩:=h k hk;rw [bX hk] at T;rw [bX (by omega:k<d0.l.length)] at P;have iR:=G.rows _ (az hk);rw [T.is] at iR;have Y:r.l.length<=140737488351232:=by have:=iR.1; have:r.l.length<=n:=this; omega
 exact (W9 T Y).2 P
end
theorem RP {s:D} {n:Nat} (G:Gs s n) {i:Int} (i0:0<=i) (i1:i<(s.l.length:Int)): ∃o c dn g r v,Tg (s.at i) o c dn g r v/\r.l.length<=n/\v.l.length<=n:=by
 obtain⟨k,rfl⟩ : ∃k:Nat,i=(k:Int):=⟨i.toNat,J⟩;have hk:k<s.l.length:=J
 obtain⟨o,c,dn,g,r,v,T⟩:=yn (G.wd.mN _ (az hk));have iR:=G.rows _ (az hk);rw [T.is] at iR;exact⟨o,c,dn,g,r,v,by rw [bX hk]; exact T,iR.1,iR.2⟩
def abo (th:Int):Act->Prop
 | .res _ _ _ _ _ _ m _ _=> ∀q,m=some q->q= -1\/q=th
 |_=>True
theorem abo.ite {th:Int} {p:Prop} [Decidable p] {a b:Act} (ha:abo th a) (hb:abo th b):abo th (if p then a else b):=by
 grind
section
variable {d0 d1 s:D} {t op obj arg tries:Int} {n:Nat} (h0:Wd (.sl 3) d0) (U:Wd (.sl 4) d1) (G:Gs s n) (hn:n<17592186043904) (w6:gq .u8 op) (ht:gq .i64 t) (ha:gq .i64 arg)
include h0 U G hn w6 ht ha
end
def UZ (op:Int):Act->Prop
 | .res _ _ _ _ _ _ _ _ oc=>oc=2\/oc=3/\(op=12\/op=15)
 |_=>True
theorem UZ.ite {op:Int} {p:Prop} [Decidable p] {a b:Act} (ha:p->UZ op a) (hb: ¬p->UZ op b):UZ op (if p then a else b):=by
 grind
theorem akG {M mo th op arg tries o c dn g:Int} {r v:D}:UZ op (act M mo th op arg tries o c dn g r v):=by
 unfold act
 repeat' first
  |trivial
  |exact .inl rfl
  |exact .inr ⟨rfl,.inl (by assumption)⟩
  |exact .inr ⟨rfl,.inr (by assumption)⟩
  |refine UZ.ite (fun _=>?_) (fun _=>?_)
section
variable {d0 d1 s s' k:D} {t op obj arg tries e1 e2 e3 e4 e5 oc:Int} {n:Nat} {x:KT}
end
inductive Ca (d0 d1 s k:D) (t:Int) (n:Nat):D->D->Int->Int->Int->Int->Int->Int->Prop
 |no (h:L 1550 [enc d0,enc d1,enc s,enc k,t]=some [0]):Ca d0 d1 s k t n s k 0 0 0 0 0 0
 |over (x:KT) (R:Rs d0 d1 s k t x) (ho:iB d1 t x=1):Ca d0 d1 s k t n s k 0 0 0 0 0 4
 |loc (x:KT) (R:Rs d0 d1 s k t x) (ho:iB d1 t x=0) (ha:low (iO d1 t x) 4=0):Ca d0 d1 s k t n s (pg k t (sN (Ins d1 t x) x)) 0 0 0 0 0 1
 |tri (x:KT) (R:Rs d0 d1 s k t x) (ho:iB d1 t x=0) (op obj arg tr:Int) (hq:iO d1 t x= [op,obj,arg,tr,1]) (k1:gq .u8 op) (k2:gq .i64 obj) (k3:gq .i64 arg) (fP:gq .i64 t) (s':D) (e1 e2 e3 e4 e5 oc:Int)
  (A:Fv d0 d1 s t op obj arg tr n s' e1 e2 e3 e4 e5 oc) (T:t! d0 d1 s t op obj arg tr s' e1 e2 e3 e4 e5 oc):Ca d0 d1 s k t n s' (pg k t (pb (Ins d1 t x) x op e2 e3 e4 oc)) e1 e2 e3 e4 e5 oc
section
variable {d0 d1 s k:D} {n:Nat} (S:Sx s k n) (hn:n<17592186043904) (h0:Wd (.sl 3) d0) (U:Wd (.sl 4) d1)
include S hn h0 U
theorem sE (t:Int): ∃s' k' e1 e2 e3 e4 e5 oc,L 1850 [enc d0,enc d1,enc s,enc k,t]=some [enc s',enc k',e1,e2,e3,e4,e5,oc]/\Ca d0 d1 s k t n s' k' e1 e2 e3 e4 e5 oc:=by
 rcases KO (t:=t) S hn h0 U with h|⟨x,R⟩
 ·exact⟨s,k,0,0,0,0,0,0,It S h,.no h⟩
 ·rcases CD d1 t x with ho|ho
  ·by_cases ha:low (iO d1 t x) 4=0
   ·exact⟨_,_,0,0,0,0,0,1,Dv S R ho ha,.loc x R ho ha⟩
   ·obtain⟨op,obj,arg,tr,hq⟩:=GU J ha;obtain⟨k1,k2,k3⟩:=QN R.c R.r R.c.ok.1 hq
    have fP:gq .i64 t:=by have:=R.r.t0;have:=R.r.t1;have:=U.len;exact⟨J,J⟩
    obtain⟨s',e1,e2,e3,e4,e5,oc,A⟩:=PU (tries:=tr) h0 U S.g hn fP k1 k2 k3;exact⟨s',_,e1,e2,e3,e4,e5,oc,Du S R ho hq A,.tri x R ho op obj arg tr hq k1 k2 k3 fP s' e1 e2 e3 e4 e5 oc A (Nl h0 U S.g hn k1 A)⟩
  ·exact⟨s,k,0,0,0,0,0,4,Gg S R ho,.over x R ho⟩
theorem W0 {t:Int} {s' k':D} {e1 e2 e3 e4 e5 oc:Int} (H:Ca d0 d1 s k t n s' k' e1 e2 e3 e4 e5 oc):Sx s' k' (n+1)/\s'.l.length=s.l.length/\k'.l.length=k.l.length:=by
 cases H with
 |no h=>exact⟨S.mono (anl n),rfl,rfl⟩
 |over x R ho=>exact⟨S.mono (anl n),rfl,rfl⟩
 |loc x R ho ha=>exact⟨(XZ S hn h0 U R ho ha).mono (anl n),rfl,uG _ _ _⟩
 |tri x R ho op obj arg tr hq k1 k2 k3 fP s' e1 e2 e3 e4 e5 oc A T=>exact⟨VU S R.c R.r R.ht (adI R.r ho) A,A.len,uG _ _ _⟩
end
theorem MR.thr {d0 d1 s k:D} {n:Nat} (S:Sx s k n) (hn:n<17592186043904) (h0:Wd (.sl 3) d0) (U:Wd (.sl 4) d1) (M:MR d0 d1 s k) {t:Int} (t0:0<=t) (t1:t<(d1.l.length:Int)): ∃x,Rs d0 d1 s k t x:=by
 obtain⟨ys,hL,b,rfl,hb⟩:=DE (k:=k) h0 U (S.g.l7 J).rows U.len t;rcases hb with ⟨_,hb⟩|⟨rfl,_⟩
 ·grind
 ·rcases KO (t:=t) S hn h0 U with h|h
  all_goals grind
def EqN (a b:D):Prop:=a.l.length=b.l.length/\∀(i:Nat),(a.at (i:Int)).n=(b.at (i:Int)).n
structure KEq (x y:D):Prop where
 c0:(x.hd 0).n=(y.hd 0).n
 c1:EqN (x.hd 1) (y.hd 1)
 c2:(x.hd 2).n=(y.hd 2).n
 c3:(x.hd 3).n=(y.hd 3).n
 c4:(x.hd 4).n=(y.hd 4).n
 c5:(x.hd 5).n=(y.hd 5).n
theorem EqN.Tx (a:D):EqN a a:=⟨rfl,fun _=>rfl⟩
theorem KEq.Tx (a:D):KEq a a:=⟨rfl,EqN.Tx _,rfl,rfl,rfl,rfl⟩
def afe (k:D):Prop:=k.l.length<=140737488351232/\∀i:Nat,((k.at (i:Int)).hd 1).l.length<=140737488351232
section
variable {s k s' k':D} (Y:k.l.length=k'.l.length) (hq: ∀i:Nat,KEq (k.at (i:Int)) (k'.at (i:Int))) (hb:afe k)
include Y hq hb
end
abbrev wK (e1 e2 e3 e4 e5:Int):D:=dL [.i e1,.i e2,.i e3,.i e4,.i e5]
structure PS where
 s:D
 k:D
 l:List D
noncomputable def W5 (d0 d1 s k:D) (t:Int):List Int:=(L 1850 [enc d0,enc d1,enc s,enc k,t]).getD []
noncomputable def MU (d0 d1:D) (p:PS) (t:Int):PS:=
 ⟨dec (low (W5 d0 d1 p.s p.k t) 0),dec (low (W5 d0 d1 p.s p.k t) 1),if low (W5 d0 d1 p.s p.k t) 7=2\/low (W5 d0 d1 p.s p.k t) 7=3 then p.l++ [wK (low (W5 d0 d1 p.s p.k t) 2) (low (W5 d0 d1 p.s p.k t) 3) (low (W5 d0 d1 p.s p.k t) 4) (low (W5 d0 d1 p.s p.k t) 5) (low (W5 d0 d1 p.s p.k t) 6)] else p.l⟩
noncomputable def mC (d0 d1:D):PS->List Int->PS
 |p,[]=>p
 |p,t::ts=>mC d0 d1 (MU d0 d1 p t) ts
theorem uI (d0 d1:D): ∀(a b:List Int) (p:PS),mC d0 d1 p (a++b)=mC d0 d1 (mC d0 d1 p a) b
 |[],b,p=>rfl
 |t::a,b,p=>by simp only [aR,mC];exact uI d0 d1 a b _
structure Nd (d1:D) (p:PS) (n:Nat):Prop where
 sx:Sx p.s p.k n
 lk:p.k.l.length=d1.l.length
 ll:p.l.length<=n
theorem W3 {d0 d1:D} {p:PS} {t:Int} {n:Nat} {s' k':D} {e1 e2 e3 e4 e5 oc:Int} (A:agC d0 d1 p.s p.k t n s' k' e1 e2 e3 e4 e5 oc):MU d0 d1 p t=⟨s',k',if oc=2\/oc=3 then p.l++ [wK e1 e2 e3 e4 e5] else p.l⟩:=by unfold MU W5;rw [A.eq];simp only [aC,bM,bN,bB]<;>rfl
theorem ND {d0 d1:D} {p:PS} {t:Int} {n:Nat} (P:Nd d1 p n) {s' k':D} {e1 e2 e3 e4 e5 oc:Int} (A:agC d0 d1 p.s p.k t n s' k' e1 e2 e3 e4 e5 oc):Nd d1 (MU d0 d1 p t) (n+1):=by
 rw [W3 A];refine⟨A.sx,A.lk.trans P.lk,?_⟩;have:=P.ll;show (if oc=2\/oc=3 then p.l++ [wK e1 e2 e3 e4 e5] else p.l).length<=n+1;split
 ·rw [aT]; exact Nat.succ_le_succ this
 ·omega
def X! (d1:D) (x:D):Int:=tM x.n (d1.l.length:Int)
theorem dr {ρ:Nat->Int} (a b:V):(V.rem a b).den ρ=(a.den ρ).tmod (b.den ρ):=rfl
theorem TV:((3:Int)=2)=False:=ad
theorem TX:((1:Int)=2)=False:=ad
theorem TW:((1:Int)=3)=False:=ad
section
variable {d0 d1:D} (h0:Wd (.sl 3) d0) (U:Wd (.sl 4) d1)
include h0 U
theorem Ix: ∀(ts:List Int) (p:PS) (n:Nat),Nd d1 p n->n+ts.length<17592186043904->Nd d1 (mC d0 d1 p ts) (n+ts.length)
 |[],p,n,P,_=>P
 |t::ts,p,n,P,hn=>by
  simp only [aM] at hn;obtain⟨s',k',e1,e2,e3,e4,e5,oc,A⟩:=yr P.sx J h0 U t;have h:=Ix ts _ (n+1) (ND P A) J;have e:n+1+ts.length=n+(t::ts).length:=by rw [aM]; omega
  rw [e] at h;exact h
end
theorem Nq (d1:D):(mq d1).l.length=d1.l.length:=by
 unfold mq;split
 ·rename_i h; rw [h]; rfl
 ·rw [bJ,aL]
section
variable {d0 d1:D} (h0:Wd (.sl 3) d0) (U:Wd (.sl 4) d1)
include h0 U
end
theorem aeS:Sx (.i 1) (.i 1) 0:=⟨⟨.nil 7,fun x hx=>by simp [D.l] at hx⟩,.nil 8,ad,ad⟩
theorem Oc {x y:KT} (h:x.d=y.d):x=y:=by
 simp only [KT.d,dZ,eQ,D.p.injEq,D.i.injEq,and_true] at h;obtain⟨U,Z,h3,h4,h5,h6⟩:=h;cases x; cases y
 grind
structure One (d0 d1 s k:D) (t:Int) (s' k':D) (e1 e2 e3 e4 e5 oc:Int) (x y:KT):Prop where
 hk:k.at t=x.d
 Ov:k'=pg k t y
 how:(oc=0/\s'=s/\e1=0/\e2=0/\e3=0/\e4=0/\e5=0/\y= { x with tr:=y.tr }/\L 1700 [enc d0,enc d1,enc s,enc k,t]=some [0])\/
  (oc=4/\s'=s/\e1=0/\e2=0/\e3=0/\e4=0/\e5=0/\y=x/\L 1700 [enc d0,enc d1,enc s,enc k,t]=some [1])\/
  (oc=1/\s'=s/\e1=0/\e2=0/\e3=0/\e4=0/\e5=0/\L 1700 [enc d0,enc d1,enc s,enc k,t]=some [0])\/
  ((oc=2\/oc=3)/\e2≠0/\L 1700 [enc d0,enc d1,enc s,enc k,t]=some [0])
section
variable {d0 d1 s k:D} {n:Nat} (S:Sx s k n) (hn:n<17592186043904) (h0:Wd (.sl 3) d0) (U:Wd (.sl 4) d1)
include S hn h0 U
omit S h0 U in
theorem afT {t:Int} (h:L 1550 [enc d0,enc d1,enc s,enc k,t]=some [0]):L 1700 [enc d0,enc d1,enc s,enc k,t]=some [0]:=by rw [bL,ZI];simp only [P4,zz,h,bR]
omit S h0 U in
theorem afU {t:Int} {x:KT} (R:Rs d0 d1 s k t x):L 1700 [enc d0,enc d1,enc s,enc k,t]=some [iB d1 t x]:=by
 have hO:=yO (s:=s) R.hk R.ht R.r;have h:=R.yes;rw [bL,ZI];rcases CD d1 t x with ho|ho
 ·rw [ho] at hO ⊢;simp only [P4,zz,h,hO,bG,bR]
 ·rw [ho] at hO ⊢;simp only [P4,zz,h,hO,bG,bR]
end
section
variable {d0 d1 s k:D} {n:Nat} (S:Sx s k n) (hn:n<17592186043900) (h0:Wd (.sl 3) d0) (U:Wd (.sl 4) d1)
include S hn h0 U
end
theorem QO (d1:D) (t:Int) (x:KT): ∃a b c d e,iO d1 t x= [a,b,c,d,e]/\(e=0\/e=1):=by
 unfold iO;split
 ·split
  ·exact⟨_,_,_,_,_,rfl,.inl rfl⟩
  ·split
   ·exact⟨_,_,_,_,_,rfl,.inr rfl⟩
   ·split
    ·exact⟨_,_,_,_,_,rfl,.inr rfl⟩
    ·exact⟨_,_,_,_,_,rfl,.inl rfl⟩
 ·exact⟨_,_,_,_,_,rfl,.inr rfl⟩
theorem N7 {d0 d1 s k:D} {t:Int} {x:KT} (R:Rs d0 d1 s k t x):L 1800 [enc d0,enc d1,enc s,enc k,t]=some (iO d1 t x):=by
 obtain⟨a,b,c,d,e,hq,he⟩:=QO d1 t x;have hN:=IM (s:=s) R.c R.hk R.ht R.r;have h:=R.yes;rw [hq] at hN ⊢;rw [bL,ZG];rcases he with rfl|rfl
 ·simp only [P3,zz,h,hN,bG,bR]
 ·simp only [P3,zz,h,hN,bG,bR]
def Cb (d0 d1 s k:D) (t:Int) (x:KT):Prop:= ∃s' k' e1 e2 e3 e4 e5 oc,L 1850 [enc d0,enc d1,enc s,enc k,t]=some [enc s',enc k',e1,e2,e3,e4,e5,oc]/\(oc=0\/oc=4)/\¬(low (iO d1 t x) 0=4/\low (iO d1 t x) 3<low (iO d1 t x) 2)
def Px (d0 d1 s k:D):Prop:=MR d0 d1 s k/\∀(t:Int) (x:KT),Rs d0 d1 s k t x->Cb d0 d1 s k t x
section
variable {d0 d1 s k:D} {n:Nat} (S:Sx s k n) (hn:n<17592186043800) (h0:Wd (.sl 3) d0) (U:Wd (.sl 4) d1)
include S hn h0 U
theorem Dq (M:MR d0 d1 s k): ∀(j i:Nat),i+j=d1.l.length->dC 2551 [(d1.l.length:Int),(i:Int),enc d0,enc d1,enc s,enc k] (Ki (∀(t:Int) (x:KT),(i:Int)<=t->Rs d0 d1 s k t x->Cb d0 d1 s k t x))
 |0,i,hi=>by
  have c1: ¬(i:Int)<(d1.l.length:Int):=J
  refine dC.of ?_;rw [ZB];simp only [Wn,zz,c1];exact .out (Ha fun t x ht R=>by have:=R.r.t1; omega)
 |j+1,i,hi=>by
  have c1:(i:Int)<(d1.l.length:Int):=J
  have hb:=U.len;have w:=bS (n:=i) J;obtain⟨x,R⟩:=M.thr S J h0 U (by omega:(0:Int)<=(i:Int)) c1;obtain⟨s',k',e1,e2,e3,e4,e5,oc,A⟩:=yr S J h0 U (i:Int);have hA:=A.eq;obtain⟨a,b,c,d,e,hq,_⟩:=QO d1 (i:Int) x;have Ul:=N7 R;rw [hq] at Ul;have ih:=Dq M j (i+1) J
  have stay:Cb d0 d1 s k (i:Int) x↔(oc=0\/oc=4)/\¬(a=4/\d<c):=by unfold Cb;rw [hq];refine⟨fun⟨s2,k2,f1,f2,f3,f4,f5,oc2,q1,q2,q3⟩=>?_,fun⟨q1,q2⟩=> ⟨s',k',e1,e2,e3,e4,e5,oc,hA,q1,q2⟩⟩;rw [hA] at q1;simp only [ah,List.cons.injEq,and_true] at q1;exact⟨J,q3⟩
  have no: ¬Cb d0 d1 s k (i:Int) x->Ki (∀(t:Int) (x:KT),(i:Int)<=t->Rs d0 d1 s k t x->Cb d0 d1 s k t x) [0]:=fun h=>tO fun q=>h (q _ _ (Int.le_refl _) R)
  have yes:Cb d0 d1 s k (i:Int) x->dC 2551 [(d1.l.length:Int),((i+1:Nat):Int),enc d0,enc d1,enc s,enc k] (Ki (∀(t:Int) (x:KT),(i:Int)<=t->Rs d0 d1 s k t x->Cb d0 d1 s k t x)):=fun h=>by
   obtain⟨ys,hL,b,rfl,hb⟩:=ih;refine⟨_,hL,b,rfl,hb.imp (fun q=> ⟨q.1,fun g=>q.2 fun t y ht Ry=>g t y J Ry⟩) (fun q=> ⟨q.1,fun t y ht Ry=>?_⟩)⟩;by_cases fP:t=(i:Int)
   ·subst fP;have:=Oc (Ry.hk.symm.trans R.hk);rw [this];exact h
   ·exact q.2 t y J Ry
  refine dC.of ?_;rw [ZB];simp only [Wn,zz,c1,hA,Ul,w];refine .ite (fun o0=> .ite (fun a4=> .ite (fun ff=> .out (no fun h=>(stay.1 h).2 ⟨a4,ff⟩)) (fun ff=> .jump (yes (stay.2 ⟨.inl o0,fun h=>ff h.2⟩)))) (fun a4=> .jump (yes (stay.2 ⟨.inl o0,fun h=>a4 h.1⟩)))) (fun o0=> .ite (fun o4=> .ite (fun a4=> .ite (fun ff=> .out (no fun h=>(stay.1 h).2 ⟨a4,ff⟩)) (fun ff=> .jump (yes (stay.2 ⟨.inr o4,fun h=>ff h.2⟩)))) (fun a4=> .jump (yes (stay.2 ⟨.inr o4,fun h=>a4 h.1⟩)))) (fun o4=> .out (no fun h=>by rcases (stay.1 h).1 with h|h; exact o0 h; exact o4 h)))
theorem WX:dC 2550 [enc d0,enc d1,enc s,enc k] (Ki (Px d0 d1 s k)):=by
 obtain⟨ys,hM,b,rfl,hb⟩:=rP h0 U (S.g.l7 J).rows U.len (k:=k);refine dC.of ?_;rw [adm];simp only [abZ,zz,hM];refine .ite (fun h=> .out (tO fun q=>?_)) (fun h=>?_)
 ·rcases hb with ⟨_,hb⟩|⟨h',_⟩
  ·exact hb q.1
  ·omega
 ·have M:MR d0 d1 s k:=by
   rcases hb with ⟨h',_⟩|⟨_,hb⟩
   ·exact absurd h' h
   ·exact hb
  obtain⟨ys,hL,b',rfl,Ci⟩:=Dq S hn h0 U M d1.l.length 0 J;rw [amX] at hL;refine .jump ⟨_,hL,b',rfl,Ci.imp (fun q=> ⟨q.1,fun g=>q.2 fun t x _ R=>g.2 t x R⟩) (fun q=> ⟨q.1,M,fun t x R=>q.2 t x (by have:=R.r.t0; omega) R⟩)⟩
theorem XV {t obj arg tr:Int} {s':D} {e1 e2 e3 e4 e5 oc:Int} (A:Fv d0 d1 s t 4 obj arg tr n s' e1 e2 e3 e4 e5 oc) (ho:oc=0) (ht: ¬tr<arg): ¬Acc d0 d1 s t 4 obj:=fun h=>by
 obtain⟨_,o,c,dn,g,r,v,T,hL⟩:=Cx (arg:=arg) (tries:=tr) h0 U S.g.wd (S.g.l7 J) (⟨J,J⟩ : gq .u8 4) h;rw [A.eq,CF] at hL
 have e:act (Mx d0 obj) (Mo d0 s obj) t 4 arg tr o c dn g r v=if o<0 then .res t c dn g r v none 1 2 else .res o c dn g r v none 0 2:=by simp only [act,Int.reduceEq,if_false,if_true,reduceIte,af ht]
 rw [e] at hL;by_cases Z:o<0
 ·rw [ag Z] at hL;simp only [evA,ah,List.cons.injEq,and_true] at hL;omega
 ·rw [af Z] at hL;simp only [evA,ah,List.cons.injEq,and_true] at hL;omega
end
end Go.As.Try
end
section
namespace Go.As.Try
open Go hiding Stat Spec shape
open Go.As
set_option maxRecDepth 100000
set_option linter.unusedSimpArgs false
set_option linter.unusedVariables false
structure Kp (x k o dn:Int) (r:D) (o' Kl:Int) (r':D):Prop where
 own: ∀u,u≠x->0<=u->o=u->o'=u
 row:k≠4->∀u,u≠x->u∈r.l.map D.n->u∈r'.l.map D.n
 nor: ∀t,t≠x->t∉r.l.map D.n->t∉r'.l.map D.n
 dn: ∀u,u≠x->0<=u->o=u->dn=0->Kl=0
 ot: ∀t,t≠x->0<=t->o'=t->o=t
theorem Kp.same (x k o dn:Int) (r:D):Kp x k o dn r o dn r:=⟨fun _ _ _ h=>h,fun _ _ _ h=>h,fun _ _ h=>h,fun _ _ _ _ h=>h,fun _ _ _ h=>h⟩
def abp (x k mo o dn:Int) (r:D):Act->Prop
 | .res o' _ Kl _ r' _ m _ _=>Kp x k o dn r o' Kl r'/\(∀q,m=some q->(q=x\/q<0)/\∀u,u≠x->0<=u->mo≠u)
 |_=>True
theorem abp.ite {x k mo o dn:Int} {r:D} {p:Prop} [Decidable p] {a b:Act} (ha:p->abp x k mo o dn r a) (hb: ¬p->abp x k mo o dn r b):abp x k mo o dn r (if p then a else b):=by
 grind
theorem W8 {l:List D} {t u:Int}:u∈(l++ [D.i t]).map D.n↔u∈l.map D.n\/u=t:=by simp [ane,D.n]
section
variable {x k M mo th op arg tries o c dn g:Int} {r v:D}
end
end Go.As.Try
end
section
namespace Go.As.Try
open Go hiding Stat Spec shape
open Go.As
set_option maxRecDepth 100000
set_option linter.unusedSimpArgs false
set_option linter.unusedVariables false
set_option linter.unusedSectionVars false
theorem VY {o c dn g o' c' Kl g':Int} {r v r' v':D} (h:dL [.i o,.i c,.i dn,.i g,r,v]=dL [.i o',.i c',.i Kl,.i g',r',v']):o=o'/\c=c'/\dn=Kl/\g=g'/\r=r'/\v=v':=by simp only [dZ,eQ,D.p.injEq,D.i.injEq,and_true] at h;exact h
section
variable {d0 d1 s k:D} {n:Nat} (S:Sx s k n) (hn:n<17592186043800) (h0:Wd (.sl 3) d0) (U:Wd (.sl 4) d1) (M:MR d0 d1 s k)
include S hn h0 U M
end
def Hld (d0 s:D) (t op obj u:Int):Prop:=0<=u/\∃o c dn g r v,Tg (s.at obj) o c dn g r v/\
 ((op=1\/op=4)/\o≠t/\o=u\/(op=5\/op=16)/\o=u\/op=7/\(o=u\/u∈r.l.map D.n)\/op=24/\t∉r.l.map D.n/\Mo d0 s obj=u)
def Bl (d0 d1 s:D) (t op obj arg tr:Int):Prop:= ¬Acc d0 d1 s t op obj\/∃o c dn g r v,Tg (s.at obj) o c dn g r v/\act (Mx d0 obj) (Mo d0 s obj) t op arg tr o c dn g r v= .jX
theorem yL {r:D} {t:Int}:place r t<0↔t∉r.l.map D.n:=by
 rcases lW r t with ⟨U,Z⟩|⟨k,hk,U,Z,_⟩
 ·exact⟨fun _ h=>by obtain⟨x,hx,e⟩:=aH.1 h; exact Z x hx e,fun _=>by omega⟩
 ·exact⟨fun h=>by omega,fun h=>absurd (aH.2 ⟨_,az hk,Z⟩) h⟩
structure akL (d0 d1:D) (op obj:Int):Prop where
 o0:0<=obj
 o1:obj<(d0.l.length:Int)
 h7:op=7->((d0.at obj).hd 0).n≠4
 h4:op=4->((d0.at obj).hd 0).n=1
 h24:op=24->((d0.at obj).hd 0).n=4
section
variable {d0 d1 s k:D} {n:Nat} (S:Sx s k n) (hn:n<17592186043800) (h0:Wd (.sl 3) d0) (U:Wd (.sl 4) d1) (M:MR d0 d1 s k)
include S hn h0 U M
end
theorem acG: ∀(m:Nat) (l:List D),Af (m:Int) l->l.length<=m
 |0,l,h=>by
  cases l with
  |nil=>simp
  |cons a l=>have:=h.1 a (anw ..); omega
 |m+1,l,h=>by
  have hw:Af (m:Int) (wo (m:Int) l):=by
   refine⟨fun x hx=>?_,(V' h List.filter_sublist).2⟩;obtain⟨a,b⟩:=am1.1 hx;have:=h.1 x a;have:x.n≠(m:Int):=by simpa using b
   omega
  have ih:=acG m _ hw;rcases lW (dL l) (m:Int) with ⟨_,Aj⟩|⟨k,hk,_,Z,_⟩
  ·rw [bJ] at Aj;rw [sq Aj] at ih;omega
  ·simp only [bJ] at hk Z
   have hle:l.length<=(wo (m:Int) l).length+1:=by
    have e:l=l.take k++l[k]::l.drop (k+1):=by rw [<- bh hk,anb]
    have nd:=h.2;rw [e,ane,aw,aof] at nd;obtain⟨_,n2,n3⟩:=nd;rw [anf] at n2;have w1:wo (m:Int) (l.take k)=l.take k:=sq fun x hx hq=>n3 x.n (aH.2 ⟨x,hx,rfl⟩) (l[k]).n (anw ..) (hq.trans Z.symm);have w2:wo (m:Int) (l.drop (k+1))=l.drop (k+1):=sq fun x hx hq=>n2.1 (aH.2 ⟨x,hx,hq.trans Z.symm⟩)
    have w3:wo (m:Int) l=wo (m:Int) (l.take k)++(wo (m:Int) (l.drop (k+1))):=by
     have:wo (m:Int) l=wo (m:Int) (l.take k++l[k]::l.drop (k+1)):=by rw [<- e]
     rw [this];unfold wo;rw [aoL,List.filter_cons_of_neg (by simpa using Z)]
    rw [w3,w1,w2,aT,a8,amU];omega
   omega
def Ls (P:Int->Prop) (ys:List Int):Prop:= ∃l:D,ys= [enc l]/\(∀u,u∈l.l.map D.n↔P u)/\l.l.length<1000000
theorem kM {P:Int->Prop} (h: ∀u,¬P u):Ls P [enc (.i 1)]:=⟨.i 1,rfl,fun u=> ⟨fun q=>by simp [D.l] at q,fun q=>absurd q (h u)⟩,by simp [D.l]⟩
theorem IY {P:Int->Prop} {d x:D} (hd:d.l.length<1000000) (h: ∀u,u∈d.l.map D.n↔P u):Ls P [enc (eY x ((gk (eO d.l)++List.replicate ((eO d.l).length-(gk (eO d.l)).length) (D.i 0)).take (((gk (eO d.l)).length:Int)).toNat))]:=by
 refine⟨_,rfl,fun u=>?_,?_⟩
 ·rw [gw,bd,List.take_left,T3,T1];exact h u
 ·rw [gw,bd,List.take_left];have:=j_ (eO d.l);rw [zT] at this;omega
theorem Ay {d:D} (hd:d.l.length<1000000):((d.l.length:Int)<1000000)/\(((eO d.l).length:Int)<1000000)/\¬(((gk (eO d.l)).length:Int)<0)/\¬(((gk (eO d.l)++List.replicate ((eO d.l).length-(gk (eO d.l)).length) (D.i 0)).length:Int)<((gk (eO d.l)).length:Int)):=by refine⟨J,by rw [zT]; omega,J,?_⟩;rw [aT];omega
def HP (op t o mo:Int) (r:D) (u:Int):Prop:=0<=u/\((op=1\/op=4)/\o≠t/\o=u\/(op=5\/op=16)/\o=u\/op=7/\(o=u\/u∈r.l.map D.n)\/op=24/\t∉r.l.map D.n/\mo=u)
section
variable {d0 s:D} {obj o c dn g:Int} {r v:D} (x1 k t a tr:Int) (o0:0<=obj) (o1:obj<(s.l.length:Int)) (T:Tg (s.at obj) o c dn g r v) (hr:r.l.length<=16) (aiy: ∀x∈r.l,0<=x.n)
include o0 o1 T hr aiy
theorem aag {op:Int} (h:op=1\/op=4\/op=5\/op=16):dC 23450 [enc d0,x1,enc s,k,t,op,obj,a,tr] (Ls (HP op t o (Mo d0 s obj) r)):=by
 have eo:((s.at obj).hd 0).n=o:=by rw [T.is]; rfl
 have c1: ¬obj<0:=J
 have hs:=Ay (d:=dL [D.i o]) (by simp [bJ]);rw [bJ] at hs;obtain⟨f1,f2,f3,f4⟩:=hs
 have hw: ∀(x:D) (P:Int->Prop),(∀u,u=o↔P u)->Ls P [enc (eY x ((gk (eO [D.i o])++List.replicate ((eO [D.i o]).length-(gk (eO [D.i o])).length) (D.i 0)).take (((gk (eO [D.i o])).length:Int)).toNat))]:=fun x P h=>by have:=IY (d:=dL [D.i o]) (x:=x) (P:=P) (by simp [bJ]) (fun u=>by rw [bJ]; simpa [D.n] using h u);rw [bJ] at this;exact this
 have step: ∀Q:Int->Prop,(∀u,HP op t o (Mo d0 s obj) r u↔Q u)->dC 23450 [enc d0,x1,enc s,k,t,op,obj,a,tr] (Ls Q)->dC 23450 [enc d0,x1,enc s,k,t,op,obj,a,tr] (Ls (HP op t o (Mo d0 s obj) r)):=fun Q hQ h=>h.mono fun ys ⟨l,e,hm,Y⟩=> ⟨l,e,fun u=>(hm u).trans (hQ u).symm,Y⟩;rcases h with rfl|rfl|rfl|rfl
 ·refine step (fun u=>0<=u/\o≠t/\o=u) (fun u=>by simp [HP]) (dC.of ?_);rw [vq];simp only [sB,zz,c1,o1,eo,pN,pO,pP,bJ,mI,ay,f1,f2,f3,f4,Int.reduceEq];exact .ite (fun _=> .out (kM fun u=>by omega)) fun _=> .ite (fun _=> .out (kM fun u=>by omega)) fun _=> .out (hw _ _ fun u=>by omega)
 ·refine step (fun u=>0<=u/\o≠t/\o=u) (fun u=>by simp [HP]) (dC.of ?_);rw [vq];simp only [sB,zz,c1,o1,eo,pN,pO,pP,bJ,mI,ay,f1,f2,f3,f4,Int.reduceEq];exact .ite (fun _=> .out (kM fun u=>by omega)) fun _=> .ite (fun _=> .out (kM fun u=>by omega)) fun _=> .out (hw _ _ fun u=>by omega)
 ·refine step (fun u=>0<=u/\o=u) (fun u=>by simp [HP]) (dC.of ?_);rw [vq];simp only [sB,zz,c1,o1,eo,pN,pO,pP,bJ,mI,ay,f1,f2,f3,f4,Int.reduceEq];exact .ite (fun _=> .out (kM fun u=>by omega)) fun _=> .out (hw _ _ fun u=>by omega)
 ·refine step (fun u=>0<=u/\o=u) (fun u=>by simp [HP]) (dC.of ?_);rw [vq];simp only [sB,zz,c1,o1,eo,pN,pO,pP,bJ,mI,ay,f1,f2,f3,f4,Int.reduceEq];exact .ite (fun _=> .out (kM fun u=>by omega)) fun _=> .out (hw _ _ fun u=>by omega)
theorem aiM:dC 23450 [enc d0,x1,enc s,k,t,7,obj,a,tr] (Ls (HP 7 t o (Mo d0 s obj) r)):=by
 have eo:((s.at obj).hd 0).n=o:=by rw [T.is]; rfl
 have er:(s.at obj).hd 4=r:=by rw [T.is]; rfl
 have c1: ¬obj<0:=J
 have sf: ∀l:List D,l.length<1000000->((l.length:Int)<1000000)/\(((eO l).length:Int)<1000000)/\¬(((gk (eO l)).length:Int)<0)/\¬(((gk (eO l)++List.replicate ((eO l).length-(gk (eO l)).length) (D.i 0)).length:Int)<((gk (eO l)).length:Int)):=fun l h=>by have:=Ay (d:=dL l) (by rw [bJ]; exact h);rw [bJ] at this;exact this
 have hw: ∀(l:List D) (x:D) (P:Int->Prop),l.length<1000000->(∀u,u∈l.map D.n↔P u)->Ls P [enc (eY x ((gk (eO l)++List.replicate ((eO l).length-(gk (eO l)).length) (D.i 0)).take (((gk (eO l)).length:Int)).toNat))]:=fun l x P Y h=>by have:=IY (d:=dL l) (x:=x) (P:=P) (by rw [bJ]; exact Y) (fun u=>by rw [bJ]; exact h u);rw [bJ] at this;exact this
 have l1:[D.i o].length<1000000:=ad
 have l2:r.l.length<1000000:=J
 have l3:([D.i o]++r.l).length<1000000:=by simp; omega
 obtain⟨f1,f2,f3,f4⟩:=sf _ l1;obtain⟨g1,g2,g3,g4⟩:=sf _ l2;obtain⟨U,Z,h3,h4⟩:=sf _ l3;have b1:(r.l.length:Int)<17592186044416:=J
 have b2:(r.l.length:Int)<17592185044416:=J
 have rp: ∀u,u∈r.l.map D.n->0<=u:=fun u hu=>by obtain⟨y,hy,rfl⟩:=aH.1 hu;exact aiy y hy
 refine dC.mono (p:=Ls fun u=>0<=u/\(o=u\/u∈r.l.map D.n)) (dC.of ?_) fun ys ⟨l,e,hm,Y⟩=> ⟨l,e,fun u=>(hm u).trans (by simp [HP]),Y⟩;rw [vq];simp only [sB,zz,c1,o1,eo,er,pN,pO,pP,bJ,mI,ay,f1,f2,f3,f4,g1,g2,g3,g4,U,Z,h3,h4,b1,b2,Int.reduceEq]
 have r0:(r.l.length:Int)=0->∀u,u∉r.l.map D.n:=fun h u hu=>by rw [amT (by omega:r.l.length=0)] at hu;simp at hu
 refine .ite (fun ho=> .ite (fun hz=> .out (kM fun u h=>?_)) fun hz=> .out (hw _ _ _ l2 fun u=>?_)) fun ho=> .ite (fun hz=> .out (hw _ _ _ l1 fun u=>?_)) fun hz=> .out (hw _ _ _ l3 fun u=>?_)
 ·rcases h.2 with h'|h'
  ·omega
  ·exact r0 hz u h'
 ·refine⟨fun h=> ⟨rp u h,.inr h⟩,fun h=>?_⟩;rcases h.2 with h'|h'
  ·omega
  ·exact h'
 ·refine⟨fun h=>?_,fun h=>?_⟩
  ·have:u=o:=by simpa [D.n] using h
   exact⟨J,.inl this.symm⟩
  ·rcases h.2 with h'|h'
   ·simp [D.n,h']
   ·exact absurd h' (r0 hz u)
 ·rw [ane];refine⟨fun h=>?_,fun h=>?_⟩
  ·rcases amW.1 h with h|h
   ·have:u=o:=by simpa [D.n] using h
    exact⟨J,.inl this.symm⟩
   ·exact⟨rp u h,.inr h⟩
  ·rcases h.2 with h'|h'
   ·exact aoO _ (by simp [D.n,h'])
   ·exact aoN _ h'
theorem aiO (hm:0<=((d0.at obj).hd 2).n/\((d0.at obj).hd 2).n<(s.l.length:Int)) (hd:obj<(d0.l.length:Int)):dC 23450 [enc d0,x1,enc s,k,t,24,obj,a,tr] (Ls (HP 24 t o (Mo d0 s obj) r)):=by
 have er:(s.at obj).hd 4=r:=by rw [T.is]; rfl
 have c1: ¬obj<0:=J
 obtain⟨m0,m1⟩:=hm;have c2: ¬((d0.at obj).hd 2).n<0:=J
 have hP:=dJ r t J;generalize hmo:Mo d0 s obj=mo;have ajy:((s.at ((d0.at obj).hd 2).n).hd 0).n=mo:=hmo;have hs:=Ay (d:=dL [D.i mo]) (by simp [bJ]);rw [bJ] at hs;obtain⟨f1,f2,f3,f4⟩:=hs
 have hw: ∀(x:D) (P:Int->Prop),(∀u,u=mo↔P u)->Ls P [enc (eY x ((gk (eO [D.i mo])++List.replicate ((eO [D.i mo]).length-(gk (eO [D.i mo])).length) (D.i 0)).take (((gk (eO [D.i mo])).length:Int)).toNat))]:=fun x P h=>by have:=IY (d:=dL [D.i mo]) (x:=x) (P:=P) (by simp [bJ]) (fun u=>by rw [bJ]; simpa [D.n] using h u);rw [bJ] at this;exact this
 refine dC.mono (p:=Ls fun u=>0<=u/\t∉r.l.map D.n/\mo=u) (dC.of ?_) fun ys ⟨l,e,hm,Y⟩=> ⟨l,e,fun u=>(hm u).trans (by simp [HP]),Y⟩;rw [vq];by_cases hp:place r t<0
 ·rw [ag hp] at hP;simp only [sB,zz,c1,c2,o1,er,hd,m1,hP,ajy,pN,pO,pP,bJ,mI,ay,f1,f2,f3,f4,Int.reduceEq];have:=yL.1 hp;exact .ite (fun _=> .out (kM fun u h=>by have:=h.1; have:=h.2.2; omega)) fun _=> .out (hw _ _ fun u=> ⟨fun h=> ⟨J,this,h.symm⟩,fun h=>h.2.2.symm⟩)
 ·rw [af hp] at hP;simp only [sB,zz,c1,c2,o1,er,hd,m1,hP,ajy,pN,pO,pP,bJ,mI,ay,f1,f2,f3,f4,Int.reduceEq,bG];exact .out (kM fun u h=>hp (yL.2 h.2.1))
theorem aiN {op:Int} (h:op≠1/\op≠4/\op≠5/\op≠16/\op≠7/\op≠24):dC 23450 [enc d0,x1,enc s,k,t,op,obj,a,tr] (Ls (HP op t o (Mo d0 s obj) r)):=by
 have c1: ¬obj<0:=J
 obtain⟨a1,a2,a3,a4,a5,a6⟩:=h;refine dC.of ?_;rw [vq];simp only [sB,zz,c1,o1,a1,a2,a3,a4,a5,a6];exact .out (kM fun u h=>by simp [HP,a1,a2,a3,a4,a5,a6] at h)
end
theorem SH {d0 d1:D} {t:Int} {x:KT} (C:Cd d0 d1) (Z?: ∀y∈d1.l,D8 d0 y) (R:Rt d0 d1 t x) (ho:iB d1 t x=0) {op obj arg tr:Int} (hq:iO d1 t x= [op,obj,arg,tr,1]):akL d0 d1 op obj:=by
 have ok:=R.ok;unfold iB at ho;unfold iO at hq;by_cases w0:x.w=0
 ·rw [ag w0] at ho hq;by_cases a0:x.a=(Nc d1 t:Int)
  ·rw [ag a0] at ho; omega
  rw [af a0] at ho hq;have ha:x.a<(Nc d1 t:Int):=by have:=ok.1; have:=ok.2.1; unfold Nc at a0 ⊢; omega
  have I:=(C.inf R ha).ok;have mem:Ins d1 t x∈((d1.at t).hd 2).l:=DX ok.1 ha;have hJ:=Z? _ (DX R.t0 R.t1) _ mem;by_cases d1':((Ins d1 t x).hd 0).n=1
  ·rw [ag d1'] at hq;simp only [List.cons.injEq,and_true] at hq;obtain⟨rfl,rfl,_,_⟩:=hq;obtain⟨j1,j2,j3⟩:=hJ.2 d1';have:0<=((Ins d1 t x).hd 2).n/\((Ins d1 t x).hd 2).n<(d0.l.length:Int):=by unfold OkI at I; omega
   exact⟨this.1,this.2,j2,j3,fun h=>by omega⟩
  ·rw [af d1'] at hq;by_cases d2':((Ins d1 t x).hd 0).n=2
   ·rw [ag d2'] at hq;simp only [List.cons.injEq,and_true] at hq;obtain⟨rfl,rfl,_,_⟩:=hq;have:0<=((Ins d1 t x).hd 2).n/\((Ins d1 t x).hd 2).n<(d0.l.length:Int):=by unfold OkI at I; omega
    exact⟨this.1,this.2,fun h=>by omega,fun h=>by omega,fun h=>by omega⟩
   ·rw [af d2'] at hq;simp at hq
 ·rw [af w0] at hq;simp only [List.cons.injEq,and_true] at hq;obtain⟨rfl,rfl,_,_⟩:=hq;have hw:=ok.2.2.2.2.2;rcases hw with h|⟨h,a,b,c⟩|⟨h,a,b,c⟩
  ·omega
  ·exact⟨a,b,fun h'=>by omega,fun h'=>by omega,fun _=>c⟩
  ·exact⟨a,b,fun h'=>by omega,fun h'=>by omega,fun h'=>by omega⟩
theorem adG {d0 d1 s s':D} {t op obj arg tr e1 e2 e3 e4 e5 oc:Int} {n:Nat} (h0:Wd (.sl 3) d0) (U:Wd (.sl 4) d1) (G:Gs s n) (hn:n<17592186043904) (w6:gq .u8 op) (A:Fv d0 d1 s t op obj arg tr n s' e1 e2 e3 e4 e5 oc):oc=0↔Bl d0 d1 s t op obj arg tr:=by
 have hf:=G.l7 (by omega:n<17592186044415);have hA:=A.eq;by_cases h:Acc d0 d1 s t op obj
 ·obtain⟨_,o,c,dn,g,r,v,T,hL⟩:=Cx (arg:=arg) (tries:=tr) h0 U G.wd hf w6 h;rw [CF] at hL;rw [hA] at hL;have w:=akG (M:=Mx d0 obj) (mo:=Mo d0 s obj) (th:=t) (op:=op) (arg:=arg) (tries:=tr) (o:=o) (c:=c) (dn:=dn) (g:=g) (r:=r) (v:=v)
  have hb:oc=0↔act (Mx d0 obj) (Mo d0 s obj) t op arg tr o c dn g r v= .jX:=by
   cases hB:act (Mx d0 obj) (Mo d0 s obj) t op arg tr o c dn g r v with
   |jX=> rw [hB] at hL;simp only [evA,ah,List.cons.injEq,and_true] at hL;exact⟨fun _=>rfl,fun _=>hL.2.2.2.2.2.2⟩
   |yc=> rw [hB] at hL;simp only [evA,ah,List.cons.injEq,and_true] at hL;exact⟨fun h=>by omega,fun h=>by simp at h⟩
   |res o' c' Kl g' r' v' m a oc'=>
    rw [hB] at hL w;simp only [evA,ah,List.cons.injEq,and_true] at hL
    have:oc'=2\/oc'=3:=by rcases w with w|w; exact .inl w; exact .inr w.1
    exact⟨fun h=>by omega,fun h=>by simp at h⟩
  refine hb.trans ⟨fun q=> .inr ⟨o,c,dn,g,r,v,T,q⟩,fun q=>?_⟩;obtain⟨o2,c2,dn2,g2,r2,v2,T2,hB⟩:=q.resolve_left (fun q=>q h);obtain⟨rfl,rfl,rfl,rfl,rfl,rfl⟩:=VY (T.is.symm.trans T2.is);exact hB
 ·have hL:=Nk (arg:=arg) (tries:=tr) h0 U G.wd hf w6 h;rw [hA] at hL;simp only [ah,List.cons.injEq,and_true] at hL;exact⟨fun _=> .inl h,fun _=>hL.2.2.2.2.2.2⟩
def UP (d0 d1 s k:D) (t u:Int):Prop:= ∃x op obj arg tr,Rs d0 d1 s k t x/\iB d1 t x=0/\iO d1 t x= [op,obj,arg,tr,1]/\Bl d0 d1 s t op obj arg tr/\Hld d0 s t op obj u
theorem aiZ {d0 d1 s k:D} {n:Nat} (S:Sx s k n) (hn:n<17592186043800) (h0:Wd (.sl 3) d0) (U:Wd (.sl 4) d1) (M:MR d0 d1 s k): ∀y∈d1.l,D8 d0 y:=by obtain⟨hC,_,_⟩:=yG h0 U S.g J M.1;obtain⟨ys,hC',c,rfl,_,oM⟩:=Fi h0 U;rw [hC] at hC';simp only [ah,List.cons.injEq,and_true] at hC';exact (oM hC'.symm).2
section
variable {d0 d1 s k:D} {n:Nat} (S:Sx s k n) (hn:n<17592186043800) (h0:Wd (.sl 3) d0) (U:Wd (.sl 4) d1) (M:MR d0 d1 s k)
include S hn h0 U M
theorem aav {t op obj:Int} (k4 a tr:Int) (Q:akL d0 d1 op obj):dC 23450 [enc d0,enc d1,enc s,enc k,t,op,obj,a,tr] (Ls (Hld d0 s t op obj)):=by
 obtain⟨hC,ok,hle⟩:=yG h0 U S.g J M.1;have q0:=Q.o0;have q1:=Q.o1;obtain⟨o,c,dn,g,r,v,T,_⟩:=RP S.g q0 (by omega:obj<(s.l.length:Int));have hS:=Xl h0 U S.g J M.1 q0 J T;have hr:r.l.length<=16:=by have:=acG _ _ hS.2.1; have:=ok.2.1; omega
 have rp: ∀x∈r.l,0<=x.n:=fun x hx=>(hS.2.1.1 x hx).1
 have key:dC 23450 [enc d0,enc d1,enc s,enc k,t,op,obj,a,tr] (Ls (HP op t o (Mo d0 s obj) r)):=by
  by_cases a1:op=1\/op=4\/op=5\/op=16
  ·exact aag _ _ t a tr q0 J T hr rp a1
  by_cases a2:op=7
  ·subst a2;exact aiM _ _ t a tr q0 J T hr rp
  by_cases a3:op=24
  ·subst a3;have hO:=ok.2.2 _ (DX (d:=d0) q0 q1);obtain⟨m0,m1,_⟩:=hO.2.2.2.2.2 (Q.h24 rfl);exact aiO _ _ t a tr q0 J T hr rp ⟨m0,J⟩ q1
  exact aiN _ _ t a tr q0 J T hr rp J
 refine key.mono fun ys ⟨l,e,hm,Y⟩=> ⟨l,e,fun u=>(hm u).trans ⟨fun h=> ⟨h.1,o,c,dn,g,r,v,T,h.2⟩,fun h=>?_⟩,Y⟩;obtain⟨u0,o2,c2,dn2,g2,r2,v2,T2,hc⟩:=h;obtain⟨rfl,rfl,rfl,rfl,rfl,rfl⟩:=VY (T.is.symm.trans T2.is);exact⟨u0,hc⟩
theorem qT {t:Int} {x y:KT} (R:Rs d0 d1 s k t x) (R':Rs d0 d1 s k t y):x=y:=Oc (R.hk.symm.trans R'.hk)
theorem YX {t:Int} (t0:0<=t) (t1:t<(d1.l.length:Int)):dC 23400 [enc d0,enc d1,enc s,enc k,t] (Ls (UP d0 d1 s k t)):=by
 obtain⟨x,R⟩:=M.thr S J h0 U t0 t1;have Ul:=N7 R;obtain⟨s',k',e1,e2,e3,e4,e5,oc,hL,H⟩:=sE S J h0 U t;have Z?:=aiZ S hn h0 U M
 have no:low (iO d1 t x) 4=0->∀u,¬UP d0 d1 s k t u:=fun h u ⟨y,op,obj,arg,tr,Ry,_,hq,_⟩=>by rw [qT S hn h0 U M R Ry,hq] at h;simp [low] at h
 obtain⟨a,b,c,d,e,hq,he⟩:=QO d1 t x;rw [hq] at Ul no;refine dC.of ?_;rw [Pa];rcases he with rfl|rfl
 ·simp only [Dm,zz,Ul];exact .out (kM (no rfl))
 ·cases H with
  |no h=>rw [R.yes] at h; simp at h
  |over y Ry ho=>
   have e:=qT S hn h0 U M R Ry;subst e;unfold iB at ho;unfold iO at hq;by_cases w0:x.w=0
   ·rw [ag w0] at ho hq;by_cases a0:x.a=(Nc d1 t:Int)
    ·rw [ag a0] at hq; simp at hq
    ·rw [af a0] at ho; omega
   ·rw [af w0] at ho; omega
  |loc y Ry ho ha=> have e:=qT S hn h0 U M R Ry;subst e;rw [hq] at ha;simp [low] at ha
  |tri y Ry ho op obj arg tr Ue k1 k2 k3 fP s' e1 e2 e3 e4 e5 oc A T=>
   have e:=qT S hn h0 U M R Ry;subst e;rw [hq] at Ue;simp only [List.cons.injEq,and_true] at Ue;obtain⟨rfl,rfl,rfl,rfl⟩:=Ue;have B:=adG h0 U S.g J k1 A;have Q:=SH R.c Z? R.r ho hq;by_cases o0:oc=0
   ·obtain⟨ys,hH,l,rfl,hm,Y⟩:=aav S hn h0 U M (t:=t) 0 c d Q;subst o0;simp only [Dm,zz,Ul,hL,hH,bG];refine .out ⟨l,rfl,fun u=>(hm u).trans ⟨fun h=> ⟨x,a,b,c,d,R,ho,hq,B.1 rfl,h⟩,fun⟨y,op,obj,arg,tr,Ry',_,Yp,_,hH⟩=>?_⟩,Y⟩;have e:=qT S hn h0 U M R Ry';subst e;rw [hq] at Yp;simp only [List.cons.injEq,and_true] at Yp;obtain⟨rfl,rfl,rfl,rfl⟩:=Yp;exact hH
   ·simp only [Dm,zz,Ul,hL,af o0,bG];refine .out (kM fun u ⟨y,op,obj,arg,tr,Ry',_,Yp,hB,_⟩=>?_);have e:=qT S hn h0 U M R Ry';subst e;rw [hq] at Yp;simp only [List.cons.injEq,and_true] at Yp;obtain⟨rfl,rfl,rfl,rfl⟩:=Yp;exact o0 (B.2 hB)
end
def F2 (d0 d1 s k:D) (u:Int):Prop:= ∃x,Rs d0 d1 s k u x/\iB d1 u x=1
def Yc (l:D):Prop:= ∀x∈l.l,x= .i x.n
def Kpt (d0 d1 s k left:D) (t:Int):Prop:= ∃u,UP d0 d1 s k t u/\(u∈left.l.map D.n\/F2 d0 d1 s k u)
def PE (d0 d1 s k mp:D) (i:Int):Prop:= ∀t,0<=t->t<i->∃w:D,gf mp.l (.i t)=some w/\(∀u,u∈w.l.map D.n↔UP d0 d1 s k t u)/\w.l.length<1000000
section
variable {d0 d1 s k:D} {n:Nat} (S:Sx s k n) (hn:n<17592186043800) (h0:Wd (.sl 3) d0) (U:Wd (.sl 4) d1)
include S hn h0 U
open Classical in
theorem Jl (u:Int):L 1700 [enc d0,enc d1,enc s,enc k,u]=some [if F2 d0 d1 s k u then 1 else 0]:=by
 rcases KO (t:=u) S J h0 U with h|⟨x,R⟩
 ·rw [afT (n:=n) J h,af (fun⟨x,R,_⟩=>by rw [R.yes] at h; simp at h)]
 ·rw [afU (n:=n) J R];rcases CD d1 u x with ho|ho
  ·rw [ho,af (fun⟨y,Ry,hy⟩=>by rw [Oc (Ry.hk.symm.trans R.hk),ho] at hy; omega)]
  ·rw [ho,ag ⟨x,R,ho⟩]
theorem G4 (w left:D) (hw:w.l.length<1000000) (Y:left.l.length<=1000): ∀(j i:Nat),i+j=w.l.length->dC 13301 [enc w,enc left,enc d0,enc d1,enc s,enc k,(w.l.length:Int),(i:Int)]
 (fun ys=> ∃z:Int,ys= [0,enc w,enc left,enc d0,enc d1,enc s,enc k,z]/\(z<0↔∀u∈(w.l.drop i).map D.n,¬(u∈left.l.map D.n\/F2 d0 d1 s k u)))
 |0,i,hi=>by
  have c1: ¬(i:Int)<(w.l.length:Int):=J
  refine dC.of ?_;rw [Pb];simp only [Dn,zz,c1];exact .out ⟨-1,rfl,fun _ u hu=>by rw [anm J] at hu; simp at hu,fun _=>by omega⟩
 |j+1,i,hi=>by
  have dX:i<w.l.length:=J
  have c1:(i:Int)<(w.l.length:Int):=J
  have c2: ¬((i:Int)<0):=J
  have wr:=bS (n:=i) J;have ih:=G4 w left hw Y j (i+1) J;have hp:=dJ left (w.l[i]).n J;have hf:=Jl S hn h0 U (w.l[i]).n;have ed:(w.l.drop i).map D.n=(w.l[i]).n::(w.l.drop (i+1)).map D.n:=by rw [bh dX,aw]
  refine dC.of ?_;rw [Pb];by_cases u6:place left (w.l[i]).n<0
  ·rw [ag u6] at hp;by_cases hF:F2 d0 d1 s k (w.l[i]).n
   ·rw [ag hF] at hf;simp only [Dn,zz,c1,c2,bX dX,hp,hf,bG];exact .out ⟨(i:Int),rfl,fun h=>by omega,fun h=>absurd (Or.inr hF) (h _ (by rw [ed]; exact anw ..))⟩
   ·rw [af hF] at hf;simp only [Dn,zz,c1,c2,bX dX,hp,hf,wr];obtain⟨ys,hL,z,rfl,hz⟩:=ih;refine .jump ⟨_,hL,z,rfl,hz.trans ⟨fun h u hu=>?_,fun h u hu=>h u (by rw [ed]; exact anG _ hu)⟩⟩;rw [ed] at hu;rcases ax.1 hu with rfl|hu
    ·exact fun q=>q.elim (yL.1 u6) hF
    ·exact h u hu
  ·rw [af u6] at hp;simp only [Dn,zz,c1,c2,bX dX,hp,bG];refine .out ⟨(i:Int),rfl,fun h=>by omega,fun h=>?_⟩;have:(w.l[i]).n∈left.l.map D.n:=Classical.byContradiction fun q=>u6 (yL.2 q);exact absurd (Or.inl this) (h _ (by rw [ed]; exact anw ..))
theorem aan (w left:D) (hw:w.l.length<1000000) (Y:left.l.length<=1000):dC 26750 [enc w,enc left,enc d0,enc d1,enc s,enc k]
 (fun ys=> ∃b:Int,ys= [enc left,enc d0,enc d1,enc s,enc k,b]/\(b=0/\(¬∃u∈w.l.map D.n,(u∈left.l.map D.n\/F2 d0 d1 s k u))\/b=1/\∃u∈w.l.map D.n,(u∈left.l.map D.n\/F2 d0 d1 s k u))):=by
 obtain⟨ys,hL,z,rfl,hz⟩:=G4 S hn h0 U w left hw Y w.l.length 0 J
 have alW:L 13300 [enc w,enc left,enc d0,enc d1,enc s,enc k]=some [0,enc w,enc left,enc d0,enc d1,enc s,enc k,z]:=by rw [amX] at hL;rw [bL,ZR];simp only [Wt,zz,bC];exact hL
 rw [am4] at hz;refine dC.of ?_;rw [Zy];simp only [Wj,zz,alW];refine .ite (fun h=> .out ⟨0,rfl,.inl ⟨rfl,fun⟨u,hu,q⟩=>hz.1 h u hu q⟩⟩) (fun h=> .out ⟨1,rfl,.inr ⟨rfl,?_⟩⟩);exact Classical.byContradiction fun q=>h (hz.2 fun u hu hq=>q ⟨u,hu,hq⟩)
theorem Rq {mp left:D} (Y:left.l.length<=1000) {i t:Int} (hm:PE d0 d1 s k mp i) (t0:0<=t) (t1:t<i): ∃w:D,gf mp.l (.i t)=some w/\∃b:Int,L 26750 [enc w,enc left,enc d0,enc d1,enc s,enc k]=some [enc left,enc d0,enc d1,enc s,enc k,b]/\
 (b=0/\¬Kpt d0 d1 s k left t\/b=1/\Kpt d0 d1 s k left t):=by
 obtain⟨w,hf,hu,hw⟩:=hm t t0 t1;obtain⟨ys,hL,b,rfl,hb⟩:=aan S hn h0 U w left hw Y;refine⟨w,hf,b,hL,hb.imp (fun⟨q,h⟩=> ⟨q,fun⟨u,U,Z⟩=>h ⟨u,(hu u).2 U,Z⟩⟩) (fun⟨q,u,U,Z⟩=> ⟨q,u,(hu u).1 U,Z⟩)⟩
theorem Lr {mp left:D} (Y:left.l.length<=1000) {m:Int} (hm:PE d0 d1 s k mp m) (hr: ∀x∈left.l,0<=x.n/\x.n<m): ∀(j i:Nat),i+j=left.l.length->
 dC 12951 [enc left,enc mp,enc d0,enc d1,enc s,enc k,(left.l.length:Int),(i:Int),enc left,enc d0,enc d1,enc s,enc k]
 (fun ys=> ∃z:Int,ys= [0,enc left,enc mp,enc d0,enc d1,enc s,enc k,z,enc left,enc d0,enc d1,enc s,enc k]/\((z= -1/\∀(q:Nat) (h:q<left.l.length),i<=q->Kpt d0 d1 s k left (left.l[q]).n)\/∃(q:Nat) (h:q<left.l.length),z=(q:Int)/\i<=q/\¬Kpt d0 d1 s k left (left.l[q]).n/\∀(p:Nat) (hp:p<q),i<=p->Kpt d0 d1 s k left (left.l[p]).n))
 |0,i,hi=>by
  have c1: ¬(i:Int)<(left.l.length:Int):=J
  refine dC.of ?_;rw [Pc];simp only [Ik,zz,c1];exact .out ⟨-1,rfl,.inl ⟨rfl,fun q h hq=>by omega⟩⟩
 |j+1,i,hi=>by
  have dX:i<left.l.length:=J
  have c1:(i:Int)<(left.l.length:Int):=J
  have c2: ¬((i:Int)<0):=J
  have wr:=bS (n:=i) J;obtain⟨r0,r1⟩:=hr _ (az dX);obtain⟨w,hf,b,hb,hc⟩:=Rq S hn h0 U (left:=left) Y hm r0 r1;have ih:=Lr Y hm hr j (i+1) J;refine dC.of ?_;rw [Pc];rcases hc with ⟨rfl,hk⟩|⟨rfl,hk⟩
  ·simp only [Ik,zz,c1,c2,bX dX,hf,hb,bq,aC,bG];exact .out ⟨(i:Int),rfl,.inr ⟨i,dX,rfl,au _,hk,fun p hp hip=>by omega⟩⟩
  ·simp only [Ik,zz,c1,c2,bX dX,hf,hb,bq,aC,bG,wr];obtain⟨ys,hL,z,rfl,hz⟩:=ih;refine .jump ⟨_,hL,z,rfl,?_⟩;rcases hz with ⟨e,hz⟩|⟨q,h,e,hiq,hnk,hz⟩
   ·refine .inl ⟨e,fun q h hq=>?_⟩;by_cases hqi:q=i
    ·subst hqi; exact hk
    ·exact hz q h J
   ·refine .inr ⟨q,h,e,J,hnk,fun p hp hip=>?_⟩;by_cases hpi:p=i
    ·subst hpi; exact hk
    ·exact hz p hp J
open Classical in
noncomputable def Ck (d0 d1 s k left:D) (l:List D):List D:=l.filter fun x=>decide (Kpt d0 d1 s k left x.n)
omit S hn h0 U in
open Classical in
theorem A6 {left:D} {l:List D} {j:Nat} (h:j<l.length):Ck d0 d1 s k left (l.take (j+1))=if Kpt d0 d1 s k left (l[j]).n then Ck d0 d1 s k left (l.take j)++ [l[j]] else Ck d0 d1 s k left (l.take j):=by
 unfold Ck;rw [an5 h,aoL];by_cases he:Kpt d0 d1 s k left (l[j]).n
 ·simp [he]
 ·simp [he]
open Classical in
theorem E4 {mp left:D} (Y:left.l.length<=1000) (ur:Yc left) {z:Int} (hm:PE d0 d1 s k mp z) (hr: ∀x∈left.l,0<=x.n/\x.n<z): ∀(m i j:Nat) (r:D),r.l.length=left.l.length->i<j->j+m=left.l.length->r.l.drop j=left.l.drop j->r.l.take i=Ck d0 d1 s k left (left.l.take j)->
 ∃(q:Nat) (r':D),q<left.l.length/\r'.l.length=left.l.length/\r'.l.take q=Ck d0 d1 s k left left.l/\
  L 12901 [enc left,enc mp,enc d0,enc d1,enc s,enc k,enc r,(i:Int),(j:Int),enc left,enc d0,enc d1,enc s,enc k]=some [1,enc left,enc mp,enc d0,enc d1,enc s,enc k,(q:Int),enc r',enc left,enc d0,enc d1,enc s,enc k]
 |0,i,j,r,FQ,RO,Z,h3,h4=>by
  have c1: ¬(j:Int)<(left.l.length:Int):=J
  have c2: ¬((i:Int)<0):=J
  have c3: ¬((left.l.length:Int)<(i:Int)):=J
  have c4: ¬((left.l.length:Int)-(i:Int)<0):=J
  have c5:(i:Int)+((left.l.length:Int)-(i:Int))=(left.l.length:Int):=J
  refine⟨i,dL (r.l.take i++List.replicate (r.l.length-i) (.i 0)),J,by rw [bJ]; simp only [aT,a8,ani]; omega,?_,?_⟩
  ·rw [bJ,List.take_append_of_le_length (by rw [a8]; omega),List.take_take,Nat.min_self,h4,anN J]
  ·rw [bL,JP];simp only [Il,zz,FQ,c1,c2,c3,c4,c5,bd,fin,hr]
 |m+1,i,j,r,FQ,RO,Z,h3,h4=>by
  have Kk:j<left.l.length:=J
  have hj:j<r.l.length:=J
  have c1:(j:Int)<(left.l.length:Int):=J
  have c2: ¬((j:Int)<0):=J
  have w:=bS (n:=j) J
  have hx:r.at (j:Int)=left.l[j]:=by
   rw [bX hj];rw [bh hj,bh Kk] at h3
   grind
  have h3':r.l.drop (j+1)=left.l.drop (j+1):=by
   rw [bh hj,bh Kk] at h3
   grind
  obtain⟨r0,r1⟩:=hr _ (az Kk);obtain⟨wl,hf,b,hb,hc⟩:=Rq S hn h0 U (left:=left) Y hm r0 r1;rcases hc with ⟨rfl,hk⟩|⟨rfl,hk⟩
  ·obtain⟨q,r',q1,q2,q3,ih⟩:=E4 Y ur hm hr m i (j+1) r FQ J J h3' (by rw [A6 Kk,af hk,h4]);refine⟨q,r',q1,q2,q3,?_⟩;rw [bL,JP];simp only [Il,zz,FQ,c1,c2,hx,hf,hb,bq,aC,bG,w,fin,ih]
  ·have c3: ¬((i:Int)<0):=J
   have c4:(i:Int)<(left.l.length:Int):=J
   have w2:=bS (n:=i) J;have hs:fC r.l (i:Int) (.i (left.l[j]).n)=r.l.set i left.l[j]:=by rw [pe,<- ur _ (az Kk)]
   obtain⟨q,r',q1,q2,q3,ih⟩:=E4 Y ur hm hr m (i+1) (j+1) (dL (fC r.l (i:Int) (.i (left.l[j]).n))) (by rw [bJ,gu,FQ]) J J
    (by rw [bJ,hs,aod J,h3'])
    (by rw [bJ,hs,an5 (by rw [anL]; omega),aoc (au _),aoM,h4,A6 Kk,ag hk])
   refine⟨q,r',q1,q2,q3,?_⟩;rw [bL,JP];simp only [Il,zz,FQ,c1,c2,c3,c4,hx,hf,hb,bq,aC,bG,w,w2,fin,ih]
open Classical in
theorem ago {mp left:D} (Y:left.l.length<=1000) (ur:Yc left) {m:Int} (hm:PE d0 d1 s k mp m) (hr: ∀x∈left.l,0<=x.n/\x.n<m) :
 ((∀x∈left.l,Kpt d0 d1 s k left x.n)/\L 12900 [enc left,enc mp,enc d0,enc d1,enc s,enc k]=some [0,enc left,enc mp,enc d0,enc d1,enc s,enc k,enc left,enc d0,enc d1,enc s,enc k])\/
 ∃(q:Nat) (r':D),q<left.l.length/\r'.l.length=left.l.length/\r'.l.take q=Ck d0 d1 s k left left.l/\L 12900 [enc left,enc mp,enc d0,enc d1,enc s,enc k]=some [1,enc left,enc mp,enc d0,enc d1,enc s,enc k,(q:Int),enc r',enc left,enc d0,enc d1,enc s,enc k]:=by
 obtain⟨ys,hL,z,rfl,hz⟩:=Lr S hn h0 U Y hm hr left.l.length 0 J
 have ajS:L 12950 [enc left,enc mp,enc d0,enc d1,enc s,enc k]=some [0,enc left,enc mp,enc d0,enc d1,enc s,enc k,z,enc left,enc d0,enc d1,enc s,enc k]:=by rw [amX] at hL;rw [bL,ZZ];simp only [WC,zz,bC];exact hL
 rcases hz with ⟨rfl,s8⟩|⟨q,hq,rfl,_,hnk,s8⟩
 ·refine .inl ⟨fun x hx=>?_,?_⟩
  ·obtain⟨p,hp,rfl⟩:=ank hx;exact s8 p hp J
  ·rw [bL,Pd];simp only [Nu,zz,ajS,bR]
 ·right;have c1: ¬(q:Int)= -1:=J
  have w:=bS (n:=q) J
  have h4:left.l.take q=Ck d0 d1 s k left (left.l.take (q+1)):=by rw [A6 hq,af hnk];unfold Ck;refine (List.filter_eq_self.2 fun x hx=>?_).symm;obtain⟨p,hp,rfl⟩:=ank hx;rw [a8] at hp;rw [List.getElem_take];exact decide_eq_true (s8 p J J)
  obtain⟨q',r',q1,q2,q3,ih⟩:=E4 S hn h0 U Y ur hm hr (left.l.length-(q+1)) q (q+1) left rfl J J rfl h4;refine⟨q',r',q1,q2,q3,?_⟩;rw [bL,Pd];simp only [Nu,zz,ajS,af c1,w,bC];exact ih
end
def No4 (d0 d1 s k:D) (t:Int):Prop:= ∃x,Rs d0 d1 s k t x/\low (iO d1 t x) 0≠4
def PF (d0 d1 s k:D) (X:Int->Prop):Prop:= ∀t,X t->(0<=t/\t<(d1.l.length:Int))/\No4 d0 d1 s k t/\∃u,UP d0 d1 s k t u/\(X u\/F2 d0 d1 s k u)
structure H7 (d0 d1 s k l:D):Prop where
 ns:Yc l
 len:l.l.length<=1000
 pf:PF d0 d1 s k (fun t=>t∈l.l.map D.n)
 top: ∀X,PF d0 d1 s k X->∀t,X t->t∈l.l.map D.n
def D6 (d0 d1 s k:D) (ys:List Int):Prop:= ∃l:D,ys= [enc l]/\H7 d0 d1 s k l
section
variable {d0 d1 s k:D} {n:Nat} (S:Sx s k n) (hn:n<17592186043800) (h0:Wd (.sl 3) d0) (U:Wd (.sl 4) d1)
include S hn h0 U
omit S hn h0 U in
theorem Mq {l:D} (Y:l.l= []) (hx: ∀X,PF d0 d1 s k X->∀t,X t->t∈l.l.map D.n):D6 d0 d1 s k [enc (.i 1)]:=
 ⟨.i 1,rfl,fun x hx=>by simp [D.l] at hx,by simp [D.l],fun t ht=>by simp [D.l] at ht,fun X hX t ht=>by have:=hx X hX t ht; rw [Y] at this; simp at this⟩
theorem HK {mp:D} (hd:d1.l.length<=16) (hm:PE d0 d1 s k mp (d1.l.length:Int)): ∀(m:Nat) (left:D),left.l.length<=m->Yc left->left.l.length<=16->(∀x∈left.l,(0<=x.n/\x.n<(d1.l.length:Int))/\No4 d0 d1 s k x.n)->
 (∀X,PF d0 d1 s k X->∀t,X t->t∈left.l.map D.n)->(left= .i 1\/left= .i 2\/left.l≠[])->dC 23503 [enc left,enc mp,enc d0,enc d1,enc s,enc k] (D6 d0 d1 s k):=by
 intro m
 induction m with
 |zero=>
  intro left hlm ur Y hr hx hf;have hz:left.l= []:=amT J;have c1: ¬(0:Int)<(left.l.length:Int):=J
  refine dC.of ?_;rw [JO];rcases hf with rfl|rfl|hf
  ·have h13:L 13000 [enc mp,enc (.i 1),enc d0,enc d1,enc s,enc k]=some [0,enc mp,enc (.i 1),enc d0,enc d1,enc s,enc k]:=by
    have Z:L 13050 [enc mp,enc (.i 1),enc d0,enc d1,enc s,enc k]=some [0,enc mp,enc (.i 1),enc d0,enc d1,enc s,enc k]:=by rw [bL,ZX];simp only [WA,zz,bC];rw [bL,ZW];simp only [Wz,zz,bR]
    rw [bL,ZY];simp only [WB,zz,Z,bR]
   simp only [Dl,zz,c1,h13];exact .out (Mq hz hx)
  ·have h13:L 13100 [enc mp,enc (.i 2),enc d0,enc d1,enc s,enc k]=some [0,enc mp,enc (.i 2),enc d0,enc d1,enc s,enc k]:=by
    have Z:L 13150 [enc mp,enc (.i 2),enc d0,enc d1,enc s,enc k]=some [0,enc mp,enc (.i 2),enc d0,enc d1,enc s,enc k]:=by rw [bL,ZU];simp only [Wx,zz,bC];rw [bL,ZT];simp only [Wv,zz,bR]
    rw [bL,ZV];simp only [Wy,zz,Z,bR]
   have ne: ¬enc (.i 2)=enc (.i 1):=fun h=>by have:=hU h; simp at this
   simp only [Dl,zz,c1,af ne,h13];exact .out (Mq hz hx)
  ·exact absurd hz hf
 |succ m ih=>
  intro left hlm ur Y hr hx hf;by_cases hz:left.l= []
  ·exact ih left (by rw [hz]; simp) ur Y hr hx hf
  have c1:(0:Int)<(left.l.length:Int):=by have:=am3.2 hz; omega
  have c2:(left.l.length:Int)<17592186044416:=J
  rcases ago S hn h0 U (left:=left) J ur hm (fun x I6=>(hr x I6).1) with ⟨s8,hL⟩|⟨q,r',q1,q2,q3,hL⟩
  ·refine dC.of ?_;rw [JO];simp only [Dl,zz,c1,c2,hL];refine .out ⟨left,rfl,ur,J,fun t ht=>?_,hx⟩;obtain⟨x,I6,rfl⟩:=aH.1 ht;obtain⟨a,b⟩:=hr x I6;exact⟨a,b,s8 x I6⟩
  ·have c3: ¬((q:Int)<0):=J
   have c4: ¬((left.l.length:Int)<(q:Int)):=J
   have hlen:(Ck d0 d1 s k left left.l).length=q:=by rw [<- q3,a8]; omega
   have c5: ¬((q:Int)=(left.l.length:Int)):=J
   have FR:(eY r' (r'.l.take q)).l=Ck d0 d1 s k left left.l:=by rw [gw,q3]
   have sub: ∀x∈Ck d0 d1 s k left left.l,x∈left.l:=fun x hx=>(am1.1 hx).1
   have ih':=ih (eY r' (r'.l.take q)) (by rw [FR]; omega) (fun x hx=>by rw [FR] at hx; exact ur x (sub x hx)) (by rw [FR]; omega) (fun x hx=>by rw [FR] at hx; exact hr x (sub x hx))
    (fun X hX t ht=>by
     rw [FR];obtain⟨x,hxl,rfl⟩:=aH.1 (hx X hX t ht);obtain⟨_,_,u,hu,hc⟩:=hX _ ht;refine aH.2 ⟨x,am1.2 ⟨hxl,?_⟩,rfl⟩
     exact (@decide_eq_true_iff _ (Classical.propDecidable _)).2 ⟨u,hu,hc.imp (fun h=>hx X hX u h) id⟩)
    (by
     unfold eY;split
     ·split
      ·exact .inl rfl
      ·exact .inr (.inl rfl)
     ·rename_i h
      exact .inr (.inr (by rw [bJ]; exact fun e=>h e)))
   refine dC.of ?_;rw [JO];simp only [Dl,zz,c1,c2,hL,bG,c3,q2,c4,gw,bd,q3,hlen,af c5];rw [<- q3];exact .jump ih'
theorem Fm (M:MR d0 d1 s k) (hd:d1.l.length<=16): ∀(j i:Nat) (mp:D),i+j=d1.l.length->PE d0 d1 s k mp (i:Int)->
 ((∀t:Int,0<=t->t<(i:Int)->¬No4 d0 d1 s k t)->dC 23501 [(d1.l.length:Int),(i:Int),enc d0,enc d1,enc s,enc k,enc mp] (D6 d0 d1 s k))/\
 (∀left:D,Yc left->left.l≠[]->left.l.length<=i->(∀t,t∈left.l.map D.n↔(0<=t/\t<(i:Int))/\No4 d0 d1 s k t)->dC 23502 [(d1.l.length:Int),(i:Int),enc d0,enc d1,enc s,enc k,enc left,enc mp] (D6 d0 d1 s k))
 |0,i,mp,hi,hm=>by
  have c1: ¬(i:Int)<(d1.l.length:Int):=J
  have hi':i=d1.l.length:=J
  rw [hi'] at hm;refine⟨fun Aj=>?_,fun left ur fJ Y qZ=>?_⟩
  ·refine dC.of ?_;rw [O9];simp only [Nt,zz,c1];refine .jump (HK S hn h0 U hd hm 0 (.i 1) (by simp [D.l]) (fun x hx=>by simp [D.l] at hx) (by simp [D.l]) (fun x hx=>by simp [D.l] at hx) (fun X hX t ht=>?_) (.inl rfl));obtain⟨a,b,_⟩:=hX t ht;exact absurd b (Aj t a.1 J)
  ·refine dC.of ?_;rw [O8];simp only [Ns,zz,c1];refine .jump (HK S hn h0 U hd hm left.l.length left (au _) ur J (fun x hx=>?_) (fun X hX t ht=>?_) (.inr (.inr fJ)))
   ·obtain⟨a,b⟩:=(qZ x.n).1 (aH.2 ⟨x,hx,rfl⟩);exact⟨⟨a.1,J⟩,b⟩
   ·obtain⟨a,b,_⟩:=hX t ht;exact (qZ t).2 ⟨⟨a.1,J⟩,b⟩
 |j+1,i,mp,hi,hm=>by
  have c1:(i:Int)<(d1.l.length:Int):=J
  have w:=bS (n:=i) J;obtain⟨x,R⟩:=M.thr S J h0 U (by omega:(0:Int)<=(i:Int)) c1;obtain⟨a,b,c,d,e,hq,_⟩:=QO d1 (i:Int) x;have Ul:=N7 R;rw [hq] at Ul
  have n4:No4 d0 d1 s k (i:Int)↔a≠4:=by refine⟨fun⟨y,Ry,h⟩=>?_,fun h=> ⟨x,R,by rw [hq]; exact h⟩⟩;rw [qT S hn h0 U M Ry R,hq] at h;exact h
  obtain⟨ys,hF,wl,rfl,hu,hwl⟩:=YX S hn h0 U M (by omega:(0:Int)<=(i:Int)) c1
  have hm':PE d0 d1 s k (dL (j8 mp.l (.i (i:Int)) wl)) ((i+1:Nat):Int):=fun t t0 t1=>by
   rw [bJ,vU];by_cases h:(i:Int)=t
   ·subst h;rw [ag rfl];exact⟨wl,rfl,hu,hwl⟩
   ·rw [af (fun h'=>h (by simpa using h'))];exact hm t t0 J
  obtain⟨Kj,tP⟩:=Fm M hd j (i+1) _ J hm';refine⟨fun Aj=>?_,fun left ur fJ Y qZ=>?_⟩
  ·refine dC.of ?_;rw [O9];simp only [Nt,zz,c1,hF,Ul,w];refine .ite (fun h4=> .jump (Kj fun t t0 t1=>?_)) (fun h4=> .jump (tP (dL [D.i (i:Int)]) (fun x hx=>?_) (by simp [bJ]) (by rw [bJ]; simp) fun t=>?_))
   ·by_cases h:t=(i:Int)
    ·subst h;exact fun q=>n4.1 q h4
    ·exact Aj t t0 J
   ·rw [bJ] at hx;simp only [ax,amY,or_false] at hx;subst hx;rfl
   ·rw [bJ];simp only [aw,anj,ax,amY,or_false,T0];refine⟨fun h=>?_,fun h=>?_⟩
    ·subst h;exact⟨⟨J,J⟩,n4.2 h4⟩
    ·by_cases ht:t=(i:Int)
     ·exact ht
     ·exact absurd h.2 (Aj t h.1.1 (by have:=h.1.2; omega))
  ·have c2:(left.l.length:Int)<17592186044415:=J
   refine dC.of ?_;rw [O8];simp only [Ns,zz,c1,hF,Ul,w,c2];refine .ite (fun h4=> .jump (tP left ur fJ J fun t=>?_)) (fun h4=> .jump (tP (dL (left.l++ [D.i (i:Int)])) (fun x hx=>?_) (by simp [bJ]) (by rw [bJ]; simp; omega) fun t=>?_))
   ·rw [qZ t];refine⟨fun h=> ⟨⟨h.1.1,by have:=h.1.2; omega⟩,h.2⟩,fun h=> ⟨⟨h.1.1,?_⟩,h.2⟩⟩;by_cases ht:t=(i:Int)
    ·subst ht;exact absurd h4 (n4.1 h.2)
    ·have:=h.1.2; omega
   ·rw [bJ] at hx;rcases amW.1 hx with hx|hx
    ·exact ur x hx
    ·simp only [ax,amY,or_false] at hx;subst hx;rfl
   ·rw [bJ,W8,qZ t];refine⟨fun h=>?_,fun h=>?_⟩
    ·rcases h with h|rfl
     ·exact⟨⟨h.1.1,by have:=h.1.2; omega⟩,h.2⟩
     ·exact⟨⟨J,J⟩,n4.2 h4⟩
    ·by_cases ht:t=(i:Int)
     ·exact .inr ht
     ·exact .inl ⟨⟨h.1.1,by have:=h.1.2; omega⟩,h.2⟩
theorem aa5 (M:MR d0 d1 s k):dC 23500 [enc d0,enc d1,enc s,enc k] (D6 d0 d1 s k):=by
 obtain⟨ys,hM,b,rfl,hb⟩:=rP h0 U (S.g.l7 J).rows U.len (k:=k)
 have hb:b=1:=by
  rcases hb with ⟨_,h⟩|⟨h,_⟩
  ·exact absurd M h
  ·exact h
 subst hb;obtain⟨hC,ok,hle⟩:=yG h0 U S.g J M.1;have ih:=(Fm S hn h0 U M ok.2.1 d1.l.length 0 (.i 0) J (fun t t0 t1=>by omega)).1 (fun t t0 t1=>by omega);rw [amX] at ih;refine dC.of ?_;rw [ZF];simp only [Wp,zz,hM,bG];exact .jump ih
end
end Go.As.Try
end
section
namespace Go.As.Try
open Go hiding Stat Spec shape
open Go.As
set_option maxRecDepth 100000
def r? (q:PS):List Int:=[enc (if q.l= [] then .i 1 else dL q.l),enc q.s,enc q.k]
section
variable {d0 d1:D} (h0:Wd (.sl 3) d0) (U:Wd (.sl 4) d1) (hn:0<d1.l.length)
include h0 U hn
theorem Xy (d:D) (hd:d.l.length<=40000000): ∀(j i:Nat) (p:PS),i+j=d.l.length->Nd d1 p i->
 (p.l= []->L 2401 [enc d,(d1.l.length:Int),(i:Int),enc d0,enc d1,enc p.s,enc p.k]=some (r? (mC d0 d1 p ((d.l.drop i).map (X! d1)))))/\
 (p.l≠[]->L 2402 [enc d,(d1.l.length:Int),(i:Int),enc (dL p.l),enc d0,enc d1,enc p.s,enc p.k]=some (r? (mC d0 d1 p ((d.l.drop i).map (X! d1)))))
 |0,i,p,hi,P=>by
  have c1: ¬(i:Int)<(d.l.length:Int):=J
  rw [anm J];simp only [anj,mC];refine⟨fun hp=>?_,fun hp=>?_⟩
  ·rw [bL,R4];simp only [Bq,zz,c1,bR,r?,hp,if_true]
  ·rw [bL,ZC];simp only [Gb,zz,c1,bR,r?,af hp]
 |j+1,i,p,hi,P=>by
  have dX:i<d.l.length:=J
  have c1:(i:Int)<(d.l.length:Int):=J
  have c2:(0:Int)<(d1.l.length:Int):=J
  have c3: ¬((i:Int)<0):=J
  have w:=bS (n:=i) J;have hb:=U.len;have pk:=TF (x:=(d.at (i:Int)).n) c2 J;obtain⟨r1,r2⟩:=TG (x:=(d.at (i:Int)).n) c2;have c4: ¬(tM (d.at (i:Int)).n (d1.l.length:Int)<0):=J
  have c5:tM (d.at (i:Int)).n (d1.l.length:Int)<(p.k.l.length:Int):=by have:=P.lk; omega
  obtain⟨s',k',e1,e2,e3,e4,e5,oc,A⟩:=yr P.sx J h0 U (tM (d.at (i:Int)).n (d1.l.length:Int));have hA:=A.eq;have c6:tM (d.at (i:Int)).n (d1.l.length:Int)<(k'.l.length:Int):=by have:=P.lk; have:=A.lk; omega
  have P':=ND P A;have ih:=Xy d hd j (i+1) _ J P'
  have FT:mC d0 d1 p ((d.l.drop i).map (X! d1))=mC d0 d1 (MU d0 d1 p (tM (d.at (i:Int)).n (d1.l.length:Int))) ((d.l.drop (i+1)).map (X! d1)):=by rw [bh dX,aw,mC,X!,bX dX]
  have Y:=P.ll;have c7:(p.l.length:Int)<3518437208882:=J
  rw [FT];generalize mC d0 d1 (MU d0 d1 p (tM (d.at (i:Int)).n (d1.l.length:Int))) ((d.l.drop (i+1)).map (X! d1))=Q at *;rw [W3 A] at ih;obtain⟨Kj,tP⟩:=ih;refine⟨fun hp=>?_,fun hp=>?_⟩
  ·rw [bL,R4];by_cases o2:oc=2
   ·simp only [o2,true_or,if_true,hp,ay,wK,dZ,eQ] at tP;simp only [Bq,zz,dr,c1,c2,c3,c4,c5,pk,hA,o2,w,bC,mI,ay,dZ,eQ];exact tP ad
   ·by_cases o3:oc=3
    ·simp only [o3,or_true,if_true,hp,ay,wK,dZ,eQ] at tP;simp only [Bq,zz,dr,c1,c2,c3,c4,c5,pk,hA,o3,w,bC,mI,ay,dZ,eQ,TV];exact tP ad
    ·simp only [o2,o3,or_self,if_false] at Kj;by_cases o1:oc=1
     ·simp only [Bq,zz,dr,c1,c2,c3,c4,c5,pk,hA,o1,w,bC,TX,TW];exact Kj hp
     ·simp only [Bq,zz,dr,c1,c2,c3,c4,c5,c6,pk,hA,o1,o2,o3,w,bC];exact Kj hp
  ·rw [bL,ZC];by_cases o2:oc=2
   ·simp only [o2,true_or,if_true,wK,dZ,eQ] at tP;simp only [Gb,zz,dr,c1,c2,c3,c4,c5,c7,pk,hA,o2,w,bC,bJ];exact tP ad
   ·by_cases o3:oc=3
    ·simp only [o3,or_true,if_true,wK,dZ,eQ] at tP;simp only [Gb,zz,dr,c1,c2,c3,c4,c5,c7,pk,hA,o3,w,bC,bJ,TV];exact tP ad
    ·simp only [o2,o3,or_self,if_false] at tP;by_cases o1:oc=1
     ·simp only [Gb,zz,dr,c1,c2,c3,c4,c5,pk,hA,o1,w,bC,TX,TW];exact tP hp
     ·simp only [Gb,zz,dr,c1,c2,c3,c4,c5,c6,pk,hA,o1,o2,o3,w,bC];exact tP hp
theorem X_ {s k:D} (hB:L 1450 [enc d0,enc d1]=some [enc s,enc k,0]) (P:Nd d1 ⟨s,k,[]⟩ 0) (d:D) (hd:d.l.length<=40000000):L 2400 [enc d0,enc d1,enc d]=some (r? (mC d0 d1 ⟨s,k,[]⟩ (d.l.map (X! d1)))):=by have h:=(Xy h0 U hn d hd d.l.length 0 ⟨s,k,[]⟩ J P).1 rfl;rw [am4,amX] at h;rw [bL,R5];simp only [P1,zz,hB,bC];exact h
omit h0 U hn in
theorem aaM {c:Int} (hc:c≠0) (hB:L 1450 [enc d0,enc d1]=some [enc (.i 1),enc (.i 1),c]) (d:D):L 2400 [enc d0,enc d1,enc d]=some [enc (.i 1),enc (.i 1),enc (.i 1)]:=by rw [bL,R5];simp only [P1,zz,hB,af hc,bR]
end
end Go.As.Try
end
section
namespace Go.As.Try
open Go hiding Stat Spec shape
open Go.As
set_option maxRecDepth 100000
set_option linter.unusedSimpArgs false
set_option linter.unusedVariables false
set_option linter.unusedSectionVars false
section
variable {d0 d1 s k:D} {n:Nat} (S:Sx s k n) (hn:n<17592186043800) (h0:Wd (.sl 3) d0) (U:Wd (.sl 4) d1) (M:MR d0 d1 s k)
include S hn h0 U M
end
theorem LN (l:D) (Y:l.l.length<=1000) (t:Int): ∀(j i:Nat),i+j=l.l.length->dC 23551 [t,enc l,(l.l.length:Int),(i:Int)] (Ki (t∈(l.l.drop i).map D.n))
 |0,i,hi=>by
  have c1: ¬(i:Int)<(l.l.length:Int):=J
  refine dC.of ?_;rw [O7];simp only [Nr,zz,c1];exact .out (tO fun h=>by rw [anm J] at h; simp at h)
 |j+1,i,hi=>by
  have dX:i<l.l.length:=J
  have c1:(i:Int)<(l.l.length:Int):=J
  have c2: ¬((i:Int)<0):=J
  have w:=bS (n:=i) J;have ed:(l.l.drop i).map D.n=(l.l[i]).n::(l.l.drop (i+1)).map D.n:=by rw [bh dX,aw]
  obtain⟨ys,hL,b,rfl,hb⟩:=LN l Y t j (i+1) J;refine dC.of ?_;rw [O7,ed];simp only [Nr,zz,c1,c2,bX dX,w];refine .ite (fun h=> .out (Ha (by rw [h]; exact anw ..))) (fun h=> .jump ⟨_,hL,b,rfl,hb.imp (fun q=> ⟨q.1,fun g=>?_⟩) (fun q=> ⟨q.1,anG _ q.2⟩)⟩);rcases ax.1 g with g|g
  ·exact h g.symm
  ·exact q.2 g
theorem aax (l:D) (Y:l.l.length<=1000) (t:Int): ∃b:Int,L 23550 [enc l,t]=some [b]/\(b=0/\t∉l.l.map D.n\/b=1/\t∈l.l.map D.n):=by obtain⟨ys,hL,b,rfl,hb⟩:=LN l Y t l.l.length 0 J;rw [amX,am4] at *;refine⟨b,?_,hb⟩;rw [bL,ZE];simp only [Wo,zz,bC];exact hL
section
variable {d0 d1:D} (h0:Wd (.sl 3) d0) (U:Wd (.sl 4) d1) (hd:0<d1.l.length)
include h0 U hd
end
end Go.As.Try
end
section
namespace Go.As.Try
open Go hiding Stat Spec shape
open Go.As
set_option maxRecDepth 100000
def nz (d:D):D:=if (d.l.length:Int)=0 then .i 2 else d
theorem aiQ (d:D):(nz d).l=d.l:=by
 unfold nz;split
 ·rename_i h;have:d.l= []:=amT J;rw [this]; simp [D.l]
 ·rfl
def nT (x:D):D:=dL [.i (x.hd 0).n,.i (x.hd 1).n,.i (if (x.hd 2).n=0 then 0 else 1),.i (x.hd 3).n,nz (x.hd 4),nz (x.hd 5)]
def nK (x:D):D:=dL [.i (x.hd 0).n,nz (x.hd 1),.i (x.hd 2).n,.i (x.hd 3).n,.i (x.hd 4).n,.i (x.hd 5).n]
section
variable {k:D} (hk:k.l.length<2199023255551) (Y: ∀x∈k.l,((x.hd 1).l.length:Int)<17592186044416)
include hk Y
theorem k_ (sn:D): ∀(j i:Nat) (acc:List D),i+j=k.l.length->acc.length=i->L 3606 [enc k,(k.l.length:Int),(i:Int),enc sn,enc (dL acc)]=some [enc sn,enc (dL (acc++(k.l.drop i).map nK))]
 |0,i,acc,hi,ha=>by
  have c1: ¬(i:Int)<(k.l.length:Int):=J
  rw [anm J,anj,anc,bL,Zv];simp only [PX,zz,c1,bR]
 |j+1,i,acc,hi,ha=>by
  have dX:i<k.l.length:=J
  have c1:(i:Int)<(k.l.length:Int):=J
  have c2: ¬((i:Int)<0):=J
  have c3:(acc.length:Int)<2199023255551:=J
  have c4:=Y _ (az dX);have w:=bS (n:=i) J;have ih:=k_ sn j (i+1) (acc++ [nK (k.l[i])]) J (by rw [aT,ha]; rfl);rw [am8,anu,<- aw,<- bh dX] at ih;unfold nK nz at ih;rw [bL,Zv];by_cases z:(((k.l[i]).hd 1).l.length:Int)=0
  ·rw [ag z] at ih;simp only [PX,zz,c1,c2,c3,z,bX dX,w,bC,bJ];exact ih
  ·rw [af z] at ih;simp only [PX,zz,c1,c2,c3,c4,af z,bX dX,w,bC,bJ];exact ih
theorem agr (sn:D):L 3604 [enc k,(k.l.length:Int),enc sn]=some [enc sn,enc (if k.l= [] then .i 1 else dL (k.l.map nK))]:=by
 rw [bL,adf];by_cases hp:0<k.l.length
 ·have c1:(0:Int)<(k.l.length:Int):=J
  have fJ:k.l≠[]:=fun h=>by rw [h] at hp; simp at hp
  have c4:=Y _ (az hp);have e0:k.at 0=k.l[0]:=by have:=bX hp; rwa [amX] at this
  have ih:=k_ hk Y sn (k.l.length-1) 1 [nK (k.l[0])] J rfl;rw [anu,<- aw,<- bh hp,am4] at ih;rw [af fJ];unfold nK nz at ih ⊢;by_cases z:(((k.l[0]).hd 1).l.length:Int)=0
  ·rw [ag z] at ih;simp only [PZ,zz,c1,e0,z,bC,mI,ay];exact ih
  ·rw [af z] at ih;simp only [PZ,zz,c1,c4,e0,af z,bC,mI,ay];exact ih
 ·have hz:k.l= []:=amT J;have c1: ¬(0:Int)<(k.l.length:Int):=J
  rw [ag hz];simp only [PZ,zz,c1,bR]
theorem k!: ∀(j i:Nat) (acc:List D),i+j=k.l.length->acc.length=i->L 3605 [enc k,(k.l.length:Int),(i:Int),enc (dL acc)]=some [enc (.i 1),enc (dL (acc++(k.l.drop i).map nK))]
 |0,i,acc,hi,ha=>by
  have c1: ¬(i:Int)<(k.l.length:Int):=J
  rw [anm J,anj,anc,bL,Zw];simp only [PY,zz,c1,bR]
 |j+1,i,acc,hi,ha=>by
  have dX:i<k.l.length:=J
  have c1:(i:Int)<(k.l.length:Int):=J
  have c2: ¬((i:Int)<0):=J
  have c3:(acc.length:Int)<2199023255551:=J
  have c4:=Y _ (az dX);have w:=bS (n:=i) J;have ih:=k! j (i+1) (acc++ [nK (k.l[i])]) J (by rw [aT,ha]; rfl);rw [am8,anu,<- aw,<- bh dX] at ih;unfold nK nz at ih;rw [bL,Zw];by_cases z:(((k.l[i]).hd 1).l.length:Int)=0
  ·rw [ag z] at ih;simp only [PY,zz,c1,c2,c3,z,bX dX,w,bC,bJ];exact ih
  ·rw [af z] at ih;simp only [PY,zz,c1,c2,c3,c4,af z,bX dX,w,bC,bJ];exact ih
theorem agt:L 3603 [enc k,(k.l.length:Int)]=some [enc (.i 1),enc (if k.l= [] then .i 1 else dL (k.l.map nK))]:=by
 rw [bL,adg];by_cases hp:0<k.l.length
 ·have c1:(0:Int)<(k.l.length:Int):=J
  have fJ:k.l≠[]:=fun h=>by rw [h] at hp; simp at hp
  have c4:=Y _ (az hp);have e0:k.at 0=k.l[0]:=by have:=bX hp; rwa [amX] at this
  have ih:=k! hk Y (k.l.length-1) 1 [nK (k.l[0])] J rfl;rw [anu,<- aw,<- bh hp,am4] at ih;rw [af fJ];unfold nK nz at ih ⊢;by_cases z:(((k.l[0]).hd 1).l.length:Int)=0
  ·rw [ag z] at ih;simp only [P0,zz,c1,e0,z,bC,mI,ay];exact ih
  ·rw [af z] at ih;simp only [P0,zz,c1,c4,e0,af z,bC,mI,ay];exact ih
 ·have hz:k.l= []:=amT J;have c1: ¬(0:Int)<(k.l.length:Int):=J
  rw [ag hz];simp only [P0,zz,c1,bR]
end
section
variable {s:D} (hs:s.l.length<1759218604440) (hr: ∀x∈s.l,((x.hd 4).l.length:Int)<17592186044416/\((x.hd 5).l.length:Int)<17592186044416)
include hs hr
theorem k? (k:D): ∀(j i:Nat) (acc:List D),i+j=s.l.length->acc.length=i->L 3602 [enc s,(s.l.length:Int),(i:Int),enc k,enc (dL acc)]=L 3604 [enc k,(k.l.length:Int),enc (dL (acc++(s.l.drop i).map nT))]
 |0,i,acc,hi,ha=>by
  have c1: ¬(i:Int)<(s.l.length:Int):=J
  rw [anm J,anj,anc,bL,Zx];simp only [F9,zz,c1,bC]
 |j+1,i,acc,hi,ha=>by
  have dX:i<s.l.length:=J
  have c1:(i:Int)<(s.l.length:Int):=J
  have c2: ¬((i:Int)<0):=J
  have c3:(acc.length:Int)<1759218604440:=J
  obtain⟨c4,c5⟩:=hr _ (az dX);have w:=bS (n:=i) J;have ih:=k? k j (i+1) (acc++ [nT (s.l[i])]) J (by rw [aT,ha]; rfl);rw [am8,anu,<- aw,<- bh dX] at ih;unfold nT nz at ih;rw [bL,Zx];by_cases z:(((s.l[i]).hd 4).l.length:Int)=0
  ·by_cases y:(((s.l[i]).hd 5).l.length:Int)=0
   ·rw [ag z,ag y] at ih;simp only [F9,zz,c1,c2,c3,z,y,bX dX,w,bC,bJ];exact ih
   ·rw [ag z,af y] at ih;simp only [F9,zz,c1,c2,c3,c5,z,af y,bX dX,w,bC,bJ];exact ih
  ·by_cases y:(((s.l[i]).hd 5).l.length:Int)=0
   ·rw [af z,ag y] at ih;simp only [F9,zz,c1,c2,c3,c4,af z,y,bX dX,w,bC,bJ];exact ih
   ·rw [af z,af y] at ih;simp only [F9,zz,c1,c2,c3,c4,c5,af z,af y,bX dX,w,bC,bJ];exact ih
theorem agu {k:D} (hk:k.l.length<2199023255551) (Y: ∀x∈k.l,((x.hd 1).l.length:Int)<17592186044416):L 3600 [enc s,enc k]=some [enc (if s.l= [] then .i 1 else dL (s.l.map nT)),enc (if k.l= [] then .i 1 else dL (k.l.map nK))]:=by
 have g: ∀sn,L 3604 [enc k,(k.l.length:Int),enc sn]=some [enc sn,enc (if k.l= [] then .i 1 else dL (k.l.map nK))]:=fun sn=>agr hk Y sn;have g3:=agt hk Y;rw [bL,adi];simp only [abW,zz,bC];rw [bL,adh];by_cases hp:0<s.l.length
 ·have c1:(0:Int)<(s.l.length:Int):=J
  have fJ:s.l≠[]:=fun h=>by rw [h] at hp; simp at hp
  obtain⟨c4,c5⟩:=hr _ (az hp);have e0:s.at 0=s.l[0]:=by have:=bX hp; rwa [amX] at this
  have ih:=k? hs hr k (s.l.length-1) 1 [nT (s.l[0])] J rfl;rw [anu,<- aw,<- bh hp,am4,g] at ih;rw [af fJ];unfold nT nz at ih ⊢;by_cases z:(((s.l[0]).hd 4).l.length:Int)=0
  ·by_cases y:(((s.l[0]).hd 5).l.length:Int)=0
   ·rw [ag z,ag y] at ih;simp only [Ga,zz,c1,e0,z,y,bC,mI,ay];exact ih
   ·rw [ag z,af y] at ih;simp only [Ga,zz,c1,c5,e0,z,af y,bC,mI,ay];exact ih
  ·by_cases y:(((s.l[0]).hd 5).l.length:Int)=0
   ·rw [af z,ag y] at ih;simp only [Ga,zz,c1,c4,e0,af z,y,bC,mI,ay];exact ih
   ·rw [af z,af y] at ih;simp only [Ga,zz,c1,c4,c5,e0,af z,af y,bC,mI,ay];exact ih
 ·have hz:s.l= []:=amT J;have c1: ¬(0:Int)<(s.l.length:Int):=J
  rw [ag hz];simp only [Ga,zz,c1,bC];exact g3
end
structure TEq (x y:D):Prop where
 c0:(x.hd 0).n=(y.hd 0).n
 c1:(x.hd 1).n=(y.hd 1).n
 c2:(x.hd 2).n=(y.hd 2).n
 c3:(x.hd 3).n=(y.hd 3).n
 c4:(x.hd 4).l=(y.hd 4).l
 c5:(x.hd 5).l=(y.hd 5).l
theorem TEq.Tx (x:D):TEq x x:=⟨rfl,rfl,rfl,rfl,rfl,rfl⟩
structure SEq (s s':D):Prop where
 len:s'.l.length=s.l.length
 ats: ∀i:Nat,TEq (s.at (i:Int)) (s'.at (i:Int))
theorem SEq.Tx (s:D):SEq s s:=⟨rfl,fun _=> .Tx _⟩
theorem aez {o c dn g:Int} {r v r' v':D} (hr:r.l=r'.l) (hv:v.l=v'.l):TEq (dL [.i o,.i c,.i dn,.i g,r,v]) (dL [.i o,.i c,.i dn,.i g,r',v']):=⟨rfl,rfl,rfl,rfl,hr,hv⟩
theorem aey {x y:D} {o c dn g o' c' Kl g':Int} {r v r' v':D} (T:Tg x o c dn g r v) (T':Tg y o' c' Kl g' r' v') (h:TEq x y):o'=o/\c'=c/\Kl=dn/\g'=g/\r.l=r'.l/\v.l=v'.l:=by obtain⟨q0,q1,q2,q3,q4,q5⟩:=h;rw [T.is,T'.is] at q0 q1 q2 q3 q4 q5;exact⟨q0.symm,q1.symm,q2.symm,q3.symm,q4,q5⟩
inductive PK:Act->Act->Prop
 |jX:PK .jX .jX
 |yc:PK .yc .yc
 |res (o c dn g:Int) (r v r' v':D) (m:Option Int) (a oc:Int) (hr:r.l=r'.l) (hv:v.l=v'.l):PK (.res o c dn g r v m a oc) (.res o c dn g r' v' m a oc)
theorem PK.ite {p:Prop} [Decidable p] {a b a' b':Act} (U:PK a a') (Z:PK b b'):PK (if p then a else b) (if p then a' else b'):=by
 grind
section
variable {d0 d1 s s':D} {n:Nat} (h0:Wd (.sl 3) d0) (U:Wd (.sl 4) d1) (h:SEq s s') (G:Gs s n) (G':Gs s' n) (hn:n<17592186043904)
include h0 U h G G' hn
theorem Xo (R:L 350 [enc d0,enc d1,enc s]=some [1]):L 350 [enc d0,enc d1,enc s']=some [1]:=by
 obtain⟨hC,ok,hle⟩:=yG h0 U G J R;have Y:=h.len;refine aix h0 U G' J hC J fun i hi=>?_;obtain⟨o,c,dn,g,r,v,T,_⟩:=RP G (i:=(i:Int)) J J;obtain⟨o',c',Kl,g',r',v',T',_⟩:=RP G' (i:=(i:Int)) J J;obtain⟨rfl,rfl,rfl,rfl,q4,q5⟩:=aey T T' (h.ats i);have P:=Xl h0 U G J R (i:=(i:Int)) J J T;refine⟨_,_,_,_,_,_,T',?_⟩;unfold Pz at P ⊢
 grind
end
theorem aiY {d0 d1 s s' k:D} {n:Nat} (h0:Wd (.sl 3) d0) (U:Wd (.sl 4) d1) (h:SEq s s') (G:Gs s n) (G':Gs s' n) (hn:n<17592186043904) (M:MR d0 d1 s k):MR d0 d1 s' k:=⟨Xo h0 U h G G' hn M.1,M.2⟩
def NK (k:D):Prop:= ∀x∈k.l,x.hd 1≠.i 1
theorem xW (l:List D):dL l≠.i 1:=by
 cases l with
 |nil=>intro h; simp [eQ] at h
 |cons a l=>intro h; simp [dZ] at h
theorem aiP {d:D} (h:Wd (.sl 0) d) (hn:d≠.i 1):nz d=d:=by
 unfold nz;rcases cF h with rfl|rfl|⟨U,_⟩
 ·exact absurd rfl hn
 ·simp [D.l]
 ·rw [af J]
theorem aiU {s k:D} {n:Nat} (S:Sx s k n) (N:NK k): ∀x∈k.l,nK x=x:=fun x hx=>by obtain⟨a,lc,w,o,g,tr,T⟩:=gY S.wk x hx;have hN:=N x hx;rw [T.is] at hN ⊢;have e:=aiP T.Y hN;unfold nK;simp only [zg,aC,T0,e]
theorem X8 {s k:D} {n:Nat} (S:Sx s k n) (N:NK k):(if k.l= [] then .i 1 else dL (k.l.map nK))=k:=by
 have e:k.l.map nK=k.l:=by
  conv=>rhs; rw [<- ano k.l]
  exact anH fun x hx=>aiU S N x hx
 rw [e];rcases S.wk.sh with h|h|⟨h,fJ⟩
 ·rw [h]; rfl
 ·exact absurd h S.n2k
 ·rw [af fJ]; exact h.symm
theorem XL {k:D} (N:NK k) (t:Int) {x:KT} (hx:x.lc≠.i 1):NK (pg k t x):=fun y hy=>by
 have hy':y∈fC k.l t x.d:=by have:(pg k t x).l=fC k.l t x.d:=bJ _;rw [<- this]; exact hy
 rcases rR hy' with h|rfl
 ·exact N y h
 ·exact hx
theorem W1 {d0 d1 s k:D} {t:Int} {n:Nat} {a b:D} {e1 e2 e3 e4 e5 oc:Int} (N:NK k) (H:Ca d0 d1 s k t n a b e1 e2 e3 e4 e5 oc):NK b:=by
 have own: ∀x:KT,Rs d0 d1 s k t x->x.lc≠.i 1:=fun x R=>by have:=N _ (DX R.r.t0 R.ht);rw [R.hk] at this;exact this
 cases H with
 |no h=>exact N
 |over x R ho=>exact N
 |loc x R ho ha=>
  refine XL N t ?_;have:=own x R;unfold sN
  repeat' split
  all_goals first |exact this|exact xW _
 |tri x R ho op obj arg tr hq k1 k2 k3 fP s' e1 e2 e3 e4 e5 oc A T=>
  refine XL N t ?_;have:=own x R;unfold pb
  repeat' split
  all_goals first |exact this|exact xW _|(simp only []; split<;>first |exact this|exact xW _)
theorem La (d1:D):NK (mq d1):=fun x hx=>by
 unfold mq at hx;split at hx
 ·simp [D.l] at hx
 ·rw [bJ] at hx;obtain⟨y,_,rfl⟩:=aH.1 hx;unfold kT;show (if (y.hd 1).l.length=0 then D.i 2 else dL (List.replicate (y.hd 1).l.length (.i 0)))≠.i 1;split
  ·simp
  ·exact xW _
abbrev M3 (s:D):D:=if s.l= [] then .i 1 else dL (s.l.map nT)
theorem abw {d:D} (h:Wd (.sl 0) d):Wd (.sl 0) (nz d):=by
 unfold nz;split
 ·exact .uQ 0
 ·exact h
theorem acj {x:D} {o c dn g:Int} {r v:D} (T:Tg x o c dn g r v):Tg (nT x) o c dn g (nz r) (nz v):=by
 refine⟨?_,T.ho,T.hc,T.hd,T.hg,abw T.hr,abw T.hv⟩
 have e:(if dn=0 then (0:Int) else 1)=dn:=by rcases T.hd with rfl|rfl<;>rfl
 rw [T.is];unfold nT;simp only [zg,aC,T0,e]
theorem ack {x:D} {o c dn g:Int} {r v:D} (T:Tg x o c dn g r v):TEq x (nT x):=by
 rw [(acj T).is]
 conv=>lhs; rw [T.is]
 exact aez (aiQ r).symm (aiQ v).symm
theorem adC (s:D):(M3 s).l=s.l.map nT:=by
 unfold M3;split
 ·rename_i h; rw [h]; rfl
 ·rw [bJ]
theorem agq {s:D} {n:Nat} (G:Gs s n):SEq s (M3 s):=by
 have e:=adC s;refine⟨by rw [e,aL],fun i=>?_⟩;by_cases hi:i<s.l.length
 ·obtain⟨o,c,dn,g,r,v,T,_⟩:=RP G (i:=(i:Int)) J J
  have e2:(M3 s).at (i:Int)=nT (s.at (i:Int)):=by rw [Bh,e,bp,aO hi,bX hi]; rfl
  rw [e2];exact ack T
 ·have e1:s.at (i:Int)= .i 0:=by rw [Bh,anF J]; rfl
  have e2:(M3 s).at (i:Int)= .i 0:=by rw [Bh,e,anF (by rw [aL]; omega)]; rfl
  rw [e1,e2];exact .Tx _
theorem j? {s k:D} {n:Nat} (S:Sx s k n):Sx (M3 s) k n:=by
 have e:=adC s;have key: ∀x∈s.l,∃o c dn g r v,Tg x o c dn g r v:=fun x hx=>yn (S.g.wd.mN _ hx);refine⟨⟨?_,fun x hx=>?_⟩,S.wk,?_,S.n2k⟩
 ·unfold M3;split
  ·exact .nil 7
  ·rename_i fJ;refine Ap (fun y hy=>?_) (by simpa using fJ) (by rw [aL]; exact (wS S.g.wd (am3.2 fJ)).l7);obtain⟨x,hx,rfl⟩:=aH.1 hy;obtain⟨o,c,dn,g,r,v,T⟩:=key x hx;have T':=acj T;exact⟨o,c,dn,g,nz r,nz v,T'.is,T'.ho,T'.hc,T'.hd,T'.hg,T'.hr,T'.hv⟩
 ·rw [e] at hx;obtain⟨y,hy,rfl⟩:=aH.1 hx;obtain⟨o,c,dn,g,r,v,T⟩:=key y hy;have q:=ack T;rw [<- q.c4,<- q.c5];exact S.g.rows y hy
 ·unfold M3;split
  ·simp
  ·rename_i fJ;intro h;have:=congrArg D.l h;rw [bJ] at this;simp [D.l] at this;exact fJ this
theorem LX {s k:D} {n:Nat} (S:Sx s k n) (N:NK k) (hn:n<17592186043904):L 3600 [enc s,enc k]=some [enc (M3 s),enc k]:=by
 have hs:s.l.length<1759218604440:=by have:=S.g.wd.room;have h3:pW 7=80:=rfl;rw [h3] at this;omega
 have hk:k.l.length<2199023255551:=by have:=S.wk.room;have h3:pW 8=64:=rfl;rw [h3] at this;omega
 have h:=agu hs (fun x hx=>by have:=S.g.rows x hx; omega) hk (fun x hx=>by
  obtain⟨a,lc,w,o,g,tr,T⟩:=gY S.wk x hx;rw [T.is];show ((lc.l.length:Nat):Int)<_;have:=T.Y.room;have h3:pW 0=8:=rfl;rw [h3] at this
  omega)
 rw [h,X8 S N]
theorem W4 {d0 d1:D} {p:PS} {t:Int} {a b:D} {e1 e2 e3 e4 e5 oc:Int} (hL:L 1850 [enc d0,enc d1,enc p.s,enc p.k,t]=some [enc a,enc b,e1,e2,e3,e4,e5,oc]):MU d0 d1 p t=⟨a,b,if oc=2\/oc=3 then p.l++ [wK e1 e2 e3 e4 e5] else p.l⟩:=by unfold MU W5;rw [hL];simp only [aC,bM,bN,bB]<;>rfl
theorem ai2 {x:KT} {z:Int} (h:z=x.tr):({ x with tr:=z }:KT)=x:=by subst h; rfl
theorem KH {d0 d1 s k:D} {t:Int} {n:Nat} {a b:D} {e1 e2 e3 e4 e5 oc:Int} (S:Sx s k n) (H:Ca d0 d1 s k t n a b e1 e2 e3 e4 e5 oc) (U:oc≠1) (Z:oc≠2) (h3:oc≠3) (he:((b.at t).hd 5).n=((k.at t).hd 5).n):a=s/\b=k:=by
 cases H with
 |no h=>exact⟨rfl,rfl⟩
 |over x R ho=>exact⟨rfl,rfl⟩
 |loc x R ho ha=>omega
 |tri x R ho op obj arg tr hq k1 k2 k3 fP s' e1 e2 e3 e4 e5 oc A T=>
  have o0:oc=0:=by have:=A.oc3; omega
  refine⟨(A.no o0).1,?_⟩;rw [T? R.r.t0 R.ht,R.hk] at he
  have e:pb (Ins d1 t x) x op e2 e3 e4 oc=x:=by
   unfold pb at he ⊢;rw [ag o0] at he ⊢;by_cases h4:op=4
   ·rw [ag h4] at he ⊢;simp only [KT.d,zg,aC,T0] at he;exact ai2 he
   ·rw [af h4]
  rw [e];exact R.self S
noncomputable def mO (mo n m i:Int) (d0 d1:D) (b:Bool) (p:PS):Option (List Int):=
 if p.l= [] then L (if b=true then 2654 else 2652) [mo,n,m,i,enc d0,enc d1,enc p.s,enc p.k] else L (if b=true then 2653 else 2657) [mo,n,m,i,enc d0,enc d1,enc (dL p.l),enc p.s,enc p.k]
noncomputable def hdR (mo n:Int) (d0 d1:D) (b:Bool) (p:PS):Option (List Int):=
 if b=true then (if p.l= [] then L 2651 [mo,n,enc d0,enc d1,enc p.s,enc p.k] else L 2656 [mo,n,enc d0,enc d1,enc (dL p.l),enc p.s,enc p.k])
 else some [enc (if p.l= [] then .i 1 else dL p.l),enc p.s,enc p.k]
section
variable {d0 d1:D} (h0:Wd (.sl 3) d0) (U:Wd (.sl 4) d1)
include h0 U
theorem Tw {s k:D} {l:List D} {N i:Nat} (P:Nd d1 ⟨s,k,l⟩ N) (hN:N<1000000) (hi:i<d1.l.length) (mo n:Int) (b:Bool): ∃b2:Bool,mO mo n (d1.l.length:Int) (i:Int) d0 d1 b ⟨s,k,l⟩ = mO mo n (d1.l.length:Int) ((i+1:Nat):Int) d0 d1 b2 (MU d0 d1 ⟨s,k,l⟩ (i:Int))/\(b2=false->b=false/\MU d0 d1 ⟨s,k,l⟩ (i:Int)=⟨s,k,l⟩)/\Nd d1 (MU d0 d1 ⟨s,k,l⟩ (i:Int)) (N+1):=by
 have S:=P.sx;have E!:=P.lk;have hll:=P.ll;simp only at S E! hll;have hb:=U.len;obtain⟨a,c,e1,e2,e3,e4,e5,oc,hL,H⟩:=sE S J h0 U (i:Int);obtain⟨S',_,amI⟩:=W0 S J h0 U H;have AT:=W4 (p:=⟨s,k,l⟩) hL;have c1:(i:Int)<(d1.l.length:Int):=J
 have c2: ¬(i:Int)<0:=J
 have c3:(i:Int)<(k.l.length:Int):=J
 have c4:(i:Int)<(c.l.length:Int):=J
 have c5:(l.length:Int)<3518437208882:=J
 have w:=bS (n:=i) J;have still:=KH S H
 have jb:Nd d1 (MU d0 d1 ⟨s,k,l⟩ (i:Int)) (N+1):=by
  rw [AT];refine⟨S',by show c.l.length=_; omega,?_⟩;show (if oc=2\/oc=3 then l++ [wK e1 e2 e3 e4 e5] else l).length<=N+1;split
  ·rw [aT]; exact Nat.succ_le_succ hll
  ·omega
 rw [AT] at jb ⊢;by_cases Y:l= []
 ·subst Y
  cases b with
  |false=>
   have q:mO mo n (d1.l.length:Int) (i:Int) d0 d1 false ⟨s,k,[]⟩ = L 2652 [mo,n,(d1.l.length:Int),(i:Int),enc d0,enc d1,enc s,enc k]:=by unfold mO; rfl
   by_cases o2:oc=2
   ·rw [ag J] at jb ⊢;have g:mO mo n (d1.l.length:Int) ((i+1:Nat):Int) d0 d1 true ⟨a,c,[]++ [wK e1 e2 e3 e4 e5]⟩ = L 2653 [mo,n,(d1.l.length:Int),((i+1:Nat):Int),enc d0,enc d1,enc (dL ([]++ [wK e1 e2 e3 e4 e5])),enc a,enc c]:=by unfold mO; rw [af ad]; rfl
    refine⟨true,?_,fun hf=>by simp at hf,jb⟩;rw [q,g,bL,EU];simp only [Dj,zz,o2,c1,c2,c3,hL,w,bC,mI,ay,dZ,eQ,wK]
   ·by_cases o3:oc=3
    ·rw [ag J] at jb ⊢;have g:mO mo n (d1.l.length:Int) ((i+1:Nat):Int) d0 d1 true ⟨a,c,[]++ [wK e1 e2 e3 e4 e5]⟩ = L 2653 [mo,n,(d1.l.length:Int),((i+1:Nat):Int),enc d0,enc d1,enc (dL ([]++ [wK e1 e2 e3 e4 e5])),enc a,enc c]:=by unfold mO; rw [af ad]; rfl
     refine⟨true,?_,fun hf=>by simp at hf,jb⟩;rw [q,g,bL,EU];simp only [Dj,zz,o3,TV,c1,c2,c3,hL,w,bC,mI,ay,dZ,eQ,wK]
    ·by_cases o1:oc=1
     ·rw [af J] at jb ⊢;have g:mO mo n (d1.l.length:Int) ((i+1:Nat):Int) d0 d1 true ⟨a,c,[]⟩ = L 2654 [mo,n,(d1.l.length:Int),((i+1:Nat):Int),enc d0,enc d1,enc a,enc c]:=by unfold mO; rfl
      refine⟨true,?_,fun hf=>by simp at hf,jb⟩;rw [q,g,bL,EU];simp only [Dj,zz,o1,TX,TW,c1,c2,c3,hL,w,bC,mI,ay,dZ,eQ,c4]
     ·by_cases he:((c.at (i:Int)).hd 5).n=((k.at (i:Int)).hd 5).n
      ·rw [af J] at jb ⊢;have g:mO mo n (d1.l.length:Int) ((i+1:Nat):Int) d0 d1 false ⟨a,c,[]⟩ = L 2652 [mo,n,(d1.l.length:Int),((i+1:Nat):Int),enc d0,enc d1,enc a,enc c]:=by unfold mO; rfl
       refine⟨false,?_,fun _=>by obtain⟨ea,eb⟩:=still o1 o2 o3 he; rw [ea,eb]; exact⟨rfl,rfl⟩,jb⟩;rw [q,g,bL,EU];simp only [Dj,zz,af o1,af o2,af o3,ag he,c1,c2,c3,hL,w,bC,mI,ay,dZ,eQ,c4]
      ·rw [af J] at jb ⊢;have g:mO mo n (d1.l.length:Int) ((i+1:Nat):Int) d0 d1 true ⟨a,c,[]⟩ = L 2654 [mo,n,(d1.l.length:Int),((i+1:Nat):Int),enc d0,enc d1,enc a,enc c]:=by unfold mO; rfl
       refine⟨true,?_,fun hf=>by simp at hf,jb⟩;rw [q,g,bL,EU];simp only [Dj,zz,af o1,af o2,af o3,af he,c1,c2,c3,hL,w,bC,mI,ay,dZ,eQ,c4]
  |true=>
   have q:mO mo n (d1.l.length:Int) (i:Int) d0 d1 true ⟨s,k,[]⟩ = L 2654 [mo,n,(d1.l.length:Int),(i:Int),enc d0,enc d1,enc s,enc k]:=by unfold mO; rfl
   by_cases o2:oc=2
   ·rw [ag J] at jb ⊢;have g:mO mo n (d1.l.length:Int) ((i+1:Nat):Int) d0 d1 true ⟨a,c,[]++ [wK e1 e2 e3 e4 e5]⟩ = L 2653 [mo,n,(d1.l.length:Int),((i+1:Nat):Int),enc d0,enc d1,enc (dL ([]++ [wK e1 e2 e3 e4 e5])),enc a,enc c]:=by unfold mO; rw [af ad]; rfl
    refine⟨true,?_,fun hf=>by simp at hf,jb⟩;rw [q,g,bL,ES];simp only [Dh,zz,o2,c1,c2,c3,hL,w,bC,mI,ay,dZ,eQ,wK]
   ·by_cases o3:oc=3
    ·rw [ag J] at jb ⊢;have g:mO mo n (d1.l.length:Int) ((i+1:Nat):Int) d0 d1 true ⟨a,c,[]++ [wK e1 e2 e3 e4 e5]⟩ = L 2653 [mo,n,(d1.l.length:Int),((i+1:Nat):Int),enc d0,enc d1,enc (dL ([]++ [wK e1 e2 e3 e4 e5])),enc a,enc c]:=by unfold mO; rw [af ad]; rfl
     refine⟨true,?_,fun hf=>by simp at hf,jb⟩;rw [q,g,bL,ES];simp only [Dh,zz,o3,TV,c1,c2,c3,hL,w,bC,mI,ay,dZ,eQ,wK]
    ·by_cases o1:oc=1
     ·rw [af J] at jb ⊢;have g:mO mo n (d1.l.length:Int) ((i+1:Nat):Int) d0 d1 true ⟨a,c,[]⟩ = L 2654 [mo,n,(d1.l.length:Int),((i+1:Nat):Int),enc d0,enc d1,enc a,enc c]:=by unfold mO; rfl
      refine⟨true,?_,fun hf=>by simp at hf,jb⟩;rw [q,g,bL,ES];simp only [Dh,zz,o1,TX,TW,c1,c2,c3,hL,w,bC,mI,ay,dZ,eQ,c4]
     ·by_cases he:((c.at (i:Int)).hd 5).n=((k.at (i:Int)).hd 5).n
      ·rw [af J] at jb ⊢;have g:mO mo n (d1.l.length:Int) ((i+1:Nat):Int) d0 d1 true ⟨a,c,[]⟩ = L 2654 [mo,n,(d1.l.length:Int),((i+1:Nat):Int),enc d0,enc d1,enc a,enc c]:=by unfold mO; rfl
       refine⟨true,?_,fun hf=>by simp at hf,jb⟩;rw [q,g,bL,ES];simp only [Dh,zz,af o1,af o2,af o3,he,if_true,ite_self,c1,c2,c3,hL,w,bC,mI,ay,dZ,eQ,c4]
      ·rw [af J] at jb ⊢;have g:mO mo n (d1.l.length:Int) ((i+1:Nat):Int) d0 d1 true ⟨a,c,[]⟩ = L 2654 [mo,n,(d1.l.length:Int),((i+1:Nat):Int),enc d0,enc d1,enc a,enc c]:=by unfold mO; rfl
       refine⟨true,?_,fun hf=>by simp at hf,jb⟩;rw [q,g,bL,ES];simp only [Dh,zz,af o1,af o2,af o3,af he,ite_self,c1,c2,c3,hL,w,bC,mI,ay,dZ,eQ,c4]
 ·cases b with
  |false=>
   have q:mO mo n (d1.l.length:Int) (i:Int) d0 d1 false ⟨s,k,l⟩ = L 2657 [mo,n,(d1.l.length:Int),(i:Int),enc d0,enc d1,enc (dL l),enc s,enc k]:=by unfold mO; rw [af Y]; rfl
   by_cases o2:oc=2
   ·rw [ag J] at jb ⊢;have g:mO mo n (d1.l.length:Int) ((i+1:Nat):Int) d0 d1 true ⟨a,c,l++ [wK e1 e2 e3 e4 e5]⟩ = L 2653 [mo,n,(d1.l.length:Int),((i+1:Nat):Int),enc d0,enc d1,enc (dL (l++ [wK e1 e2 e3 e4 e5])),enc a,enc c]:=by unfold mO; rw [af ad]; rfl
    refine⟨true,?_,fun hf=>by simp at hf,jb⟩;rw [q,g,bL,ER];simp only [Dg,zz,o2,c1,c2,c3,hL,w,bC,c5,bJ,dZ,eQ,wK]
   ·by_cases o3:oc=3
    ·rw [ag J] at jb ⊢;have g:mO mo n (d1.l.length:Int) ((i+1:Nat):Int) d0 d1 true ⟨a,c,l++ [wK e1 e2 e3 e4 e5]⟩ = L 2653 [mo,n,(d1.l.length:Int),((i+1:Nat):Int),enc d0,enc d1,enc (dL (l++ [wK e1 e2 e3 e4 e5])),enc a,enc c]:=by unfold mO; rw [af ad]; rfl
     refine⟨true,?_,fun hf=>by simp at hf,jb⟩;rw [q,g,bL,ER];simp only [Dg,zz,o3,TV,c1,c2,c3,hL,w,bC,c5,bJ,dZ,eQ,wK]
    ·by_cases o1:oc=1
     ·rw [af J] at jb ⊢;have g:mO mo n (d1.l.length:Int) ((i+1:Nat):Int) d0 d1 true ⟨a,c,l⟩ = L 2653 [mo,n,(d1.l.length:Int),((i+1:Nat):Int),enc d0,enc d1,enc (dL l),enc a,enc c]:=by unfold mO; rw [af Y]; rfl
      refine⟨true,?_,fun hf=>by simp at hf,jb⟩;rw [q,g,bL,ER];simp only [Dg,zz,o1,TX,TW,c1,c2,c3,hL,w,bC,c5,bJ,dZ,eQ,c4]
     ·by_cases he:((c.at (i:Int)).hd 5).n=((k.at (i:Int)).hd 5).n
      ·rw [af J] at jb ⊢;have g:mO mo n (d1.l.length:Int) ((i+1:Nat):Int) d0 d1 false ⟨a,c,l⟩ = L 2657 [mo,n,(d1.l.length:Int),((i+1:Nat):Int),enc d0,enc d1,enc (dL l),enc a,enc c]:=by unfold mO; rw [af Y]; rfl
       refine⟨false,?_,fun _=>by obtain⟨ea,eb⟩:=still o1 o2 o3 he; rw [ea,eb]; exact⟨rfl,rfl⟩,jb⟩;rw [q,g,bL,ER];simp only [Dg,zz,af o1,af o2,af o3,ag he,c1,c2,c3,hL,w,bC,c5,bJ,dZ,eQ,c4]
      ·rw [af J] at jb ⊢;have g:mO mo n (d1.l.length:Int) ((i+1:Nat):Int) d0 d1 true ⟨a,c,l⟩ = L 2653 [mo,n,(d1.l.length:Int),((i+1:Nat):Int),enc d0,enc d1,enc (dL l),enc a,enc c]:=by unfold mO; rw [af Y]; rfl
       refine⟨true,?_,fun hf=>by simp at hf,jb⟩;rw [q,g,bL,ER];simp only [Dg,zz,af o1,af o2,af o3,af he,c1,c2,c3,hL,w,bC,c5,bJ,dZ,eQ,c4]
  |true=>
   have q:mO mo n (d1.l.length:Int) (i:Int) d0 d1 true ⟨s,k,l⟩ = L 2653 [mo,n,(d1.l.length:Int),(i:Int),enc d0,enc d1,enc (dL l),enc s,enc k]:=by unfold mO; rw [af Y]; rfl
   by_cases o2:oc=2
   ·rw [ag J] at jb ⊢;have g:mO mo n (d1.l.length:Int) ((i+1:Nat):Int) d0 d1 true ⟨a,c,l++ [wK e1 e2 e3 e4 e5]⟩ = L 2653 [mo,n,(d1.l.length:Int),((i+1:Nat):Int),enc d0,enc d1,enc (dL (l++ [wK e1 e2 e3 e4 e5])),enc a,enc c]:=by unfold mO; rw [af ad]; rfl
    refine⟨true,?_,fun hf=>by simp at hf,jb⟩;rw [q,g,bL,ET];simp only [Di,zz,o2,c1,c2,c3,hL,w,bC,c5,bJ,dZ,eQ,wK]
   ·by_cases o3:oc=3
    ·rw [ag J] at jb ⊢;have g:mO mo n (d1.l.length:Int) ((i+1:Nat):Int) d0 d1 true ⟨a,c,l++ [wK e1 e2 e3 e4 e5]⟩ = L 2653 [mo,n,(d1.l.length:Int),((i+1:Nat):Int),enc d0,enc d1,enc (dL (l++ [wK e1 e2 e3 e4 e5])),enc a,enc c]:=by unfold mO; rw [af ad]; rfl
     refine⟨true,?_,fun hf=>by simp at hf,jb⟩;rw [q,g,bL,ET];simp only [Di,zz,o3,TV,c1,c2,c3,hL,w,bC,c5,bJ,dZ,eQ,wK]
    ·by_cases o1:oc=1
     ·rw [af J] at jb ⊢;have g:mO mo n (d1.l.length:Int) ((i+1:Nat):Int) d0 d1 true ⟨a,c,l⟩ = L 2653 [mo,n,(d1.l.length:Int),((i+1:Nat):Int),enc d0,enc d1,enc (dL l),enc a,enc c]:=by unfold mO; rw [af Y]; rfl
      refine⟨true,?_,fun hf=>by simp at hf,jb⟩;rw [q,g,bL,ET];simp only [Di,zz,o1,TX,TW,c1,c2,c3,hL,w,bC,c5,bJ,dZ,eQ,c4]
     ·by_cases he:((c.at (i:Int)).hd 5).n=((k.at (i:Int)).hd 5).n
      ·rw [af J] at jb ⊢;have g:mO mo n (d1.l.length:Int) ((i+1:Nat):Int) d0 d1 true ⟨a,c,l⟩ = L 2653 [mo,n,(d1.l.length:Int),((i+1:Nat):Int),enc d0,enc d1,enc (dL l),enc a,enc c]:=by unfold mO; rw [af Y]; rfl
       refine⟨true,?_,fun hf=>by simp at hf,jb⟩;rw [q,g,bL,ET];simp only [Di,zz,af o1,af o2,af o3,he,if_true,ite_self,c1,c2,c3,hL,w,bC,c5,bJ,dZ,eQ,c4]
      ·rw [af J] at jb ⊢;have g:mO mo n (d1.l.length:Int) ((i+1:Nat):Int) d0 d1 true ⟨a,c,l⟩ = L 2653 [mo,n,(d1.l.length:Int),((i+1:Nat):Int),enc d0,enc d1,enc (dL l),enc a,enc c]:=by unfold mO; rw [af Y]; rfl
       refine⟨true,?_,fun hf=>by simp at hf,jb⟩;rw [q,g,bL,ET];simp only [Di,zz,af o1,af o2,af o3,af he,ite_self,c1,c2,c3,hL,w,bC,c5,bJ,dZ,eQ,c4]
end
def O_ (i j:Nat):List Int:=(List.range' i j).map fun x:Nat=>(x:Int)
def Xs (m:Nat):Nat->List Int
 |0=>[]
 |j+1=>O_ 0 m++Xs m j
def r! (p:PS):List Int:=[enc (if p.l= [] then .i 1 else dL p.l),enc p.s,enc p.k]
section
variable {d0 d1:D} (h0:Wd (.sl 3) d0) (U:Wd (.sl 4) d1)
include h0 U
theorem Gw (mo:Int) {n:Nat} (hn:n<1000): ∀(j i:Nat) (p:PS) (N:Nat) (b:Bool),i+j=d1.l.length->Nd d1 p N->N+j<1000000->
 ∃b2:Bool,mO mo (n:Int) (d1.l.length:Int) (i:Int) d0 d1 b p=hdR mo ((n+1:Nat):Int) d0 d1 b2 (mC d0 d1 p (O_ i j))/\(b2=false->b=false/\mC d0 d1 p (O_ i j)=p)/\Nd d1 (mC d0 d1 p (O_ i j)) (N+j)
 |0,i,⟨s,k,l⟩,N,b,hi,P,hN=>by
  have c1: ¬(i:Int)<(d1.l.length:Int):=J
  have w:=bS (n:=n) J;refine⟨b,?_,fun h=> ⟨h,rfl⟩,P⟩;show mO mo (n:Int) (d1.l.length:Int) (i:Int) d0 d1 b ⟨s,k,l⟩ = hdR mo ((n+1:Nat):Int) d0 d1 b ⟨s,k,l⟩;by_cases Y:l= []
  ·subst Y
   cases b with
   |false=> show L 2652 _=some [enc (.i 1),enc s,enc k];rw [bL,EU];simp only [Dj,zz,c1,w,bC];rw [bL,adk];simp only [abY,zz,bR]
   |true=> show L 2654 _=L 2651 _;rw [bL,ES];simp only [Dh,zz,c1,w,bC]
  ·cases b with
   |false=> unfold mO hdR;rw [af Y,af ad,af ad,af Y,bL,ER];simp only [Dg,zz,c1,w,bC];rw [bL,adj];simp only [abX,zz,bR]
   |true=> unfold mO hdR;rw [af Y,ag rfl,ag rfl,af Y,bL,ET];simp only [Di,zz,c1,w,bC]
 |j+1,i,⟨s,k,l⟩,N,b,hi,P,hN=>by
  obtain⟨b2,q1,q2,q3⟩:=Tw h0 U P J (by omega:i<d1.l.length) mo (n:Int) b;obtain⟨b3,r1,r2,r3⟩:=Gw mo hn j (i+1) (MU d0 d1 ⟨s,k,l⟩ (i:Int)) (N+1) b2 J q3 J;refine⟨b3,q1.trans r1,fun h=>?_,?_⟩
  ·obtain⟨x1,x2⟩:=r2 h;obtain⟨y1,y2⟩:=q2 x1;exact⟨y1,x2.trans y2⟩
  ·rw [show N+(j+1)=N+1+j by omega];exact r3
omit h0 U in
theorem Gq {p:PS} (h:mC d0 d1 p (O_ 0 d1.l.length)=p): ∀j:Nat,mC d0 d1 p (Xs d1.l.length j)=p
 |0=>rfl
 |j+1=>by show mC d0 d1 p (O_ 0 d1.l.length++Xs d1.l.length j)=p;rw [uI,h];exact Gq h j
noncomputable def Uk (mo n:Int) (d0 d1:D) (p:PS):Option (List Int):=if p.l= [] then L 2651 [mo,n,enc d0,enc d1,enc p.s,enc p.k] else L 2656 [mo,n,enc d0,enc d1,enc (dL p.l),enc p.s,enc p.k]
theorem DA {mo:Nat} (hmo:mo<1000): ∀(j n:Nat) (p:PS) (N:Nat),n+j=mo->Nd d1 p N->N+j*d1.l.length<1000000->Uk (mo:Int) (n:Int) d0 d1 p=some (r! (mC d0 d1 p (Xs d1.l.length j)))/\Nd d1 (mC d0 d1 p (Xs d1.l.length j)) (N+j*d1.l.length)
 |0,n,⟨s,k,l⟩,N,hj,P,hN=>by
  have c0: ¬(100000:Int)<(mo:Int):=J
  have c1: ¬(n:Int)<(mo:Int):=J
  refine⟨?_,by rw [amS]; exact P⟩;show Uk (mo:Int) (n:Int) d0 d1 ⟨s,k,l⟩ = some (r! ⟨s,k,l⟩);unfold Uk r!;by_cases Y:l= []
  ·rw [ag Y,ag Y,bL,ZA];simp only [Wl,zz,c0,c1,bR]
  ·rw [af Y,af Y,bL,Zz];simp only [Wk,zz,c0,c1,bR]
 |j+1,n,⟨s,k,l⟩,N,hj,P,hN=>by
  have c0: ¬(100000:Int)<(mo:Int):=J
  have c1:(n:Int)<(mo:Int):=J
  have hm:(j+1)*d1.l.length=d1.l.length+j*d1.l.length:=by rw [am0,ann,Nat.add_comm]
  rw [hm] at hN ⊢;obtain⟨b2,q1,q2,q3⟩:=Gw h0 U (mo:Int) (n:=n) J d1.l.length 0 ⟨s,k,l⟩ N false J P J
  have ent:Uk (mo:Int) (n:Int) d0 d1 ⟨s,k,l⟩ = mO (mo:Int) (n:Int) (d1.l.length:Int) 0 d0 d1 false ⟨s,k,l⟩:=by
   unfold Uk mO;by_cases Y:l= []
   ·rw [ag Y,ag Y,af ad,bL,ZA];simp only [Wl,zz,c0,c1,bC]
   ·rw [af Y,af Y,af ad,bL,Zz];simp only [Wk,zz,c0,c1,bC]
  rw [amX] at q1;rw [ent,q1];obtain⟨r1,r2⟩:=DA hmo j (n+1) _ (N+d1.l.length) J q3 J;have er:mC d0 d1 ⟨s,k,l⟩ (Xs d1.l.length (j+1))=mC d0 d1 (mC d0 d1 ⟨s,k,l⟩ (O_ 0 d1.l.length)) (Xs d1.l.length j):=uI d0 d1 _ _ _;rw [er];refine⟨?_,by rw [<- amR]; exact r2⟩
  cases b2 with
  |true=>exact r1
  |false=> obtain⟨_,x⟩:=q2 rfl;rw [x,Gq x];rfl
end
section
variable {d0 d1:D} (h0:Wd (.sl 3) d0) (U:Wd (.sl 4) d1)
include h0 U
theorem KN {s k:D} {l:List D} {n:Nat} (S:Sx s k n) (hn:n<17592186043800) (M: ¬MR d0 d1 s k): ∀ts:List Int,mC d0 d1 ⟨s,k,l⟩ ts=⟨s,k,l⟩
 |[]=>rfl
 |t::ts=>by
  have e:MU d0 d1 ⟨s,k,l⟩ t=⟨s,k,l⟩:=by
   obtain⟨_,q,w,rfl,hw⟩:=DE (k:=k) h0 U (S.g.l7 J).rows U.len t;rcases hw with ⟨rfl,_⟩|⟨_,hw⟩
   ·rw [W4 (p:=⟨s,k,l⟩) (It S q)];rfl
   ·exact absurd hw.2.2 M
  show mC d0 d1 (MU d0 d1 ⟨s,k,l⟩ t) ts=_;rw [e];exact KN S hn M ts
theorem Tv {s k:D} {N mo:Nat} (S:Sx s k N) (NK':NK k) (hmo:mo<1000) (hN:N+mo*d1.l.length<1000000):L 2650 [enc d0,enc d1,enc s,enc k,(mo:Int)]=some (r! (mC d0 d1 ⟨M3 s,k,[]⟩ (Xs d1.l.length mo))):=by
 have hc:=LX S NK' J;have S':=j? S;obtain⟨_,q,w,rfl,hw⟩:=rP (k:=k) h0 U (S.g.l7 J).rows U.len;rw [bL,adl];rcases hw with ⟨rfl,M⟩|⟨rfl,M⟩
 ·have M': ¬MR d0 d1 (M3 s) k:=fun m=>by
   have se:=agq S.g;exact M (aiY h0 U ⟨se.len.symm,fun i=> ⟨(se.ats i).c0.symm,(se.ats i).c1.symm,(se.ats i).c2.symm,(se.ats i).c3.symm,(se.ats i).c4.symm,(se.ats i).c5.symm⟩⟩ S'.g S.g J m)
  rw [KN h0 U S' J M'];simp only [Wm,zz,hc,q,bR,r!,if_true]
 ·have P:Nd d1 ⟨M3 s,k,[]⟩ N:=⟨S',M.2.1,am5 _⟩;have h:=(DA h0 U hmo mo 0 ⟨M3 s,k,[]⟩ N J P hN).1;rw [amX] at h;have e:Uk (mo:Int) 0 d0 d1 ⟨M3 s,k,[]⟩ = L 2651 [(mo:Int),0,enc d0,enc d1,enc (M3 s),enc k]:=by unfold Uk; rfl
  rw [e] at h;simp only [Wm,zz,hc,q,bG,bC];exact h
end
end Go.As.Try
end
section
namespace Go.As.Try
open Go hiding Stat Spec shape
open Go.As
set_option maxRecDepth 100000
set_option linter.unusedSimpArgs false
set_option linter.unusedVariables false
set_option linter.unusedSectionVars false
theorem Iz (m:Nat): ∀j:Nat,(Xs m j).length=j*m
 |0=>by rw [amS]; rfl
 |j+1=>by show (O_ 0 m++Xs m j).length=_;rw [aT,Iz m j,am0,ann,Nat.add_comm];unfold O_;rw [aL,List.length_range']
section
variable {d0 d1:D} (h0:Wd (.sl 3) d0) (U:Wd (.sl 4) d1)
include h0 U
theorem XM: ∀(ts:List Int) (p:PS) (n:Nat),Nd d1 p n->NK p.k->n+ts.length<17592186043800->NK (mC d0 d1 p ts).k
 |[],p,n,_,N,_=>N
 |t::ts,p,n,P,N,hn=>by
  simp only [aM] at hn;obtain⟨s',k',e1,e2,e3,e4,e5,oc,hL,H⟩:=sE P.sx J h0 U t;obtain⟨a,b,f1,f2,f3,f4,f5,oc',A⟩:=yr P.sx J h0 U t;have P':=ND P A
  have N':NK (MU d0 d1 p t).k:=by rw [W4 hL];exact W1 N H
  exact XM ts _ (n+1) P' N' J
theorem aai (d:D) (hd:d.l.length<=1000): ∃l s k,L 2400 [enc d0,enc d1,enc d]=some [enc l,enc s,enc k]/\Sx s k d.l.length/\NK k:=by
 obtain⟨ys,hC,c,rfl,_,oM⟩:=wD h0 U;by_cases hc:c=0
 ·subst hc;have ok:=(oM rfl).1;have hB:=T5 U hC ok;have P:Nd d1 ⟨ml d0,mq d1,[]⟩ 0:=⟨WW h0 U ok,Nq d1,au _⟩;by_cases hn:0<d1.l.length
  ·have hQ:=Ix h0 U (d.l.map (X! d1)) _ 0 P (by rw [aL]; omega);have hN:=XM h0 U (d.l.map (X! d1)) _ 0 P (La d1) (by rw [aL]; omega);rw [aL,aA] at hQ;exact⟨_,_,_,X_ h0 U hn hB P d J,hQ.sx,hN⟩
  ·refine⟨.i 1,_,_,?_,P.sx.mono (am5 _),La d1⟩;have c1: ¬(0:Int)<(d1.l.length:Int):=J
   rw [bL,R5];simp only [P1,zz,hB,bC];rw [bL,R4];by_cases hqz:(0:Int)<(d.l.length:Int)
   ·simp only [Bq,zz,hqz,c1,bR]
   ·simp only [Bq,zz,hqz,bR]
 ·exact⟨_,_,_,aaM hc (T4 hC hc) d,aeS.mono (am5 _),fun x hx=>by simp [D.l] at hx⟩
theorem TE (x:D) (m:Nat) (hm:m<=1000): ∃s k:D,Sx s k 1000/\NK k/\∃b:Int,L 23600 [enc d0,enc d1,enc x,(m:Int)]=some [enc s,enc k,b]/\(b=0\/b=1/\MR d0 d1 s k/\0<d1.l.length):=by
 have key: ∀q:D,q.l.length<=m->∃s k:D,Sx s k 1000/\NK k/\∃b:Int,(∃l,L 2400 [enc d0,enc d1,enc q]=some [enc l,enc s,enc k])/\L 1500 [enc d0,enc d1,enc s,enc k]=some [b]/\(b=0\/b=1/\MR d0 d1 s k):=fun q hq=>by obtain⟨l,s,k,hL,S,N⟩:=aai h0 U q J;have S:=S.mono (by omega:q.l.length<=1000);obtain⟨ys,hM,b,rfl,hb⟩:=rP h0 U (S.g.l7 J).rows U.len (k:=k);exact⟨s,k,S,N,b,⟨l,hL⟩,hM,hb.imp (fun h=>h.1) id⟩
 have c0: ¬((m:Int)<0):=J
 by_cases hx:(m:Int)<(x.l.length:Int)
 ·obtain⟨s,k,S,N,b,⟨l,hL⟩,hM,hb⟩:=key (eY x (x.l.take m)) (by rw [gw,a8]; omega);refine⟨s,k,S,N,?_⟩;rw [bL,O6];by_cases hd:(0:Int)<(d1.l.length:Int)
  ·rcases hb with rfl|⟨rfl,M⟩
   ·exact⟨0,by simp only [xp,zz,hx,c0,bd,hL,hM,hd,bR],.inl rfl⟩
   ·exact⟨1,by simp only [xp,zz,hx,c0,bd,hL,hM,hd,bG,bR],.inr ⟨rfl,M,J⟩⟩
  ·exact⟨0,by simp only [xp,zz,hx,c0,bd,hL,hM,hd,bR],.inl rfl⟩
 ·have c3: ¬((x.l.length:Int)<(x.l.length:Int)):=J
  obtain⟨s,k,S,N,b,⟨l,hL⟩,hM,hb⟩:=key (eY x (x.l.take x.l.length)) (by rw [gw,a8]; omega);refine⟨s,k,S,N,?_⟩;rw [bL,O6];by_cases hd:(0:Int)<(d1.l.length:Int)
  ·rcases hb with rfl|⟨rfl,M⟩
   ·exact⟨0,by simp only [xp,zz,hx,c3,bd,hL,hM,hd,bR],.inl rfl⟩
   ·exact⟨1,by simp only [xp,zz,hx,c3,bd,hL,hM,hd,bG,bR],.inr ⟨rfl,M,J⟩⟩
  ·exact⟨0,by simp only [xp,zz,hx,c3,bd,hL,hM,hd,bR],.inl rfl⟩
theorem NP {s k:D} {N mo:Nat} (S:Sx s k N) (NK':NK k) (hk:k.l.length=d1.l.length) (hmo:mo<1000) (hN:N+mo*d1.l.length<1000000): ∃l s' k',L 2650 [enc d0,enc d1,enc s,enc k,(mo:Int)]=some [l,enc s',enc k']/\Sx s' k' (N+mo*d1.l.length):=by have hQ:=Ix h0 U (Xs d1.l.length mo) ⟨M3 s,k,[]⟩ N ⟨j? S,hk,am5 _⟩ (by rw [Iz]; omega);rw [Iz] at hQ;exact⟨_,_,_,Tv h0 U S NK' hmo hN,hQ.sx⟩
end
section
variable {d0 d1 s k:D} {n:Nat} (S:Sx s k n) (hn:n<17592186043800) (h0:Wd (.sl 3) d0) (U:Wd (.sl 4) d1) (P:Px d0 d1 s k)
include S hn h0 U P
theorem Gd {t u:Int} (Z':UP d0 d1 s k t u):No4 d0 d1 s k t:=by
 obtain⟨M,hP⟩:=P;obtain⟨x,op,obj,arg,tr,R,ho,hq,hB,hH⟩:=Z';refine⟨x,R,?_⟩;rw [hq];intro h4;have h4:op=4:=h4;subst h4;obtain⟨s2,k2,f1,f2,f3,f4,f5,oc2,q1,q2,q3⟩:=hP t x R;rw [hq] at q3;have q3: ¬((4:Int)=4/\tr<arg):=q3;obtain⟨s',k',e1,e2,e3,e4,e5,oc,hL,H⟩:=sE S J h0 U t;have Q:=SH R.c (aiZ S hn h0 U M) R.r ho hq;obtain⟨hC,ok,hle⟩:=yG h0 U S.g J M.1
 cases H with
 |no h=>rw [R.yes] at h; simp at h
 |over y Ry yf=> have e:=qT S hn h0 U M Ry R;subst e;omega
 |loc y Ry yf ha=> have e:=qT S hn h0 U M Ry R;subst e;rw [hq] at ha;simp [low] at ha
 |tri y Ry yf op' amy amO tr' Ue k1 k2 k3 fP s' e1 e2 e3 e4 e5 oc A T=> have e:=qT S hn h0 U M Ry R;subst e;rw [hq] at Ue;simp only [List.cons.injEq,and_true] at Ue;obtain⟨rfl,rfl,rfl,rfl⟩:=Ue;have o0:=(adG h0 U S.g J k1 A).2 hB;have q0:=Q.o0;have q1:=Q.o1;exact XV S J h0 U A o0 (fun h=>q3 ⟨rfl,h⟩) ⟨M.1,R.r.t0,R.r.t1,Q.o0,J,(Q.h4 rfl).symm⟩
def FD (d0 d1 s k dl:D) (t:Int):Prop:=t∉dl.l.map D.n/\¬F2 d0 d1 s k t
theorem Pv {dl:D} (DL:H7 d0 d1 s k dl) {t u:Int} (A:FD d0 d1 s k dl t) (Z':UP d0 d1 s k t u):FD d0 d1 s k dl u:=by
 have N4:=Gd S hn h0 U P Z'
 have key: ¬(u∈dl.l.map D.n\/F2 d0 d1 s k u):=fun hc=>by
  refine A.1 (DL.top (fun y=>y∈dl.l.map D.n\/y=t) (fun y hy=>?_) t (.inr rfl));rcases hy with hy|rfl
  ·obtain⟨rg,n4,w,Ww,hw⟩:=DL.pf y hy;exact⟨rg,n4,w,Ww,hw.imp .inl id⟩
  ·have W':=Z';obtain⟨x,op,obj,arg,tr,R,_⟩:=W';exact⟨⟨R.r.t0,R.r.t1⟩,N4,u,Z',hc.imp .inl id⟩
 exact⟨fun h=>key (.inl h),fun h=>key (.inr h)⟩
theorem ae8 {dl:D} (DL:H7 d0 d1 s k dl) {Z!:List Int} {v:Int} (hv:v∈Z!) (hA: ∀v∈Z!,FD d0 d1 s k dl v) (hN: ∀v∈Z!,∃w,w∈Z!/\UP d0 d1 s k v w):False:=by refine (hA v hv).1 (DL.top (fun y=>y∈Z!) (fun y hy=>?_) v hv);obtain⟨w,hw,Z'⟩:=hN y hy;have W':=Z';obtain⟨x,op,obj,arg,tr,R,_⟩:=W';exact⟨⟨R.r.t0,R.r.t1⟩,Gd S hn h0 U P Z',w,Z',.inl hw⟩
omit P in
theorem aaC (M:MR d0 d1 s k) (t:Int):dC 23400 [enc d0,enc d1,enc s,enc k,t] (Ls (UP d0 d1 s k t)):=by
 rcases KO (t:=t) S J h0 U with h|⟨x,R⟩
 ·have Ul:L 1800 [enc d0,enc d1,enc s,enc k,t]=some [0,0,0,0,0]:=by
   rw [bL,ZG];simp only [P3,zz,h,bR]
  refine dC.of ?_;rw [Pa];simp only [Dm,zz,Ul];exact .out (kM fun u ⟨x,op,obj,arg,tr,R,_⟩=>by rw [R.yes] at h; simp at h)
 ·exact YX S hn h0 U M R.r.t0 R.r.t1
end
def SN (mp:D) (Z!:List Int):Prop:= ∀u,gf mp.l (.i u)=if u∈Z! then some (.i 1) else none
theorem KM {mp:D} {Z!:List Int} (h:SN mp Z!) (u:Int):SN (dL (j8 mp.l (.i u) (.i 1))) (u::Z!):=fun w=>by
 rw [bJ,vU,h w];by_cases e:u=w
 ·subst e; simp
 ·have: ¬(D.i u=D.i w):=fun q=>e (by simpa using q);have e': ¬w=u:=fun q=>e q.symm;simp [this,e']
section
variable {d0 d1 s k:D} {n:Nat} (S:Sx s k n) (hn:n<17592186043800) (h0:Wd (.sl 3) d0) (U:Wd (.sl 4) d1) (P:Px d0 d1 s k)
include S hn h0 U P
theorem HV {dl:D} (DL:H7 d0 d1 s k dl) (len i:Int) (next:L 23701 [enc dl,len,IntKind.i64.wrap (i+1),enc d0,enc d1,enc s,enc k]=some [1]) (Z!:List Int) (u:Int) (mp:D)
 (hM:SN mp Z!) (hA: ∀v∈Z!,FD d0 d1 s k dl v) (hu:FD d0 d1 s k dl u) (hN: ∀v∈Z!,∃w,(w∈Z!\/w=u)/\UP d0 d1 s k v w)
 (rec: ∀v,UP d0 d1 s k u v->(0<=u/\u<(d1.l.length:Int))->u∉Z!->L 23702 [enc dl,v,len,i,enc d0,enc d1,enc s,enc k,enc (dL (j8 mp.l (.i u) (.i 1)))]=some [1]) :
 L 23702 [enc dl,u,len,i,enc d0,enc d1,enc s,enc k,enc mp]=some [1]:=by
 by_cases hv:u∈Z!
 ·exact (ae8 S hn h0 U P DL hv hA fun v hv'=>by
   obtain⟨w,hw,Z'⟩:=hN v hv';refine⟨w,?_,Z'⟩;rcases hw with hw|rfl
   ·exact hw
   ·exact hv).elim
 have f1:=hM u;rw [af hv] at f1;have f2:=KM hM u u;rw [ag (anw ..),bJ] at f2;obtain⟨ys,hF,l,rfl,hm,Y⟩:=aaC S hn h0 U P.1 u;have LJ:=Jl S hn h0 U u;rw [af hu.2] at LJ;by_cases hz:l.l= []
 ·have c1: ¬(0:Int)<(l.l.length:Int):=by rw [hz]; simp
  have two:L 23702 [enc dl,u,len,i,enc d0,enc d1,enc s,enc k,enc (dL (j8 mp.l (.i u) (.i 1)))]=some [1]:=by
   rw [bL,JN];simp only [Ii,zz,f2,hF,c1,LJ,bJ,bq,aC,bG,bC]
   exact next
  rw [bL,JN];simp only [Ii,zz,f1,hF,c1,aoP,aP,bC];exact two
 ·have hlen:0<l.l.length:=am3.2 hz;have c1:(0:Int)<(l.l.length:Int):=J
  have a0:l.at 0=l.l[0]:=bX (d:=l) (i:=0) hlen;have Z':UP d0 d1 s k u (l.l[0]).n:=(hm _).1 (aH.2 ⟨_,az hlen,rfl⟩);have W':=Z';obtain⟨x,op,obj,arg,tr,R,_⟩:=W';have r:=rec _ Z' ⟨R.r.t0,R.r.t1⟩ hv;rw [bL,JN];simp only [Ii,zz,f1,hF,c1,a0,aoP,aP,bC];exact r
theorem Pq {dl:D} (DL:H7 d0 d1 s k dl) (len i:Int) (next:L 23701 [enc dl,len,IntKind.i64.wrap (i+1),enc d0,enc d1,enc s,enc k]=some [1]): ∀(m:Nat) (T Z!:List Int) (u:Int) (mp:D),T.length<=m->
 (∀v,0<=v->v<(d1.l.length:Int)->v∉Z!->v∈T)->SN mp Z!->(∀v∈Z!,FD d0 d1 s k dl v)->FD d0 d1 s k dl u->(∀v∈Z!,∃w,(w∈Z!\/w=u)/\UP d0 d1 s k v w)->
 L 23702 [enc dl,u,len,i,enc d0,enc d1,enc s,enc k,enc mp]=some [1]:=by
 intro m
 induction m with
 |zero=>
  intro T Z! u mp hT hV hM hA hu hN
  refine HV S hn h0 U P DL len i next Z! u mp hM hA hu hN fun v x hR hv=>?_
  have:=hV u hR.1 hR.2 hv;rw [amT (by omega:T.length=0)] at this;simp at this
 |succ m ih=>
  intro T Z! u mp hT hV hM hA hu hN
  refine HV S hn h0 U P DL len i next Z! u mp hM hA hu hN fun v x hR hv=>?_
  have u6:=hV u hR.1 hR.2 hv;have lt:(T.filter (fun w=>decide (w≠u))).length<T.length:=List.length_filter_lt_length_iff_exists.2 ⟨u,u6,ad⟩;refine ih (T.filter (fun w=>decide (w≠u))) (u::Z!) v (dL (j8 mp.l (.i u) (.i 1))) J (fun w w0 w1 hw=>?_) (KM hM u) (fun w hw=>?_) (Pv S hn h0 U P DL hu x) (fun w hw=>?_)
  ·simp only [ax,not_or] at hw;exact am1.2 ⟨hV w w0 w1 hw.2,by simpa using hw.1⟩
  ·rcases ax.1 hw with rfl|hw
   ·exact hu
   ·exact hA w hw
  ·rcases ax.1 hw with rfl|hw
   ·exact⟨v,.inr rfl,x⟩
   ·obtain⟨z,hz,Z'⟩:=hN w hw;refine⟨z,.inl ?_,Z'⟩;rcases hz with hz|rfl
    ·exact anG _ hz
    ·exact anw ..
theorem yl {dl:D} (DL:H7 d0 d1 s k dl) (hb:d1.l.length<=1000): ∀(j i:Nat),i+j=d1.l.length->L 23701 [enc dl,(d1.l.length:Int),(i:Int),enc d0,enc d1,enc s,enc k]=some [1]
 |0,i,hi=>by
  have c1: ¬(i:Int)<(d1.l.length:Int):=J
  rw [bL,O5];simp only [Dk,zz,c1,bR]
 |j+1,i,hi=>by
  have c1:(i:Int)<(d1.l.length:Int):=J
  have w:=bS (n:=i) J;have ih:=yl DL hb j (i+1) J;have LJ:=Jl S hn h0 U (i:Int);obtain⟨c,hH,hc⟩:=aax dl DL.len (i:Int);rw [bL,O5];by_cases hF:F2 d0 d1 s k (i:Int)
  ·rw [ag hF] at LJ;simp only [Dk,zz,c1,LJ,bG,w,bC];exact ih
  ·rw [af hF] at LJ;rcases hc with ⟨rfl,hc⟩|⟨rfl,hc⟩
   ·have ch:=Pq S hn h0 U P DL (d1.l.length:Int) (i:Int) (by rw [w]; exact ih) d1.l.length ((List.range d1.l.length).map fun x:Nat=>(x:Int)) [] (i:Int) (.i 0) ad
     (fun v v0 v1 _=>aH.2 ⟨v.toNat,am2.2 J,J⟩) (fun u=>by simp [D.l,gf]) ad ⟨hc,hF⟩ ad
    simp only [Dk,zz,c1,LJ,hH,bC];exact ch
   ·simp only [Dk,zz,c1,LJ,hH,bG,w,bC];exact ih
end
theorem Nh {d0 d1:D} (h0:Wd (.sl 3) d0) (U:Wd (.sl 4) d1) (x:D):L 23700 [enc d0,enc d1,enc x]=some [1]:=by
 obtain⟨ys,hG,b,rfl,hb⟩:=Un (d0:=d0) U;obtain⟨s,k,S,N,c,hP,hc⟩:=TE h0 U x 60 J;have hP:L 23600 [enc d0,enc d1,enc x,60]=some [enc s,enc k,c]:=hP;rw [bL,ZD];by_cases rz:b=0
 ·subst rz;by_cases h3:(3:Int)<(d1.l.length:Int)
  ·simp only [Av,zz,hG,h3,bR]
  rcases hc with rfl|⟨rfl,M,hd⟩
  ·simp only [Av,zz,hG,h3,hP,bR]
  ·obtain⟨l,s',k',hR,S'⟩:=NP (mo:=200) h0 U S N M.2.1 J J;have hR:L 2650 [enc d0,enc d1,enc s,enc k,200]=some [l,enc s',enc k']:=hR;obtain⟨ys,hS,q,rfl,hq⟩:=WX S' J h0 U;rcases hq with ⟨rfl,_⟩|⟨rfl,P⟩
   ·simp only [Av,zz,hG,h3,hP,hR,hS,bG,bR]
   ·obtain⟨ys,hD,dl,rfl,DL⟩:=aa5 S' J h0 U P.1;have:=yl S' J h0 U P DL J d1.l.length 0 J;rw [amX] at this;simp only [Av,zz,hG,h3,hP,hR,hS,hD,bG,bC];exact this
 ·simp only [Av,zz,hG,rz,bR]
end Go.As.Try
end
section
namespace Go.Proofs.YtlgfoolepdjmoaaGreatDoor.fnWaitsStuck
open Go hiding Stat
open Go.As Go.As.Try Go.Proofs Go.RowKit Go.ChangeShapes Go.WideShapes Go.ChangeAt
set_option maxRecDepth 100000
theorem aaI:ub Tryz.prog aab 8 25=some [.sl 3,.sl 4]:=aa
theorem aaH:ub Tryz.prog aab 8 26=some [.sl 0]:=aa
theorem MA {H:Type} {enc:TypeId×Value->H} {Z':World} {t:TypeId} {v:Value} {d:DataW H} {p:List MemPlace} {FZ:List CK} (hf:ub Tryz.prog aab 8 t=some FZ) (h:DataW.Trod enc Tryz.prog Z' 0 (fun _=>true) true t v d p) (hw:(d.weights Tryz.prog t).all (·<=reachBytes)=true) :
 ∃ds,Rs (NQ Z') Z'.heap FZ ds v.cells.toList:=by
 obtain⟨fuel,hx⟩:=h;exact Iy aaa fuel t 8 FZ v.cells.toList (d,p) hf hx hw
theorem aiR:23700∈S.Cg 4:=by
 have h:S.Cg 4= [23700]:=aa
 rw [h];simp
theorem l? (H:Type) (enc:TypeId×Value->H) (Z':World) (base:Nat) (args:Array Value) (ds gs:List (DataW H)) (before:List MemPlace)
 (I7: ∀(j:Nat) t v,Tryz.f4.params[j]?=some t->args[j]?=some v->Value.okWide Tryz.prog Z' .any base t v)
 (hW:DataW.Whole enc Tryz.prog Tryz.f4.params.toList Rows.waitsStuckSpec.vars false Z' args.toList ds gs before)
 (gT:(DataW.weightsEach Tryz.prog (Tryz.f4.params.toList++ []) (ds++gs)).all (·<=reachBytes)=true) (xJ:Z'.ShapedOpen Tryz.prog) :
 Calls Tryz.prog 4 args Z' fun e W'=> ∃v,e= .returned v/\Rows.waitsStuckSpec.post enc Tryz.prog Tryz.f4 false true false false Z' args v W':=by
 have hW':=hW;obtain⟨p,q,hA0,hV,rfl,hfz,BP⟩:=hW;have hA:DataW.TrodAll enc Tryz.prog Z' 0 (fun _=>true) true Tryz.f4.params.toList args.toList ds p:=hA0;rw [Tryz.params4] at hA I7 gT;obtain⟨v0,vs0,d0,ds0,p0,q0,acC,rfl,rfl,h0,r0⟩:=trodAll_cons hA;obtain⟨v1,VH,d1,ds1,p1,q1,rfl,rfl,rfl,U,r1⟩:=trodAll_cons r0;obtain⟨rfl,rfl,rfl⟩:=trodAll_nil r1;obtain rfl:args= #[v0,v1]:=by cases args; simp_all
 obtain⟨rfl,rfl⟩:=trodVars_none hV;clear hA0;simp only [anc] at hW';have ff: ∀x∈p0++p1,x.block<Z'.heap.size:=fun x hx=>by simpa using hW'.lt x (by simpa using hx)
 have aly: ∀x∈p0,x.block<Z'.heap.size:=fun x hx=>ff x (aoO _ hx);have alx: ∀x∈p1,x.block<Z'.heap.size:=fun x hx=>ff x (aoN _ hx)
 have ajl:(d0.weights Tryz.prog 25).all (·<=reachBytes)=true/\(d1.weights Tryz.prog 26).all (·<=reachBytes)=true:=by have:(DataW.weightsEach Tryz.prog [25,26] [d0,d1]).all (·<=reachBytes)=true:=gT;simp only [DataW.weightsEach,aok,an] at this;exact⟨this.1,this.2.1⟩
 obtain⟨es0,R0⟩:=MA aaI h0 ajl.1;obtain⟨es1,R1⟩:=MA aaH U ajl.2;obtain⟨cs0,rfl,_⟩:=okWide_struct Tryz.underlying25 (I7 0 25 v0 rfl rfl);have e0:(Value.agg cs0).cells.toList=cs0.toList:=rfl;obtain⟨ad1,iN,aa9,rfl⟩:=okWide_slice Tryz.underlying26 (I7 1 26 v1 rfl rfl);have e1:(Value.slice ad1 iN aa9).cells.toList= [.slice ad1 iN aa9]:=rfl;rw [e0] at R0;rw [e1] at R1
 match es0,alP:cs0.toList,R0 with
 |[x0,x1],[u0,u1],.cons r0_ w0 (.cons r1_ w1 .nil)=>
  obtain rfl:cs0= #[u0,u1]:=by rw [<- Array.toArray_toList (xs:=cs0),alP]
  match es1,R1 with
  |[x2],.cons r2_ w2 .nil=> have hL:=(Nh w0 w1 x2);refine (n? (g:=4) (j:=23700) (e:=(akS abv 94).ent) aiR aa rfl rfl hL xJ (vals:=[.agg [u0,u1].toArray,.slice ad1 iN aa9]) (fl:=[u0,u1,.slice ad1 iN aa9]) (.agg _ [u0,u1] rfl (.one _ _ .nil)) ⟨_,_,_,_,rfl,rfl,Fl r0_,_,_,_,_,rfl,rfl,Fl r1_,_,_,_,_,rfl,rfl,Fl r2_,rfl,rfl⟩).mono fun e W' ⟨he,hb⟩=>?_;subst he;exact⟨_,rfl,⟨_,_,_,[],_,[],hW',trodAll_mk1 (shut_bool Tryz.underlying4 _),trodAll_mk2 (Below.trod laidOut aa (of_decide_eq_true aa) h0 hb aly) (Below.trod laidOut aa (of_decide_eq_true aa) U hb alx),rfl,hb.frame _,fun h=>by cases h⟩⟩
abbrev PM:Array Value:=#[.agg #[.slice none 0 0,.slice none 0 0],.slice none 0 0]
theorem X3 (os:Os):laidMet Tryz.prog Rows.waitsStuckRow.laid ((AR os).forCall (fun _ _=>0) ⟨#[],PM,[]⟩).memory:=
 laidMet_of_run' 8 aa aa
theorem reads (os:Os) {H:Type} (enc:TypeId×Value->H): ∃places,DataW.whole enc Tryz.prog ((AR os).forCall (fun _ _=>0) ⟨#[],PM,[]⟩).memory Tryz.f4.params.toList [] false PM.toList 8=some ([.agg [.nil,.nil],.nil],[],places):=
 ⟨[],aa⟩
set_option maxHeartbeats 400000 in
theorem lifted (os:Os) (started:os.Started) (H:Type) (enc:TypeId×Value->H) (F:Stop.Interp) :
 ReturnsInHanded {} Tryz.checked os 4 .any ((OpenSpec.ofChange Rows.waitsStuckSpec).preRow enc Tryz.prog Tryz.f4 Rows.waitsStuckRow.domain false Rows.waitsStuckRow.laid) (((OpenSpec.ofChange Rows.waitsStuckSpec).at F).post enc Tryz.prog Tryz.f4 false true false false):=by
 obtain⟨places,hx⟩:=reads os enc
 refine returnsInHanded_of_row (C:=Tryz.checked) (s:=OpenSpec.ofChange Rows.waitsStuckSpec) Try.own started aa Tryz.func4
  (witness_row_at (enc:=enc) (C:=Tryz.checked) false (AR os) PM rfl aa aa aa
   (OpenSpec.preRow_of_cond 8 hx aa (fun k hk=>by cases hk) aa (X3 os))) ?_
 intro Z' base args ds gs before I7 hW _ _ gT _ xJ _;exact l? H enc Z' base args ds gs before I7 hW gT xJ
theorem gX {a b:Bool} (U:a=true) (Z:b=true):(a&&b)=true:=by rw [U,Z]; rfl
theorem closed:joinedFacts Tryz.pinned.checked.prog 4 Tryz.f4 (OpenSpec.ofChange Rows.waitsStuckSpec).bare Rows.waitsStuckRow=true:=(gX (gX (gX (gX (gX (gX (gX (gX (gX (gX (gX (gX (gX (gX (gX (gX (gX (gX (gX (gX (gX (gX (gX (gX (gX (gX (gX (gX (gX (gX (gX aa aa) aa) aa) aa) aa) aa) aa) aa) aa) aa) aa) aa) aa) aa) aa) aa) aa) aa) aa) aa) aa) aa) aa) aa) aa) aa) aa) aa) aa) aa) aa)
theorem said:Rows.WaitsStuckSaid:=
 OpenClaim.holds_of_cond 4 Tryz.f4 rfl rfl rfl rfl rfl rfl rfl ⟨rfl,rfl,rfl,rfl,rfl⟩ rfl rfl rfl rfl rfl aa Tryz.func4 closed
  (of_decide_eq_true aa) (by unfold Func.isWrapper; first |(rw [ag (by decide +kernel)]; kernel_rfl)|(rw [af (by decide +kernel)]; exact⟨rfl,rfl⟩))
  (fun os started H enc _ F=>by rw [OpenClaim.pre_eq_preRow]; exact lifted os started H enc F)
theorem plain (f:FuncId) (fn:Func) (hf:Tryz.pinned.checked.prog.funcNamed "amanuensis/amanuensislaw22.WaitsStuck" = some f) (tR:Tryz.pinned.checked.prog.funcs[f]?=some fn) :
 false=Tryz.pinned.checked.prog.looks []/\∀(j:Nat) t,fn.params[j]?=some t->Tryz.pinned.checked.prog.wantsStandIn t=false:=by
 obtain rfl:f=4:=Option.some.inj ((show Tryz.prog.funcNamed "amanuensis/amanuensislaw22.WaitsStuck" = some 4 by kernel_rfl).symm.trans hf) |>.symm;obtain rfl:fn=Tryz.f4:=(Option.some.inj (Tryz.func4.symm.trans tR)).symm;refine⟨aa,fun j t ht=>?_⟩;rw [Tryz.params4] at ht;have hm:=aoC ht;simp only [List.mem_toArray,ax,amY,or_false] at hm;rcases hm with rfl|rfl
 all_goals exact (by kernel_rfl:Tryz.prog.wantsStandIn _=false)
theorem card:Rows.WaitsStuckCardSaid:=
 Claim7.holds_tied_plain_at .later [] _ _ _ _ said (fun _ h=>by cases h) aa (fun _ h=>by cases h) waitsStuck_row_tie rfl ⟨rfl,rfl⟩ aa rfl plain aa
end Go.Proofs.YtlgfoolepdjmoaaGreatDoor.fnWaitsStuck
end

/-
  Proved: the given card of the law ShrinkLeast: whatever the input, the call returns true and each argument reads afterwards as it did. Conditions: those of the given row alone (its listed package-level variables start as the program's text lays them; each string, slice and map that is handed in lies within a process's addresses).
-/
import Derived.Test.YtbmkacliajebmaaGreatDoorAsZL12
set_option linter.unusedSectionVars false
set_option linter.unusedVariables false
set_option linter.unusedSimpArgs false
section
namespace Go.As.Try
open Go hiding Stat Spec shape
open Go.As
set_option maxRecDepth 100000
theorem z5:(∀p:Prop,(p/\False)=False)/\(∀p:Prop,(False/\p)=False)/\(¬True)=False/\(∀p:Prop,(p/\p)=p)/\(∀(a:Int) (l m:List Int),(a::l)++m=a::(l++m))/\(∀l:List Int,[]++l=l)/\((16:Int)=15)=False/\((3:Int)=0)=False/\((15:Int)=16)=False/\(∀ys:List Int,fin L (.out ys)=some ys):=
 ⟨and_false,false_and,not_true_eq_false,and_self,fun _ _ _=>rfl,fun _=>rfl,ad,ad,ad,fun _=>rfl⟩
def T1:Act->Prop
 | .res _ _ _ _ _ _ _ a _=>gb .i64 a
 |_=>True
theorem T1.ite {p:Prop} [Decidable p] {a b:Act} (ha:T1 a) (Y:T1 b):T1 (if p then a else b):=by
 grind
theorem agv {r:D} (h:Wd (.sl 0) r) (i:Nat):gb .i64 (r.at (i:Int)).n:=by
 by_cases hi:i<r.l.length
 ·rw [cB hi];obtain⟨n,hn,hk⟩:=(h.el1 rfl _ (aF hi)).i;rw [hn];exact hk
 ·rw [ZP,amH J];constructor<;>(simp only [amb,n_i]; omega)
theorem ajp {y:D} {M mo th op arg tries o c dn g:Int} {r v:D} (T:Tg y o c dn g r v) (hr:r.l.length<=140737488351232) (ha:gb .i64 arg):T1 (act M mo th op arg tries o c dn g r v):=by
 have hz:gb .i64 0:=⟨J,J⟩;have U:gb .i64 1:=⟨J,J⟩;have w:=@pF;have hv:=agv T.hv 0;have hl:gb .i64 (r.l.length:Int):=⟨J,J⟩;unfold act
 repeat' refine T1.ite ?_ ?_
 all_goals first
  |trivial
  |exact hz
  |exact U
  |exact w _
  |exact T.hc
  |exact ha
  |exact T.hg
  |exact hv
  |exact hl
def qV (I:D) (x:KT) (op e2 e3 e4 oc:Int):KT:=
 if oc=0 then (if op=4 then { x with tr:=if 4611686018427387904<x.tr+1 then 4611686018427387904 else x.tr+1 } else x)
 else if x.w=0 then
  { a:=if (I.hd 0).n=1/\(I.hd 1).n=16/\¬(e2=16/\e4=1) then (I.hd 4).n else x.a+1,lc:=if (I.hd 0).n=1/\¬(I.hd 3).n<0 then dL (fC x.lc.l (I.hd 3).n (.i e4)) else x.lc,w:=if oc=3 then (if e2=15 then 25 else 24) else 0,o:=if oc=3 then e3 else x.o,g:=if oc=3/\e2=15 then e4 else x.g,tr:=0 }
 else { x with w:=0,o:=0,g:=0,tr:=0 }
def evT (e1 e2 e3 e4 e5 oc:Int):List Int:=if oc=0 then [0,0,0,0,0] else [e1,e2,e3,e4,e5]
section
variable {d0 d1 s s' k:D} {t op obj arg tries e1 e2 e3 e4 e5 oc:Int} {x:KT} (C:Cd d0 d1) (ht:t<(k.l.length:Int)) (R:Rt d0 d1 t x)
 (hA:L 400 [enc d0,enc d1,enc s,t,op,obj,arg,tries]=some [enc s',e1,e2,e3,e4,e5,oc]) (h0:oc=0->s'=s) (hx:x.w=0->x.a<(Nc d1 t:Int))
include C ht R hA h0 hx
set_option maxHeartbeats 4000000 in
theorem UW:L 14500 [enc d0,enc d1,t,op,obj,arg,tries,enc s,enc k,x.a,enc x.lc,x.w,x.o,x.g,x.tr]=some (0::enc d0::enc d1::t::op::obj::arg::tries::enc s::enc k::x.a::enc x.lc::x.w::x.o::x.g::x.tr::(evT e1 e2 e3 e4 e5 oc++ [oc,enc s',(qV (mP d1 t x) x op e2 e3 e4 oc).a,enc (qV (mP d1 t x) x op e2 e3 e4 oc).lc,(qV (mP d1 t x) x op e2 e3 e4 oc).w,(qV (mP d1 t x) x op e2 e3 e4 oc).o,(qV (mP d1 t x) x op e2 e3 e4 oc).g,(qV (mP d1 t x) x op e2 e3 e4 oc).tr])):=by
 have c1: ¬t<0:=by have:=R.t0; omega
 have c2:=R.t1;have c3: ¬x.a<0:=by have:=R.ok.1; omega
 have q0:=R.ok.2.2.2.1;have q1:=R.ok.2.2.2.2.1;have wt:IntKind.i64.wrap (x.tr+1)=x.tr+1:=lP J J;rw [bN,YW];unfold qV evT;by_cases o0:oc=0
 ·have hs:=h0 o0;subst hs;subst o0;by_cases p4:op=4
  ·subst p4;by_cases pt:4611686018427387904<x.tr+1
   ·simp only [eV,zz,hA,c1,ht,wt,pt,bQ,if_true,eq_self,aP,aC]
   ·simp only [eV,zz,hA,c1,ht,wt,pt,bQ,if_true,eq_self,if_false,aP,aC]
  ·simp only [eV,zz,hA,c1,ht,p4,bQ,if_true,if_false,aP,aC]
 ·by_cases w0:x.w=0
  ·have c4:=hx w0;have F:=C.inf R c4;have ok:=F.ok;have g!:(x.lc.l.length:Int)=(((d1.at t).hd 1).l.length:Int):=R.ok.2.2.1;have hnc:((d1.at t).hd 2).l.length<=140737488351232:=(C.code R.t0 R.t1).len;unfold Nc at c4;have hw:IntKind.i64.wrap (x.a+1)=x.a+1:=lP J J;unfold OkI mP at ok;unfold mP;by_cases n1:((((d1.at t).hd 2).at x.a).hd 0).n=1
   ·have xH:((((d1.at t).hd 2).at x.a).hd 3).n= -1\/0<=((((d1.at t).hd 2).at x.a).hd 3).n/\((((d1.at t).hd 2).at x.a).hd 3).n<(x.lc.l.length:Int):=by
     grind
    by_cases i0:((((d1.at t).hd 2).at x.a).hd 3).n<0
    ·by_cases tm:((((d1.at t).hd 2).at x.a).hd 1).n=16
     ·by_cases A1:e2=16
      ·by_cases q4:e4=1
       ·by_cases q3:oc=3
        ·simp only [eV,zz,hA,c1,ht,c2,c3,c4,o0,w0,hw,n1,i0,tm,A1,q4,q3,z5]
        ·simp only [eV,zz,hA,c1,ht,c2,c3,c4,o0,w0,hw,n1,i0,tm,A1,q4,q3,z5]
       ·by_cases q3:oc=3
        ·simp only [eV,zz,hA,c1,ht,c2,c3,c4,o0,w0,hw,n1,i0,tm,A1,q4,q3,z5]
        ·simp only [eV,zz,hA,c1,ht,c2,c3,c4,o0,w0,hw,n1,i0,tm,A1,q4,q3,z5]
      ·by_cases sc:e2=15
       ·by_cases q3:oc=3
        ·simp only [eV,zz,hA,c1,ht,c2,c3,c4,o0,w0,hw,n1,i0,tm,A1,sc,q3,z5]
        ·simp only [eV,zz,hA,c1,ht,c2,c3,c4,o0,w0,hw,n1,i0,tm,A1,sc,q3,z5]
       ·by_cases q3:oc=3
        ·simp only [eV,zz,hA,c1,ht,c2,c3,c4,o0,w0,hw,n1,i0,tm,A1,sc,q3,z5]
        ·simp only [eV,zz,hA,c1,ht,c2,c3,c4,o0,w0,hw,n1,i0,tm,A1,sc,q3,z5]
     ·by_cases sc:e2=15
      ·by_cases q3:oc=3
       ·simp only [eV,zz,hA,c1,ht,c2,c3,c4,o0,w0,hw,n1,i0,tm,sc,q3,z5]
       ·simp only [eV,zz,hA,c1,ht,c2,c3,c4,o0,w0,hw,n1,i0,tm,sc,q3,z5]
      ·by_cases q3:oc=3
       ·simp only [eV,zz,hA,c1,ht,c2,c3,c4,o0,w0,hw,n1,i0,tm,sc,q3,z5]
       ·simp only [eV,zz,hA,c1,ht,c2,c3,c4,o0,w0,hw,n1,i0,tm,sc,q3,z5]
    ·have i1:((((d1.at t).hd 2).at x.a).hd 3).n<(x.lc.l.length:Int):=J
     by_cases tm:((((d1.at t).hd 2).at x.a).hd 1).n=16
     ·by_cases A1:e2=16
      ·by_cases q4:e4=1
       ·by_cases q3:oc=3
        ·simp only [eV,zz,hA,c1,ht,c2,c3,c4,o0,w0,hw,n1,i0,i1,tm,A1,q4,q3,z5]
        ·simp only [eV,zz,hA,c1,ht,c2,c3,c4,o0,w0,hw,n1,i0,i1,tm,A1,q4,q3,z5]
       ·by_cases q3:oc=3
        ·simp only [eV,zz,hA,c1,ht,c2,c3,c4,o0,w0,hw,n1,i0,i1,tm,A1,q4,q3,z5]
        ·simp only [eV,zz,hA,c1,ht,c2,c3,c4,o0,w0,hw,n1,i0,i1,tm,A1,q4,q3,z5]
      ·by_cases sc:e2=15
       ·by_cases q3:oc=3
        ·simp only [eV,zz,hA,c1,ht,c2,c3,c4,o0,w0,hw,n1,i0,i1,tm,A1,sc,q3,z5]
        ·simp only [eV,zz,hA,c1,ht,c2,c3,c4,o0,w0,hw,n1,i0,i1,tm,A1,sc,q3,z5]
       ·by_cases q3:oc=3
        ·simp only [eV,zz,hA,c1,ht,c2,c3,c4,o0,w0,hw,n1,i0,i1,tm,A1,sc,q3,z5]
        ·simp only [eV,zz,hA,c1,ht,c2,c3,c4,o0,w0,hw,n1,i0,i1,tm,A1,sc,q3,z5]
     ·by_cases sc:e2=15
      ·by_cases q3:oc=3
       ·simp only [eV,zz,hA,c1,ht,c2,c3,c4,o0,w0,hw,n1,i0,i1,tm,sc,q3,z5]
       ·simp only [eV,zz,hA,c1,ht,c2,c3,c4,o0,w0,hw,n1,i0,i1,tm,sc,q3,z5]
      ·by_cases q3:oc=3
       ·simp only [eV,zz,hA,c1,ht,c2,c3,c4,o0,w0,hw,n1,i0,i1,tm,sc,q3,z5]
       ·simp only [eV,zz,hA,c1,ht,c2,c3,c4,o0,w0,hw,n1,i0,i1,tm,sc,q3,z5]
   ·by_cases sc:e2=15
    ·by_cases q3:oc=3
     ·simp only [eV,zz,hA,c1,ht,c2,c3,c4,o0,w0,hw,n1,sc,q3,z5]
     ·simp only [eV,zz,hA,c1,ht,c2,c3,c4,o0,w0,hw,n1,sc,q3,z5]
    ·by_cases q3:oc=3
     ·simp only [eV,zz,hA,c1,ht,c2,c3,c4,o0,w0,hw,n1,sc,q3,z5]
     ·simp only [eV,zz,hA,c1,ht,c2,c3,c4,o0,w0,hw,n1,sc,q3,z5]
  ·simp only [eV,zz,hA,c1,ht,o0,w0,bQ,if_true,if_false,aP,aC]
end
section
variable {d0 d1 s s' k:D} {t op obj arg tries e1 e2 e3 e4 e5 oc:Int} {x:KT} (C:Cd d0 d1) (ht:t<(k.l.length:Int)) (R:Rt d0 d1 t x)
 (hA:L 400 [enc d0,enc d1,enc s,t,op,obj,arg,tries]=some [enc s',e1,e2,e3,e4,e5,oc]) (h0:oc=0->s'=s) (hx:x.w=0->x.a<(Nc d1 t:Int)) (hz:x.lc.l.length=0)
include C ht R hA h0 hx hz
set_option maxHeartbeats 4000000 in
theorem UU:L 14550 [enc d0,enc d1,t,op,obj,arg,tries,enc s,enc k,x.a,enc x.lc,x.w,x.o,x.g,x.tr]=some (0::enc d0::enc d1::t::op::obj::arg::tries::enc s::enc k::x.a::enc x.lc::x.w::x.o::x.g::x.tr::(evT e1 e2 e3 e4 e5 oc++ [oc,enc s',(qV (mP d1 t x) x op e2 e3 e4 oc).a,(qV (mP d1 t x) x op e2 e3 e4 oc).w,(qV (mP d1 t x) x op e2 e3 e4 oc).o,(qV (mP d1 t x) x op e2 e3 e4 oc).g,(qV (mP d1 t x) x op e2 e3 e4 oc).tr]))/\(qV (mP d1 t x) x op e2 e3 e4 oc).lc=x.lc:=by
 have c1: ¬t<0:=by have:=R.t0; omega
 have c2:=R.t1;have c3: ¬x.a<0:=by have:=R.ok.1; omega
 have q0:=R.ok.2.2.2.1;have q1:=R.ok.2.2.2.2.1;have wt:IntKind.i64.wrap (x.tr+1)=x.tr+1:=lP J J;rw [bN,YT];unfold qV evT;by_cases o0:oc=0
 ·have hs:=h0 o0;subst hs;subst o0;by_cases p4:op=4
  ·subst p4;by_cases pt:4611686018427387904<x.tr+1
   ·simp only [iq,zz,hA,c1,ht,wt,pt,bQ,if_true,eq_self,aP,aC]<;>exact⟨rfl,rfl⟩
   ·simp only [iq,zz,hA,c1,ht,wt,pt,bQ,if_true,eq_self,if_false,aP,aC]<;>exact⟨rfl,rfl⟩
  ·simp only [iq,zz,hA,c1,ht,p4,bQ,if_true,if_false,aP,aC]<;>exact⟨rfl,rfl⟩
 ·by_cases w0:x.w=0
  ·have c4:=hx w0;have F:=C.inf R c4;have ok:=F.ok;have g!:(x.lc.l.length:Int)=(((d1.at t).hd 1).l.length:Int):=R.ok.2.2.1;have hnc:((d1.at t).hd 2).l.length<=140737488351232:=(C.code R.t0 R.t1).len;unfold Nc at c4;have hw:IntKind.i64.wrap (x.a+1)=x.a+1:=lP J J;unfold OkI mP at ok;unfold mP;by_cases n1:((((d1.at t).hd 2).at x.a).hd 0).n=1
   ·have xH:((((d1.at t).hd 2).at x.a).hd 3).n= -1\/0<=((((d1.at t).hd 2).at x.a).hd 3).n/\((((d1.at t).hd 2).at x.a).hd 3).n<(x.lc.l.length:Int):=by
     grind
    by_cases i0:((((d1.at t).hd 2).at x.a).hd 3).n<0
    ·by_cases tm:((((d1.at t).hd 2).at x.a).hd 1).n=16
     ·by_cases A1:e2=16
      ·by_cases q4:e4=1
       ·by_cases q3:oc=3
        ·simp only [iq,zz,hA,c1,ht,c2,c3,c4,o0,w0,hw,n1,i0,tm,A1,q4,q3,z5]<;>exact⟨rfl,rfl⟩
        ·simp only [iq,zz,hA,c1,ht,c2,c3,c4,o0,w0,hw,n1,i0,tm,A1,q4,q3,z5]<;>exact⟨rfl,rfl⟩
       ·by_cases q3:oc=3
        ·simp only [iq,zz,hA,c1,ht,c2,c3,c4,o0,w0,hw,n1,i0,tm,A1,q4,q3,z5]<;>exact⟨rfl,rfl⟩
        ·simp only [iq,zz,hA,c1,ht,c2,c3,c4,o0,w0,hw,n1,i0,tm,A1,q4,q3,z5]<;>exact⟨rfl,rfl⟩
      ·by_cases sc:e2=15
       ·by_cases q3:oc=3
        ·simp only [iq,zz,hA,c1,ht,c2,c3,c4,o0,w0,hw,n1,i0,tm,A1,sc,q3,z5]<;>exact⟨rfl,rfl⟩
        ·simp only [iq,zz,hA,c1,ht,c2,c3,c4,o0,w0,hw,n1,i0,tm,A1,sc,q3,z5]<;>exact⟨rfl,rfl⟩
       ·by_cases q3:oc=3
        ·simp only [iq,zz,hA,c1,ht,c2,c3,c4,o0,w0,hw,n1,i0,tm,A1,sc,q3,z5]<;>exact⟨rfl,rfl⟩
        ·simp only [iq,zz,hA,c1,ht,c2,c3,c4,o0,w0,hw,n1,i0,tm,A1,sc,q3,z5]<;>exact⟨rfl,rfl⟩
     ·by_cases sc:e2=15
      ·by_cases q3:oc=3
       ·simp only [iq,zz,hA,c1,ht,c2,c3,c4,o0,w0,hw,n1,i0,tm,sc,q3,z5]<;>exact⟨rfl,rfl⟩
       ·simp only [iq,zz,hA,c1,ht,c2,c3,c4,o0,w0,hw,n1,i0,tm,sc,q3,z5]<;>exact⟨rfl,rfl⟩
      ·by_cases q3:oc=3
       ·simp only [iq,zz,hA,c1,ht,c2,c3,c4,o0,w0,hw,n1,i0,tm,sc,q3,z5]<;>exact⟨rfl,rfl⟩
       ·simp only [iq,zz,hA,c1,ht,c2,c3,c4,o0,w0,hw,n1,i0,tm,sc,q3,z5]<;>exact⟨rfl,rfl⟩
    ·omega
   ·by_cases sc:e2=15
    ·by_cases q3:oc=3
     ·simp only [iq,zz,hA,c1,ht,c2,c3,c4,o0,w0,hw,n1,sc,q3,z5]<;>exact⟨rfl,rfl⟩
     ·simp only [iq,zz,hA,c1,ht,c2,c3,c4,o0,w0,hw,n1,sc,q3,z5]<;>exact⟨rfl,rfl⟩
    ·by_cases q3:oc=3
     ·simp only [iq,zz,hA,c1,ht,c2,c3,c4,o0,w0,hw,n1,sc,q3,z5]<;>exact⟨rfl,rfl⟩
     ·simp only [iq,zz,hA,c1,ht,c2,c3,c4,o0,w0,hw,n1,sc,q3,z5]<;>exact⟨rfl,rfl⟩
  ·simp only [iq,zz,hA,c1,ht,o0,w0,bQ,if_true,if_false,aP,aC]<;>exact⟨rfl,rfl⟩
end
structure Sx (s k:D) (n:Nat):Prop where
 g:Gs s n
 wk:Wd (.sl 8) k
 n2s:s≠.i 2
 n2k:k≠.i 2
structure Sw (s k:D) (n:Nat):Prop where
 g:Gs s n
 wk:Wd (.sl 8) k
theorem Sx.sw {s k:D} {n:Nat} (S:Sx s k n):Sw s k n:=⟨S.g,S.wk⟩
theorem Sw.st {s k:D} {n:Nat} (S:Sw s k n):Sk s k:=⟨S.g.wd,S.wk⟩
theorem Sx.st {s k:D} {n:Nat} (S:Sx s k n):Sk s k:=S.sw.st
instance {s k:D} {n:Nat}:CoeOut (Sx s k n) (Sk s k):=⟨Sx.st⟩
instance {s k:D} {n:Nat}:CoeOut (Sw s k n) (Sk s k):=⟨Sw.st⟩
theorem Sx.mono {s k:D} {n m:Nat} (S:Sx s k n) (h:n<=m):Sx s k m:=⟨S.g.mono h,S.wk,S.n2s,S.n2k⟩
abbrev r9 (k:D) (t:Int) (x:KT):D:=dL (fC k.l t x.d)
theorem iH (a:D) (l:List D):dL (a::l)= .p a (dL l):=rfl
theorem kY:dL []= .i 0:=rfl
structure RN (d0 d1 s:D) (t op obj arg tries:Int) (n:Nat) (s':D) (e1 e2 e3 e4 e5 oc:Int):Prop where
 eq:L 400 [enc d0,enc d1,enc s,t,op,obj,arg,tries]=some [enc s',e1,e2,e3,e4,e5,oc]
 no:oc=0->s'=s/\e1=0/\e2=0/\e3=0/\e4=0/\e5=0
 oc3:oc=0\/oc=2\/oc=3
 gs:Gs s' (n+1)
 len:s'.l.length=s.l.length
 n2:s≠.i 2->s'≠.i 2
 e3:gb .i64 e3
 e4:gb .i64 e4
theorem u! {d0 d1 s:D} {t op obj arg tries:Int} {n:Nat} (h0:Wd (.sl 3) d0) (U:Wd (.sl 4) d1) (G:Gs s n) (hn:n<17592186043904) (ht:gb .i64 t) (zu:gb .u8 op) (Jw:gb .i64 obj) (ha:gb .i64 arg) :
 ∃s' e1 e2 e3 e4 e5 oc,RN d0 d1 s t op obj arg tries n s' e1 e2 e3 e4 e5 oc:=by
 have hf:=G.om (by omega:n<17592186044415);have z:gb .i64 0:=⟨J,J⟩;by_cases A:Acc d0 d1 s t op obj
 ·obtain⟨_,o,c,dn,g,r,v,T,hL⟩:=u_ (arg:=arg) (tries:=tries) h0 U G.wd hf zu A;rw [I?] at hL;have o0:=A.o0;have o1:=A.o1;obtain⟨i,rfl⟩ : ∃i:Nat,obj=(i:Int):=⟨obj.toNat,J⟩;have hi:i<s.l.length:=J
  have lq:=G.rows _ (aF hi);have e:s.l[i]=dL [.i o,.i c,.i dn,.i g,r,v]:=by rw [<- cB hi]; exact T.is
  rw [e] at lq;have hA:=aft (M:=Mx d0 (i:Int)) (mo:=Mo d0 s (i:Int)) (op:=op) (tries:=tries) T (n:=n) lq.1 lq.2 J ht ha;have hE:=ajp (M:=Mx d0 (i:Int)) (mo:=Mo d0 s (i:Int)) (th:=t) (op:=op) (tries:=tries) T (by have:=lq.1; have:r.l.length<=n:=this; omega) ha
  have hM:NoM (act (Mx d0 (i:Int)) (Mo d0 s (i:Int)) t op arg tries o c dn g r v)\/0<=Mx d0 (i:Int)/\Mx d0 (i:Int)<(s.l.length:Int):=by
   by_cases h:op=12\/op=24
   ·have:=LO h0 U G.wd hf zu A h;exact .inr ⟨this.1,this.2.1⟩
   ·exact .inl (TQ J J)
  have hg:=E! G hA o0 o1 hM;have hl:=Wx s (i:Int) (Mx d0 (i:Int)) (act (Mx d0 (i:Int)) (Mo d0 s (i:Int)) t op arg tries o c dn g r v);generalize act (Mx d0 (i:Int)) (Mo d0 s (i:Int)) t op arg tries o c dn g r v=B at *
  have hn2:s≠.i 2->M6 s (i:Int) (Mx d0 (i:Int)) B≠.i 2:=fun _ he=>by rw [he] at hl;have:(D.i 2).l.length=0:=rfl;omega
  cases B with
  |nZ=>exact⟨s,0,0,0,0,0,0,hL,fun _=> ⟨rfl,rfl,rfl,rfl,rfl,rfl⟩,.inl rfl,hg,rfl,fun h=>h,z,z⟩
  |B7=>exact⟨s,t,27,_,_,0,2,hL,fun h=>absurd h J,.inr (.inl rfl),hg,rfl,fun h=>h,Jw,pF _⟩
  |res o' c' dn' g' r' v' m a oc=>exact⟨_,t,op,_,a,0,oc,hL,fun h=>by have:=hA.2.2.2.2.2.2.2.2.2; omega,.inr hA.2.2.2.2.2.2.2.2.2,hg,hl,hn2,Jw,hE⟩
 ·exact⟨s,0,0,0,0,0,0,ado h0 U G.wd hf zu A,fun _=> ⟨rfl,rfl,rfl,rfl,rfl,rfl⟩,.inl rfl,G.mono (amu n),rfl,fun h=>h,z,z⟩
noncomputable abbrev stE (d0 d1 s k:D) (t:Int):Nat->Int:=cX L (low [enc d0,enc d1,enc s,enc k,t])
theorem V7 {k:D} {t:Int} {x:KT} (h:k=dL k.l) (t0:0<=t) (t1:t<(k.l.length:Int)) (hk:k.at t=x.d):r9 k t x=k:=by
 obtain⟨i,rfl⟩ : ∃i:Nat,t=(i:Int):=⟨t.toNat,J⟩;have hi:i<k.l.length:=J
 rw [cB hi] at hk;unfold r9;rw [<- hk];exact eK h hi
section
variable {d0 d1 s k:D} {t:Int} (S:Sk s k)
include S
theorem z? (hR:L 1550 [enc d0,enc d1,enc s,enc k,t]=some [0]):L 1850 [enc d0,enc d1,enc s,enc k,t]=some [enc s,enc k,0,0,0,0,0,0]:=by
 by_cases hr:t<0\/(k.l.length:Int)<=t
 ·rcases TM S hr with h|⟨h,he⟩|⟨h,he⟩
  ·have K:ek (stE d0 d1 s k t) mf= .out [enc s,enc k,0,0,0,0,0,0]:=by
    simp only [mf,zz,h,hR,Int.reduceEq]
   rw [bN,Bv];exact congrArg (fin L) K
  ·subst he
   have K:ek (stE d0 d1 s (.i 1) t) mf= .out [enc s,enc (.i 1),0,0,0,0,0,0]:=by simp only [mf,zz,h,hR,Int.reduceEq]
   rw [bN,Bv];exact congrArg (fin L) K
  ·subst he
   have K:ek (stE d0 d1 s (.i 2) t) mf= .out [enc s,enc (.i 2),0,0,0,0,0,0]:=by simp only [mf,zz,h,hR,Int.reduceEq]
   rw [bN,Bv];exact congrArg (fin L) K
 ·obtain⟨i,rfl⟩ : ∃i:Nat,t=(i:Int):=⟨t.toNat,J⟩;have hi:i<k.l.length:=J
  obtain⟨a,lc,w,o,g,tr,T⟩:=iF S.wk _ (aF hi);have h:=Hg S hi T;have hs:r9 k (i:Int) ⟨a,lc,w,o,g,tr⟩ = k:=V7 (Fk S.wk J).sh J J (by rw [cB hi,T.is]);simp only [r9,KT.d,iH,kY] at hs;have ha:wz lc=3\/wz lc=4:=by unfold wz; split<;>simp
  have K:ek (stE d0 d1 s k (i:Int)) mf= .out [enc s,enc k,0,0,0,0,0,0]:=by
   rcases ha with ha|ha
   ·rw [ha] at h;simp only [mf,zz,h,hR,hs,Int.reduceEq]
   ·rw [ha] at h;simp only [mf,zz,h,hR,hs,Int.reduceEq]
  rw [bN,Bv];exact congrArg (fin L) K
end
structure Rs (d0 d1 s k:D) (t:Int) (x:KT):Prop where
 c:Cd d0 d1
 r:Rt d0 d1 t x
 hk:k.at t=x.d
 ht:t<(k.l.length:Int)
 yes:L 1550 [enc d0,enc d1,enc s,enc k,t]=some [1]
theorem adQ {d0 d1 s k:D} {t:Int} {n:Nat} (S:Sw s k n) (hn:n<17592186044000) (h0:Wd (.sl 3) d0) (U:Wd (.sl 4) d1):L 1550 [enc d0,enc d1,enc s,enc k,t]=some [0]\/∃x,Rs d0 d1 s k t x:=by
 obtain⟨ys,hL,b,rfl,Y⟩:=J3 (k:=k) h0 U (S.g.om J).rows U.len t;rcases Y with ⟨rfl,_⟩|⟨rfl,t0,t1,M⟩
 ·exact .inl hL
 ·refine .inr ?_;obtain⟨hle,hO⟩:=M.2;obtain⟨i,rfl⟩ : ∃i:Nat,t=(i:Int):=⟨t.toNat,J⟩;have hi:i<k.l.length:=J
  have hd:i<d1.l.length:=J
  obtain⟨a,lc,w,o,g,tr,T⟩:=iF S.wk _ (aF hi);have ok:=hO i hi;unfold OkK at ok;rw [T.is] at ok;simp only [zg,az,n_i] at ok;refine⟨⟨a,lc,w,o,g,tr⟩,(MR.code h0 U (S.g.om J).rows M).1,⟨J,J,?_,T.hl,T.hg⟩,by rw [cB hi,T.is],J,hL⟩;rw [cB hd];exact ok
theorem abi {d0 d1 s k:D} {t:Int} {n:Nat} (S:Sx s k n) (hn:n<17592186043904) (h0:Wd (.sl 3) d0) (U:Wd (.sl 4) d1):L 1550 [enc d0,enc d1,enc s,enc k,t]=some [0]\/∃x,Rs d0 d1 s k t x:=adQ S.sw J h0 U
section
variable {d0 d1 s k:D} {t:Int} {n:Nat} {x:KT} (S:Sk s k) (R:Rs d0 d1 s k t x)
include S R
theorem Rs.cp:L 9050 [t,enc s,enc k]=some [wz x.lc,t,enc s,enc k,x.a,enc x.lc,x.w,x.o,x.g,x.tr]:=by
 have t0:=R.r.t0;have ht:=R.ht;obtain⟨i,rfl⟩ : ∃i:Nat,t=(i:Int):=⟨t.toNat,J⟩;have hi:i<k.l.length:=J
 obtain⟨a,lc,w,o,g,tr,T⟩:=iF S.wk _ (aF hi);have h:=Hg S hi T;have e:=R.hk;rw [cB hi,T.is] at e;simp only [KT.d,iH,kY,D.p.injEq,D.i.injEq,and_true] at e;obtain⟨rfl,rfl,rfl,rfl,rfl,rfl⟩:=e;exact h
theorem Rs.self:dL (fC k.l t (.p (.i x.a) (.p x.lc (.p (.i x.w) (.p (.i x.o) (.p (.i x.g) (.p (.i x.tr) (.i 0))))))))=k:=by
 have hl:0<k.l.length:=by have:=R.r.t0; have:=R.ht; omega
 exact V7 (Fk S.wk hl).sh R.r.t0 R.ht R.hk
theorem Sp (ho:jR d1 t x=1):L 1850 [enc d0,enc d1,enc s,enc k,t]=some [enc s,enc k,0,0,0,0,0,4]:=by
 have h:=R.cp S;have hs:=R.self S;have hR:=R.yes;have hO:=B2 (s:=s) R.hk R.ht R.r;rw [ho] at hO;have ha:wz x.lc=3\/wz x.lc=4:=by unfold wz; split<;>simp
 have K:ek (stE d0 d1 s k t) mf= .out [enc s,enc k,0,0,0,0,0,4]:=by
  rcases ha with ha|ha
  ·rw [ha] at h;simp only [mf,zz,h,hR,hs,hO,Int.reduceEq]
  ·rw [ha] at h;simp only [mf,zz,h,hR,hs,hO,Int.reduceEq]
 rw [bN,Bv];exact congrArg (fin L) K
theorem MT (ho:jR d1 t x=0) (hn:low (lh d1 t x) 4=0):L 1850 [enc d0,enc d1,enc s,enc k,t]=some [enc s,enc (r9 k t (tJ (mP d1 t x) x)),0,0,0,0,0,1]:=by
 have h:=R.cp S;have hs:=R.self S;have hR:=R.yes;have hO:=B2 (s:=s) R.hk R.ht R.r;have hN:=H6 (s:=s) R.c R.hk R.ht R.r;have Lc:=W1 R.r ho hn;rw [ho] at hO
 have K:ek (stE d0 d1 s k t) mf= .out [enc s,enc (r9 k t (tJ (mP d1 t x) x)),0,0,0,0,0,1]:=by
  have hw:(tJ (mP d1 t x) x).w=x.w/\(tJ (mP d1 t x) x).o=x.o/\(tJ (mP d1 t x) x).g=x.g/\(tJ (mP d1 t x) x).tr=x.tr:=by
   unfold tJ
   repeat' split
   all_goals exact⟨rfl,rfl,rfl,rfl⟩
  by_cases hp:0<x.lc.l.length
  ·have ha:wz x.lc=3:=ah hp;rw [ha] at h;have hl:=W0 (s:=s) R.c R.ht R.r Lc;simp only [mf,zz,h,hR,hs,hO,hN,hn,hl,r9,KT.d,iH,kY,hw,Int.reduceEq]
  ·have ha:wz x.lc=4:=af hp;rw [ha] at h;obtain⟨hl,hc⟩:=WZ (s:=s) R.c R.ht R.r Lc J;simp only [mf,zz,h,hR,hs,hO,hN,hn,hl,r9,KT.d,iH,kY,hw,hc,Int.reduceEq]
 rw [bN,Bv];exact congrArg (fin L) K
theorem MS {op obj arg tries e1 e2 e3 e4 e5 oc:Int} {s':D} (ho:jR d1 t x=0) (hn:lh d1 t x= [op,obj,arg,tries,1]) (A:RN d0 d1 s t op obj arg tries n s' e1 e2 e3 e4 e5 oc) :
 L 1850 [enc d0,enc d1,enc s,enc k,t]=some [enc s',enc (r9 k t (qV (mP d1 t x) x op e2 e3 e4 oc)),e1,e2,e3,e4,e5,oc]:=by
 have h:=R.cp S;have hs:=R.self S;have hR:=R.yes;have hO:=B2 (s:=s) R.hk R.ht R.r;have hN:=H6 (s:=s) R.c R.hk R.ht R.r;rw [ho] at hO;rw [hn] at hN
 have hx:x.w=0->x.a<(Nc d1 t:Int):=fun w0=>by unfold jR at ho;rw [ah w0] at ho;have:=R.r.ok.2.1;unfold Nc at ho ⊢;split at ho<;>omega
 have hE:evT e1 e2 e3 e4 e5 oc= [e1,e2,e3,e4,e5]:=by
  unfold evT;split
  ·rename_i h0;obtain⟨_,rfl,rfl,rfl,rfl,rfl⟩:=A.no h0;rfl
  ·rfl
 have K:ek (stE d0 d1 s k t) mf= .out [enc s',enc (r9 k t (qV (mP d1 t x) x op e2 e3 e4 oc)),e1,e2,e3,e4,e5,oc]:=by
  by_cases hp:0<x.lc.l.length
  ·have ha:wz x.lc=3:=ah hp;rw [ha] at h;have hl:=UW R.c R.ht R.r A.eq (fun h=>(A.no h).1) hx;rw [hE] at hl;simp only [aP,aC] at hl;simp only [mf,zz,h,hR,hs,hO,hN,hl,r9,KT.d,iH,kY,Int.reduceEq]
  ·have ha:wz x.lc=4:=af hp;rw [ha] at h;obtain⟨hl,hc⟩:=UU R.c R.ht R.r A.eq (fun h=>(A.no h).1) hx J;rw [hE] at hl;simp only [aP,aC] at hl;simp only [mf,zz,h,hR,hs,hO,hN,hl,r9,KT.d,iH,kY,hc,Int.reduceEq]
 rw [bN,Bv];exact congrArg (fin L) K
end
theorem dE.jmp {j k:Nat} {xs ys:List Int} {t:T Lf} {p:List Int->Prop} (e:S.tree j=t) (h:ek (cX L (low xs)) t= .jump k ys) (q:dE k ys p):dE j xs p:=by refine dE.of ?_;rw [e,h];exact .jump q
theorem dE.ret {j:Nat} {xs ys:List Int} {t:T Lf} {p:List Int->Prop} (e:S.tree j=t) (h:ek (cX L (low xs)) t= .out ys) (q:p ys):dE j xs p:=by refine dE.of ?_;rw [e,h];exact .out q
theorem Fw (m:Nat) (hm:m<=60) (ih: ∀(k n:Int) (s kids:D),Wd .str s->Wd (.sl 6) kids->dE 150 [k,enc s,n,enc kids,(m:Int)] one) (x3 x4 x5:Int) (kids:D) (hk:Wd (.sl 6) kids) :
 ∀(j i:Nat) (x1:Int),i+j=kids.l.length->dE 151 [((m+1:Nat):Int),x1,(i:Int),x3,x4,x5,enc kids] one
 |0,i,x1,hi=>dE.ret X' (ys:=[x1]) (ea [] [.lt Qo Z7] (ou [Qb]) (by simp only [zz]<;>omega) aa (by simp only [zz])) ⟨x1,rfl⟩
 |j+1,i,x1,hi=>by
  have hl:=hk.len;have ei:i<kids.l.length:=J
  have hw:=bP (n:=i) J;obtain⟨k,s,n,ks,he,_,hs,_,KO⟩:=vP hk ei;have ha:kids.at (i:Int)=dL [.i k,s,.i n,ks]:=by rw [cB ei]; exact he
  obtain⟨ys,NQ,z,rfl⟩:=ih k n s ks hs KO;have hw2:IntKind.i64.wrap (((m+1:Nat):Int)-1)=(m:Int):=by rw [lP J J]; omega
  by_cases hx:10000<x1
  ·exact dE.ret X' (ys:=[x1]) (ea [.lt Qo Z7,.lt (.lit 10000) Qb] [] (ou [Qb]) (by simp only [zz]<;>omega) aa (by simp only [zz])) ⟨x1,rfl⟩
  ·exact dE.jmp X' (ea [.lt Qo Z7,.eq (a0 150 Qfd) Q0] [.lt (.lit 10000) Qb,Qcs] (ju 151 [Qf,wr (.add Qb (rr 150 Qfd 0)),Ff,Qm,cQ,dq,dV]) (by simp only [zz,ha,zg,hw2,NQ]<;>omega) aa (by simp only [zz,ha,zg,hw2,NQ,hw]<;>rfl)) (Fw m hm ih x3 x4 x5 kids hk j (i+1) (IntKind.i64.wrap (x1+z)) J)
theorem JX: ∀(m:Nat),m<=60->∀(k n:Int) (s kids:D),Wd .str s->Wd (.sl 6) kids->dE 150 [k,enc s,n,enc kids,(m:Int)] one
 |0,_,k,n,s,kids,_,_=>dE.ret afi (ys:=[10000]) (ea [Qfa] [] (ou [.lit 10000]) (by simp only [zz]<;>omega) aa (by simp only [zz])) ⟨_,rfl⟩
 |m+1,hm,k,n,s,kids,hs,hk=>dE.jmp afi (ys:=[((m+1:Nat):Int),_,(0:Nat),k,enc s,n,enc kids]) (ea [] [Qfa] (ju 151 [cQ,wr (.add Q0 (wr (.quo Qc (.lit 100)))),Qa,Qf,Qb,Qo,Qm]) (by simp only [zz]<;>omega) aa (by simp only [mg,List.map,bS,Nat.reduceLT,bJ,bK]<;>rfl)) (Fw m J (JX m J) k (enc s) n kids hk kids.l.length 0 _ J)
section
variable {d0 d1:D} (U:Wd (.sl 4) d1)
include U
theorem DI (x1 x2 x3:Int) (EP:D) (ha:Wd (.sl 6) EP) (q: ∀x0,dE 102 [x0,x1,IntKind.i64.wrap (x2+1),x3,enc d0,enc d1] wg): ∀(j i:Nat) (x0:Int),i+j=EP.l.length->dE 103 [x0,x1,x2,x3,enc EP,(EP.l.length:Int),(i:Int),enc d0,enc d1] wg
 |0,i,x0,hi=>dE.jmp afj (ea [] [.lt dV dq] (ju 102 [Qf,Qb,Ff,Qm,eQ,fY]) (by simp only [zz]<;>omega) aa (by simp only [zz])) (q x0)
 |j+1,i,x0,hi=>by
  have hl:=ha.len;have ei:i<EP.l.length:=J
  have hw:=bP (n:=i) J;obtain⟨k,s,n,ks,he,_,hs,_,KO⟩:=vP ha ei;have mB:EP.at (i:Int)=dL [.i k,s,.i n,ks]:=by rw [cB ei]; exact he
  obtain⟨ys,NQ,z,rfl⟩:=JX 60 J k n s ks hs KO;have NQ:L 150 [k,enc s,n,enc ks,60]=some [z]:=NQ;exact dE.jmp afj (ea [.lt dV dq,.lt dV LW,.eq (a0 150 Qe8) Q0] [Qe6] (ju 103 [wr (.add Qf (rr 150 Qe8 0)),Qb,Qo,Qm,cQ,dq,Qe9,eQ,fY]) (by simp only [zz,mB,zg,NQ]<;>omega) aa (by simp only [zz,mB,zg,NQ,hw]<;>rfl)) (DI x1 x2 x3 EP ha q j (i+1) (IntKind.i64.wrap (x0+z)) J)
theorem Tm (i:Nat) (hi:i<d1.l.length) (q: ∀x0,dE 101 [x0,(d1.l.length:Int),((i+1:Nat):Int),enc d0,enc d1] wg): ∀(j k:Nat) (x0:Int),(∀A6 lc cd,d1.l[i]=dL [A6,lc,cd]->k+j=cd.l.length)->dE 102 [x0,(i:Int),(k:Int),(d1.l.length:Int),enc d0,enc d1] wg:=by
 have hl:=U.len;have hw:=bP (n:=i) J;obtain⟨A6,lc,cd,he,_,_,QM⟩:=xM U hi;have mB:d1.at (i:Int)=dL [A6,lc,cd]:=by rw [cB hi]; exact he
 have Cf:=QM.len;intro j
 induction j with
 |zero=> intro k x0 hk;have hk:=hk _ _ _ he;exact dE.jmp X! (ea [.lt Qb (ln dq)] [LV,.lt Qo (ln (ce 2 (el dq Qb)))] (ju 101 [Qf,Qm,pz,cQ,dq]) (by simp only [zz,mB,zg]<;>omega) aa (by simp only [zz,hw]<;>rfl)) (q x0)
 |succ j ih=>
  intro k x0 hk;have QK:=hk _ _ _ he;by_cases h6:6000<x0
  ·exact dE.jmp X! (ea [.lt Qb (ln dq),.lt Qo (ln (ce 2 (el dq Qb))),.lt (.lit 6000) Qf] [LV] (ju 101 [Qf,Qm,pz,cQ,dq]) (by simp only [zz,mB,zg]<;>omega) aa (by simp only [zz,hw]<;>rfl)) (q x0)
  ·have Jx:k<cd.l.length:=J
   have hw2:=bP (n:=k) J;obtain⟨a,b,c,e,f,g,EP,xH,_,_,_,_,_,_,has⟩:=Nv QM Jx;have akI:cd.at (k:Int)=dL [.i a,.i b,.i c,.i e,.i f,.i g,EP]:=by rw [cB Jx]; exact xH
   refine dE.jmp X! (ea [.lt Qb (ln dq),.lt Qo (ln (ce 2 (el dq Qb)))] [LV,.lt (.lit 6000) Qf,Qcs] (ju 103 [Qf,Qb,Qo,Qm,Qe5,ln Qe5,Qa,cQ,dq]) (by simp only [zz,mB,zg]<;>omega) aa (by simp only [zz,mB,akI,zg]<;>rfl)) (DI U (i:Int) (k:Int) (d1.l.length:Int) EP has (fun x0=>?_) EP.l.length 0 x0 J);rw [hw2];exact ih (k+1) x0 fun A6 lc cd he=>by have:=hk A6 lc cd he; omega
theorem DH: ∀(j i:Nat) (x0:Int),i+j=d1.l.length->dE 101 [x0,(d1.l.length:Int),(i:Int),enc d0,enc d1] wg
 |0,i,x0,hi=>by
  by_cases h6:6000<x0
  ·exact dE.ret X? (ea [.lt (.lit 6000) Qf] [Ct] (ou [Q0]) (by simp only [zz]<;>omega) aa (by simp only [zz])) oS
  ·exact dE.ret X? (ea [] [Ct,.lt (.lit 6000) Qf] (ou [Qa]) (by simp only [zz]<;>omega) aa (by simp only [zz])) qy
 |j+1,i,x0,hi=>by
  have ei:i<d1.l.length:=J
  obtain⟨A6,lc,cd,he,_,_,QM⟩:=xM U ei;refine dE.jmp X? (ys:=[_,(i:Int),((0:Nat):Int),(d1.l.length:Int),enc d0,enc d1]) (ea [Ct,Ut] [Qcs] (ju 102 [wr (.add Qf (wr (.add (ln q!) (ln (ce 2 q?))))),Qo,Qa,Qb,Qm,cQ]) (by simp only [zz]<;>omega) aa (by simp only [zz]<;>rfl)) (Tm U i ei (fun x0=>DH j (i+1) x0 J) cd.l.length 0 _ fun n' l' c' wq=>?_);rw [he] at wq;have:=Er wq;simp only [List.cons.injEq,and_true] at this;rw [this.2.2];omega
theorem Tl:dE 100 [enc d0,enc d1] wg:=
 dE.jmp ajh (ys:=[_,(d1.l.length:Int),((0:Nat):Int),enc d0,enc d1]) (ea [] [] (ju 101 [wr (.add qn Qc),Qc,Qa,Qf,Qb]) (by simp only [zz]<;>omega) aa (by simp only [zz]<;>rfl)) (DH U d1.l.length 0 _ J)
end
def k7 (x:D):D:=dL [.i 0,if (x.hd 1).l.length=0 then .i 2 else dL (List.replicate (x.hd 1).l.length (.i 0)),.i 0,.i 0,.i 0,.i 0]
def kf (d0:D):D:=if d0.l.length=0 then .i 1 else dL (d0.l.map jO)
def me (d1:D):D:=if d1.l.length=0 then .i 1 else dL (d1.l.map k7)
theorem JK {l:List D} (h: ∀x∈l,∃a lc w o g tr,Kt x a lc w o g tr) (hn:l≠[]) (hl:l.length<=2199023255488):Wd (.sl 8) (dL l):=by
 have e:(l.map fun x=>x.l).map dL=l:=by
  rw [amc]
  conv=>rhs; rw [<- List.map_id l]
  apply amw;intro x hx;obtain⟨a,lc,w,o,g,tr,T⟩:=h x hx;rw [T.is];rfl
 rw [<- e];refine .many 8 [.int .i64,.sl 0,.int .u8,.int .i64,.int .i64,.int .i64] _ rfl (by simpa using hn) (by have:rM 8=64:=rfl; rw [this,alH]; omega) (fun r hr=>?_) fun r hr j d c U Z=>?_
 ·obtain⟨x,hx,rfl⟩:=aT.1 hr;obtain⟨a,lc,w,o,g,tr,T⟩:=h x hx;rw [T.is];rfl
 ·obtain⟨x,hx,rfl⟩:=aT.1 hr;obtain⟨a,lc,w,o,g,tr,T⟩:=h x hx;rw [T.is,bM] at U
  match j with
  |0=>simp at U Z; subst U Z; exact .int _ _ T.ha
  |1=>simp at U Z; subst U Z; exact T.hl
  |2=>simp at U Z; subst U Z; exact .int _ _ T.hw
  |3=>simp at U Z; subst U Z; exact .int _ _ T.ho
  |4=>simp at U Z; subst U Z; exact .int _ _ T.hg
  |5=>simp at U Z; subst U Z; exact .int _ _ T.ht
  |j+6=>simp at U
theorem U2 (x:D) (h:(x.hd 1).l.length<=17592186043904): ∃a lc w o g tr,Kt (k7 x) a lc w o g tr:=by
 have z:gb .i64 0:=⟨J,J⟩;refine⟨0,_,0,0,0,0,rfl,z,?_,⟨J,J⟩,z,z,z⟩;split
 ·exact .vz 0
 ·rename_i hn;refine vm (fun y hy=> ⟨0,(List.mem_replicate.1 hy).2,z⟩) (fun he=>?_) (by simpa using h);have:=congrArg List.length he;simp only [al9,aX] at this;omega
theorem xi {d1:D} (U:Wd (.sl 4) d1): ∀x∈d1.l,(x.hd 1).l.length<=8796093021952:=by intro x hx;obtain⟨i,hi,rfl⟩:=amr hx;obtain⟨A6,lc,cd,he,_,hlc,_⟩:=xM U hi;rw [he];simp only [zg,az];have:=hlc.room;have h3:rM 2=16:=rfl;rw [h3] at this;omega
theorem VW {d0 d1:D} (h0:Wd (.sl 3) d0) (U:Wd (.sl 4) d1) (ok:ug d0 d1):Sx (kf d0) (me d1) 0:=by
 refine⟨?_,?_,?_,?_⟩
 ·unfold kf;split
  ·exact⟨.nil 7,fun x hx=>by simp [D.l] at hx⟩
  ·refine⟨Fj (fun x hx=>?_) (fun he=>?_) (by rw [alH]; have:=ok.1; omega),fun x hx=>?_⟩
   ·obtain⟨y,hy,rfl⟩:=aT.1 hx;obtain⟨kd,A6,ln,s1,s2,he,_,hnn,_⟩:=h0.decl y hy;rw [he];refine⟨-1,_,0,0,.i 1,.i 1,rfl,⟨J,J⟩,?_,.inl rfl,⟨J,J⟩,.nil 0,.nil 0⟩;split
    ·exact hnn
    ·exact⟨J,J⟩
   ·have:=congrArg List.length he;simp only [alH,aX] at this;omega
   ·rw [bM] at hx;obtain⟨y,hy,rfl⟩:=aT.1 hx;exact⟨au 0,au 0⟩
 ·unfold me;split
  ·exact .nil 8
  ·refine JK (fun x hx=>?_) (fun he=>?_) (by rw [alH]; have:=ok.2.1; omega)
   ·obtain⟨y,hy,rfl⟩:=aT.1 hx;exact U2 y (by have:=xi U y hy; omega)
   ·have:=congrArg List.length he;simp only [alH,aX] at this;omega
 ·unfold kf;split
  ·intro h; cases h
  ·intro h;have:=congrArg (fun d=>d.l.length) h;simp only [bM,alH,tn,aX] at this;omega
 ·unfold me;split
  ·intro h; cases h
  ·intro h;have:=congrArg (fun d=>d.l.length) h;simp only [bM,alH,tn,aX] at this;omega
theorem A9 (d1:D) (U:Wd (.sl 4) d1) (hlen:d1.l.length<=16) (s:D): ∀(k i:Nat) (acc:List D),i+k=d1.l.length->acc.length=i->
 L 1452 [enc d1,(d1.l.length:Int),(i:Int),enc s,enc (dL acc)]=some [enc s,enc (dL (acc++(d1.l.drop i).map k7)),0]
 |0,i,acc,hi,ha=>by
  have c1: ¬(i:Int)<(d1.l.length:Int):=J
  rw [bN,YU,al3 J];simp only [Pj,zz,c1,bQ,amF,alZ]
 |k+1,i,acc,hi,ha=>by
  have ei:i<d1.l.length:=J
  have hd:d1.l.drop i=d1.l[i]::d1.l.drop (i+1):=bp ei;have ih:=A9 d1 U hlen s k (i+1) (acc++ [k7 d1.l[i]]) J (by simp [ha]);have c1:(i:Int)<(d1.l.length:Int):=J
  have c2: ¬((i:Int)<0):=J
  have w:=bP (n:=i) J;have c3:(acc.length:Int)<2199023255551:=J
  have Y:=xi U _ (aF ei);have c4:((((d1.l[i]).hd 1).l.length:Nat):Int)<17592186044416:=J
  have e2:acc++(k7 d1.l[i]::(d1.l.drop (i+1)).map k7)=acc++ [k7 d1.l[i]]++(d1.l.drop (i+1)).map k7:=ad
  rw [hd,aw,e2,<- ih,bN,YU];by_cases hz:((d1.l[i]).hd 1).l.length=0
  ·have EO:((((d1.l[i]).hd 1).l.length:Nat):Int)=0:=J
   have et:k7 d1.l[i]= .p (.i 0) (.p (.i 2) (.p (.i 0) (.p (.i 0) (.p (.i 0) (.p (.i 0) (.i 0)))))):=by unfold k7; rw [ah hz]; rfl
   rw [et];simp only [Pj,zz,c1,c2,w,cB ei,EO,c3,bM,bD]
  ·have EO: ¬((((d1.l[i]).hd 1).l.length:Nat):Int)=0:=J
   have et:k7 d1.l[i]= .p (.i 0) (.p (dL (List.replicate ((d1.l[i]).hd 1).l.length (.i 0))) (.p (.i 0) (.p (.i 0) (.p (.i 0) (.p (.i 0) (.i 0)))))):=by unfold k7; rw [af hz]; rfl
   rw [et];simp only [Pj,zz,c1,c2,w,cB ei,EO,c3,c4,bM,aZ,bD]
theorem Ks (d1:D) (U:Wd (.sl 4) d1) (hlen:d1.l.length<=16) (s:D):L 1451 [enc d1,(d1.l.length:Int),enc s]=some [enc s,enc (me d1),0]:=by
 by_cases hn:d1.l.length=0
 ·have c1: ¬(0:Int)<(d1.l.length:Int):=J
  have e:me d1= .i 1:=by unfold me; rw [ah hn]
  rw [bN,YV,e];simp only [Pk,zz,c1,bQ]
 ·have hp:0<d1.l.length:=J
  have c1:(0:Int)<(d1.l.length:Int):=J
  have e:me d1=dL (d1.l.map k7):=by unfold me; rw [af hn]
  have ih:=A9 d1 U hlen s (d1.l.length-1) 1 [k7 (d1.l[0]'hp)] J rfl
  have e1:[k7 (d1.l[0]'hp)]++(d1.l.drop 1).map k7=d1.l.map k7:=by
   conv=>rhs; rw [<- alN (l:=d1.l),bp hp]
   rfl
  rw [e1,<- e] at ih;have a0:d1.at 0=d1.l[0]'hp:=cB (i:=0) hp;have Y:=xi U _ (aF hp);have c4:((((d1.l[0]'hp).hd 1).l.length:Nat):Int)<17592186044416:=J
  rw [<- ih,bN,YV];by_cases hz:((d1.l[0]'hp).hd 1).l.length=0
  ·have EO:((((d1.l[0]'hp).hd 1).l.length:Nat):Int)=0:=J
   have et:dL [k7 (d1.l[0]'hp)]= .p (.p (.i 0) (.p (.i 2) (.p (.i 0) (.p (.i 0) (.p (.i 0) (.p (.i 0) (.i 0))))))) (.i 0):=by unfold k7; rw [ah hz]; rfl
   rw [et];simp only [Pk,zz,c1,a0,EO,tn,aC,iH,kY,bD,bh]
  ·have EO: ¬((((d1.l[0]'hp).hd 1).l.length:Nat):Int)=0:=J
   have et:dL [k7 (d1.l[0]'hp)]= .p (.p (.i 0) (.p (dL (List.replicate ((d1.l[0]'hp).hd 1).l.length (.i 0))) (.p (.i 0) (.p (.i 0) (.p (.i 0) (.p (.i 0) (.i 0))))))) (.i 0):=by unfold k7; rw [af hz]; rfl
   rw [et];simp only [Pk,zz,c1,a0,EO,c4,tn,aC,iH,kY,aZ,bD,bh]
theorem S1 {d0 d1:D} (U:Wd (.sl 4) d1) (hc:L 450 [enc d0,enc d1]=some [0]) (ok:ug d0 d1):L 1450 [enc d0,enc d1]=some [enc (kf d0),enc (me d1),0]:=by
 have h3:L 300 [enc d0,enc d1]=some [enc (kf d0)]:=by
  by_cases hn:d0.l.length=0
  ·have e:kf d0= .i 1:=by unfold kf; rw [ah hn]
   rw [e];exact ZM hc (.inr hn)
  ·have e:kf d0=dL (d0.l.map jO):=by unfold kf; rw [af hn]
   rw [e];exact ZN hc ok.1 J
 have K:ek (cX L (low [enc d0,enc d1])) aa9= .jump 1451 [enc d1,(d1.l.length:Int),enc (kf d0)]:=by refine ea [Qff,Qfg,.eq (a0 300 BF) Q0] [] (ju 1451 [Qb,Qc,rr 300 BF 0]) (by simp only [zz,hc,h3]<;>omega) aa ?_;simp only [zz,h3]
 rw [bN,acs];exact (congrArg (fin L) K).trans (Ks d1 U ok.2.1 _)
theorem CP (k:D) (t:Int) (x:KT):(r9 k t x).l.length=k.l.length:=by rw [bM,gr]
theorem SY {d1:D} {t:Int} {x:KT} (ho: ¬jR d1 t x=1) (h: ¬low (lh d1 t x) 4=0): ∃op obj arg tr,lh d1 t x= [op,obj,arg,tr,1]:=by
 unfold jR at ho;unfold lh at h ⊢;by_cases w0:x.w=0
 ·rw [ah w0] at ho h ⊢;by_cases a0:x.a=(Nc d1 t:Int)
  ·rw [ah a0] at ho;omega
  ·rw [af a0] at h ⊢;by_cases U:((mP d1 t x).hd 0).n=1
   ·rw [ah U];exact⟨_,_,_,_,rfl⟩
   ·rw [af U] at h ⊢;by_cases Z:((mP d1 t x).hd 0).n=2
    ·rw [ah Z];exact⟨_,_,_,_,rfl⟩
    ·rw [af Z] at h;exact absurd rfl h
 ·rw [af w0];exact⟨_,_,_,_,rfl⟩
theorem I' (d1:D) (t:Int) (x:KT):jR d1 t x=0\/jR d1 t x=1:=by
 unfold jR;split
 ·split
  ·exact .inr rfl
  ·exact .inl rfl
 ·exact .inl rfl
theorem K_ {d0 d1:D} {t:Int} {x:KT} (C:Cd d0 d1) (R:Rt d0 d1 t x) (hd0:d0.l.length<=64) {op obj arg tr b:Int} (hn:lh d1 t x= [op,obj,arg,tr,b]):gb .u8 op/\gb .i64 obj/\gb .i64 arg:=by
 have z8:gb .u8 0:=⟨J,J⟩;have z:gb .i64 0:=⟨J,J⟩;have ok:=R.ok;unfold lh at hn;by_cases w0:x.w=0
 ·rw [ah w0] at hn;by_cases a0:x.a=(Nc d1 t:Int)
  ·rw [ah a0] at hn;simp only [List.cons.injEq] at hn;obtain⟨rfl,rfl,rfl,_⟩:=hn;exact⟨z8,z,z⟩
  ·have ff:x.a<(Nc d1 t:Int):=by have:=ok.2.1; unfold Nc at a0 ⊢; omega
   have F:=C.inf R ff;rw [af a0] at hn;by_cases U:((mP d1 t x).hd 0).n=1
   ·rw [ah U] at hn;simp only [List.cons.injEq] at hn;obtain⟨rfl,rfl,rfl,_⟩:=hn;exact⟨F.op,F.ob,aan F.ar R.ints⟩
   ·rw [af U] at hn;by_cases Z:((mP d1 t x).hd 0).n=2
    ·rw [ah Z] at hn;simp only [List.cons.injEq] at hn;obtain⟨rfl,rfl,rfl,_⟩:=hn;exact⟨⟨J,J⟩,F.ob,z⟩
    ·rw [af Z] at hn;simp only [List.cons.injEq] at hn;obtain⟨rfl,rfl,rfl,_⟩:=hn;exact⟨z8,z,z⟩
 ·rw [af w0] at hn;simp only [List.cons.injEq] at hn;obtain⟨rfl,rfl,rfl,_⟩:=hn;obtain⟨_,_,_,_,_,hw⟩:=ok;exact⟨⟨J,J⟩,⟨J,J⟩,R.hg⟩
theorem s? {lc:D} (h:Wd (.sl 0) lc) {z v:Int} (h0:0<=z) (U:z<(lc.l.length:Int)) (hv:gb .i64 v):Wd (.sl 0) (dL (fC lc.l z (.i v))):=by
 have:=h.room;have h3:rM 0=8:=rfl;rw [h3] at this;have hs:=gr lc.l z (.i v);refine vm (fun y hy=>?_) (fun he=>?_) (by rw [hs]; omega)
 ·rcases uo hy with h'|rfl
  ·exact (h.el1 rfl y h').i
  grind
 grind
theorem O9 {k:D} (hk:Wd (.sl 8) k) {t:Int} {x:KT} (h: ∃a lc w o g tr,Kt x.d a lc w o g tr) (hp:0<k.l.length):Wd (.sl 8) (r9 k t x):=by
 have hf:=hk.room;have h3:rM 8=64:=rfl;rw [h3] at hf;have hs:=gr k.l t x.d;refine JK (fun y hy=>?_) (fun he=>?_) (by rw [hs]; omega)
 ·rcases uo hy with h'|rfl
  ·exact iF hk y h'
  grind
 grind
section
variable {d0 d1 s k:D} {t:Int} {n:Nat} {x:KT}
theorem Kw {x:KT} (ha:gb .i64 x.a) (hl:Wd (.sl 0) x.lc) (hw:gb .u8 x.w) (ho:gb .i64 x.o) (hg:gb .i64 x.g) (ht:gb .i64 x.tr): ∃a lc w o g tr,Kt x.d a lc w o g tr:=⟨_,_,_,_,_,_,rfl,ha,hl,hw,ho,hg,ht⟩
theorem Rt.kt (C:Cd d0 d1) (R:Rt d0 d1 t x): ∃a lc w o g tr,Kt x.d a lc w o g tr:=by obtain⟨a0,a1,_,t0,t1,hw⟩:=R.ok;have hd:=C.ok.1;have hnc:=(C.code R.t0 R.t1).len;exact Kw ⟨J,J⟩ R.hl ⟨J,J⟩ ⟨J,J⟩ R.hg ⟨J,J⟩
theorem adq (C:Cd d0 d1) (R:Rt d0 d1 t x) (hx:x.w=0->x.a<(Nc d1 t:Int)) {op e2 e3 e4 oc:Int} (h3:gb .i64 e3) (h4:gb .i64 e4): ∃a lc w o g tr,Kt (qV (mP d1 t x) x op e2 e3 e4 oc).d a lc w o g tr:=by
 obtain⟨a0,a1,g!,t0,t1,hw⟩:=R.ok;have hd:=C.ok.1;have hnc:=(C.code R.t0 R.t1).len;have ka:gb .i64 x.a:=⟨J,J⟩;have kw:gb .u8 x.w:=⟨J,J⟩;have ko:gb .i64 x.o:=⟨J,J⟩;have kt:gb .i64 x.tr:=⟨J,J⟩;have z:gb .i64 0:=⟨J,J⟩;have z8: ∀v:Int,v=0\/v=24\/v=25->gb .u8 v:=fun v h=> ⟨J,J⟩;unfold qV;split
 ·split
  ·exact Kw ka R.hl kw ko R.hg (by
    show gb .i64 (if 4611686018427387904<x.tr+1 then 4611686018427387904 else x.tr+1)
    split<;>exact⟨J,J⟩)
  ·exact Kw ka R.hl kw ko R.hg kt
 ·split
  ·rename_i w0;have F:=C.inf R (hx w0);have ok:=F.ok;have U:=hx w0;unfold Nc at U;unfold OkI at ok;have k1:gb .i64 (x.a+1):=⟨J,J⟩;refine Kw ?_ ?_ ?_ ?_ ?_ z
   ·show gb .i64 (if _ then _ else _);split
    ·exact F.to
    grind
   ·show Wd (.sl 0) (if _ then _ else _);split
    ·rename_i hc;refine s? R.hl J ?_ h4
     grind
    ·exact R.hl
   all_goals grind
  ·exact Kw ka R.hl (z8 _ (.inl rfl)) z z z
theorem Po {k:D} (hp:0<k.l.length) (t:Int) (x:KT):r9 k t x≠.i 2:=fun he=>by have:=CP k t x;rw [he] at this;have e:(D.i 2).l.length=0:=rfl;omega
theorem adp (S:Sx s k n) (C:Cd d0 d1) (R:Rt d0 d1 t x) (ht:t<(k.l.length:Int)) (hx:x.w=0->x.a<(Nc d1 t:Int)) {op obj arg tries e1 e2 e3 e4 e5 oc:Int} {s':D} (A:RN d0 d1 s t op obj arg tries n s' e1 e2 e3 e4 e5 oc) :
 Sx s' (r9 k t (qV (mP d1 t x) x op e2 e3 e4 oc)) (n+1):=by
 have hp:0<k.l.length:=by have:=R.t0; omega
 exact⟨A.gs,O9 S.wk (adq C R hx A.e3 A.e4) hp,A.n2 S.n2s,Po hp _ _⟩
theorem ajn (R:Rt d0 d1 t x) (ho:jR d1 t x=0):x.w=0->x.a<(Nc d1 t:Int):=fun w0=>by unfold jR at ho;rw [ah w0] at ho;have:=R.ok.2.1;unfold Nc at ho ⊢;split at ho<;>omega
end
structure afv (d0 d1 s k:D) (t:Int) (n:Nat) (s' k':D) (e1 e2 e3 e4 e5 oc:Int):Prop where
 eq:L 1850 [enc d0,enc d1,enc s,enc k,t]=some [enc s',enc k',e1,e2,e3,e4,e5,oc]
 sx:Sx s' k' (n+1)
 ls:s'.l.length=s.l.length
 lk:k'.l.length=k.l.length
section
variable {d0 d1 s k:D} {n:Nat} (S:Sx s k n) (hn:n<17592186043904) (h0:Wd (.sl 3) d0) (U:Wd (.sl 4) d1)
include S hn h0 U
theorem aed {t:Int} {x:KT} (R:Rs d0 d1 s k t x) (ho:jR d1 t x=0) (ha:low (lh d1 t x) 4=0):Sx s (r9 k t (tJ (mP d1 t x) x)) n:=by
 have hp:0<k.l.length:=by have:=R.r.t0; have:=R.ht; omega
 exact⟨S.g,O9 S.wk ((WY R.c R.ht R.r (W1 R.r ho ha)).1.kt R.c) hp,S.n2s,Po hp _ _⟩
theorem CL (t:Int): ∃s' k' e1 e2 e3 e4 e5 oc,afv d0 d1 s k t n s' k' e1 e2 e3 e4 e5 oc:=by
 rcases abi (t:=t) S hn h0 U with h|⟨x,R⟩
 ·exact⟨s,k,0,0,0,0,0,0,z? S h,S.mono (amu n),rfl,rfl⟩
 ·rcases I' d1 t x with ho|ho
  ·by_cases ha:low (lh d1 t x) 4=0
   ·exact⟨_,_,0,0,0,0,0,1,MT S R ho ha,(aed S hn h0 U R ho ha).mono (amu n),rfl,CP _ _ _⟩
   ·obtain⟨op,obj,arg,tr,hq⟩:=SY J ha;obtain⟨k1,k2,k3⟩:=K_ R.c R.r R.c.ok.1 hq
    have fU:gb .i64 t:=by have:=R.r.t0;have:=R.r.t1;have:=U.len;exact⟨J,J⟩
    obtain⟨s',e1,e2,e3,e4,e5,oc,A⟩:=u! (tries:=tr) h0 U S.g hn fU k1 k2 k3;exact⟨s',_,e1,e2,e3,e4,e5,oc,MS S R ho hq A,adp S R.c R.r R.ht (ajn R.r ho) A,A.len,CP _ _ _⟩
  ·exact⟨s,k,0,0,0,0,0,4,Sp S R ho,S.mono (amu n),rfl,rfl⟩
end
def tl (x n:Int):Int:=if x.tmod n<0 then x.tmod n+n else x.tmod n
theorem JN {x n:Int} (h:0<n): -n<x.tmod n/\x.tmod n<n:=by have U:=amz x h;have Z:=amz (-x) h;rw [Int.neg_tmod] at Z;omega
theorem SM {x n:Int} (h:0<n):0<=tl x n/\tl x n<n:=by
 have:=JN (x:=x) h;unfold tl
 grind
theorem SL {x n:Int} (h:0<n) (Y:n<=140737488351232):(IntKind.i64.wrap (x.tmod n+n)).tmod n=tl x n:=by
 have U:=JN (x:=x) h;rw [lP J J];unfold tl;split
 ·exact Int.tmod_eq_of_lt J J
 ·rw [Int.tmod_eq_emod_of_nonneg J,Int.add_emod_right];exact Int.emod_eq_of_lt J J
def EqN (a b:D):Prop:=a.l.length=b.l.length/\∀(i:Nat),(a.at (i:Int)).n=(b.at (i:Int)).n
structure KEq (x y:D):Prop where
 c0:(x.hd 0).n=(y.hd 0).n
 c1:EqN (x.hd 1) (y.hd 1)
 c2:(x.hd 2).n=(y.hd 2).n
 c3:(x.hd 3).n=(y.hd 3).n
 c4:(x.hd 4).n=(y.hd 4).n
 c5:(x.hd 5).n=(y.hd 5).n
def aec (k:D):Prop:=k.l.length<=140737488351232/\∀i:Nat,((k.at (i:Int)).hd 1).l.length<=140737488351232
section
variable {s k s' k':D} (hl:k.l.length=k'.l.length) (hq: ∀i:Nat,KEq (k.at (i:Int)) (k'.at (i:Int))) (Y:aec k)
include hl hq Y
end
abbrev evD (e1 e2 e3 e4 e5:Int):D:=dL [.i e1,.i e2,.i e3,.i e4,.i e5]
structure PS where
 s:D
 k:D
 l:List D
noncomputable def c! (d0 d1 s k:D) (t:Int):List Int:=(L 1850 [enc d0,enc d1,enc s,enc k,t]).getD []
noncomputable def stP (d0 d1:D) (p:PS) (t:Int):PS:=
 ⟨dec (low (c! d0 d1 p.s p.k t) 0),dec (low (c! d0 d1 p.s p.k t) 1),if low (c! d0 d1 p.s p.k t) 7=2\/low (c! d0 d1 p.s p.k t) 7=3 then p.l++ [evD (low (c! d0 d1 p.s p.k t) 2) (low (c! d0 d1 p.s p.k t) 3) (low (c! d0 d1 p.s p.k t) 4) (low (c! d0 d1 p.s p.k t) 5) (low (c! d0 d1 p.s p.k t) 6)] else p.l⟩
noncomputable def CT (d0 d1:D):PS->List Int->PS
 |p,[]=>p
 |p,t::ts=>CT d0 d1 (stP d0 d1 p t) ts
structure POk (d1:D) (p:PS) (n:Nat):Prop where
 sx:Sx p.s p.k n
 lk:p.k.l.length=d1.l.length
 ll:p.l.length<=n
theorem V3 {d0 d1:D} {p:PS} {t:Int} {n:Nat} {s' k':D} {e1 e2 e3 e4 e5 oc:Int} (A:afv d0 d1 p.s p.k t n s' k' e1 e2 e3 e4 e5 oc):stP d0 d1 p t=⟨s',k',if oc=2\/oc=3 then p.l++ [evD e1 e2 e3 e4 e5] else p.l⟩:=by unfold stP c!;rw [A.eq];simp only [az,bJ,bK,bB]<;>rfl
theorem V2 {d0 d1:D} {p:PS} {t:Int} {n:Nat} (P:POk d1 p n) {s' k':D} {e1 e2 e3 e4 e5 oc:Int} (A:afv d0 d1 p.s p.k t n s' k' e1 e2 e3 e4 e5 oc):POk d1 (stP d0 d1 p t) (n+1):=by
 rw [V3 A];refine⟨A.sx,A.lk.trans P.lk,?_⟩;have:=P.ll;show (if oc=2\/oc=3 then p.l++ [evD e1 e2 e3 e4 e5] else p.l).length<=n+1;split
 ·rw [a8]; exact Nat.succ_le_succ this
 ·omega
def F! (d1:D) (x:D):Int:=tl x.n (d1.l.length:Int)
theorem dr {ρ:Nat->Int} (a b:V):(V.rem a b).den ρ=(a.den ρ).tmod (b.den ρ):=rfl
theorem ahL:((3:Int)=2)=False:=ad
theorem ahN:((1:Int)=2)=False:=ad
theorem ahM:((1:Int)=3)=False:=ad
section
variable {d0 d1:D} (h0:Wd (.sl 3) d0) (U:Wd (.sl 4) d1)
include h0 U
theorem Pr: ∀(ts:List Int) (p:PS) (n:Nat),POk d1 p n->n+ts.length<17592186043904->POk d1 (CT d0 d1 p ts) (n+ts.length)
 |[],p,n,P,_=>P
 |t::ts,p,n,P,hn=>by
  simp only [aK] at hn;obtain⟨s',k',e1,e2,e3,e4,e5,oc,A⟩:=CL P.sx J h0 U t;have h:=Pr ts _ (n+1) (V2 P A) J;have e:n+1+ts.length=n+(t::ts).length:=by rw [aK]; omega
  rw [e] at h;exact h
end
theorem Mp (d1:D):(me d1).l.length=d1.l.length:=by
 unfold me;split
 ·rename_i h; rw [h]; rfl
 ·rw [bM,alH]
section
variable {d0 d1:D} (h0:Wd (.sl 3) d0) (U:Wd (.sl 4) d1)
include h0 U
end
def Fa (q:PS):List Int:=[enc (if q.l= [] then .i 1 else dL q.l),enc q.s,enc q.k]
section
variable {d0 d1:D} (h0:Wd (.sl 3) d0) (U:Wd (.sl 4) d1) (hn:0<d1.l.length)
include h0 U hn
theorem Wz (d:D) (hd:d.l.length<=40000000): ∀(j i:Nat) (p:PS),i+j=d.l.length->POk d1 p i->
 (p.l= []->L 2401 [enc d,(d1.l.length:Int),(i:Int),enc d0,enc d1,enc p.s,enc p.k]=some (Fa (CT d0 d1 p ((d.l.drop i).map (F! d1)))))/\
 (p.l≠[]->L 2402 [enc d,(d1.l.length:Int),(i:Int),enc (dL p.l),enc d0,enc d1,enc p.s,enc p.k]=some (Fa (CT d0 d1 p ((d.l.drop i).map (F! d1)))))
 |0,i,p,hi,P=>by
  have c1: ¬(i:Int)<(d.l.length:Int):=J
  rw [al3 J];simp only [amF,CT];refine⟨fun hp=>?_,fun hp=>?_⟩
  ·rw [bN,Rc];simp only [AP,zz,c1,bQ,Fa,hp,if_true]
  ·rw [bN,YF];simp only [Fp,zz,c1,bQ,Fa,af hp]
 |j+1,i,p,hi,P=>by
  have ei:i<d.l.length:=J
  have c1:(i:Int)<(d.l.length:Int):=J
  have c2:(0:Int)<(d1.l.length:Int):=J
  have c3: ¬((i:Int)<0):=J
  have w:=bP (n:=i) J;have Y:=U.len;have pk:=SL (x:=(d.at (i:Int)).n) c2 J;obtain⟨r1,r2⟩:=SM (x:=(d.at (i:Int)).n) c2;have c4: ¬(tl (d.at (i:Int)).n (d1.l.length:Int)<0):=J
  have c5:tl (d.at (i:Int)).n (d1.l.length:Int)<(p.k.l.length:Int):=by have:=P.lk; omega
  obtain⟨s',k',e1,e2,e3,e4,e5,oc,A⟩:=CL P.sx J h0 U (tl (d.at (i:Int)).n (d1.l.length:Int));have hA:=A.eq;have c6:tl (d.at (i:Int)).n (d1.l.length:Int)<(k'.l.length:Int):=by have:=P.lk; have:=A.lk; omega
  have P':=V2 P A;have ih:=Wz d hd j (i+1) _ J P'
  have E4:CT d0 d1 p ((d.l.drop i).map (F! d1))=CT d0 d1 (stP d0 d1 p (tl (d.at (i:Int)).n (d1.l.length:Int))) ((d.l.drop (i+1)).map (F! d1)):=by rw [bp ei,aw,CT,F!,cB ei]
  have hl:=P.ll;have c7:(p.l.length:Int)<3518437208882:=J
  rw [E4];generalize CT d0 d1 (stP d0 d1 p (tl (d.at (i:Int)).n (d1.l.length:Int))) ((d.l.drop (i+1)).map (F! d1))=Q at *;rw [V3 A] at ih;obtain⟨L8,vI⟩:=ih;refine⟨fun hp=>?_,fun hp=>?_⟩
  ·rw [bN,Rc];by_cases o2:oc=2
   ·simp only [o2,true_or,if_true,hp,aC,evD,iH,kY] at vI;simp only [AP,zz,dr,c1,c2,c3,c4,c5,pk,hA,o2,w,bD,tn,aC,iH,kY];exact vI ad
   ·by_cases o3:oc=3
    ·simp only [o3,or_true,if_true,hp,aC,evD,iH,kY] at vI;simp only [AP,zz,dr,c1,c2,c3,c4,c5,pk,hA,o3,w,bD,tn,aC,iH,kY,ahL];exact vI ad
    ·simp only [o2,o3,or_self,if_false] at L8;by_cases o1:oc=1
     ·simp only [AP,zz,dr,c1,c2,c3,c4,c5,pk,hA,o1,w,bD,ahN,ahM];exact L8 hp
     ·simp only [AP,zz,dr,c1,c2,c3,c4,c5,c6,pk,hA,o1,o2,o3,w,bD];exact L8 hp
  ·rw [bN,YF];by_cases o2:oc=2
   ·simp only [o2,true_or,if_true,evD,iH,kY] at vI;simp only [Fp,zz,dr,c1,c2,c3,c4,c5,c7,pk,hA,o2,w,bD,bM];exact vI ad
   ·by_cases o3:oc=3
    ·simp only [o3,or_true,if_true,evD,iH,kY] at vI;simp only [Fp,zz,dr,c1,c2,c3,c4,c5,c7,pk,hA,o3,w,bD,bM,ahL];exact vI ad
    ·simp only [o2,o3,or_self,if_false] at vI;by_cases o1:oc=1
     ·simp only [Fp,zz,dr,c1,c2,c3,c4,c5,pk,hA,o1,w,bD,ahN,ahM];exact vI hp
     ·simp only [Fp,zz,dr,c1,c2,c3,c4,c5,c6,pk,hA,o1,o2,o3,w,bD];exact vI hp
theorem E? {s k:D} (hB:L 1450 [enc d0,enc d1]=some [enc s,enc k,0]) (P:POk d1 ⟨s,k,[]⟩ 0) (d:D) (hd:d.l.length<=40000000):L 2400 [enc d0,enc d1,enc d]=some (Fa (CT d0 d1 ⟨s,k,[]⟩ (d.l.map (F! d1)))):=by have h:=(Wz h0 U hn d hd d.l.length 0 ⟨s,k,[]⟩ J P).1 rfl;rw [alN,amk] at h;rw [bN,YH];simp only [Vt,zz,hB,bD];exact h
end
theorem ry: ∀(l:List D) (k v k':D),ec (ib l k v) k'=if k=k' then some v else ec l k'
 |[],k,v,k'=>by
  simp only [ib,ec];by_cases h:k=k'
  ·rw [ah h]; exact ah h
  ·rw [af h]; exact af h
 |d::l,k,v,k'=>by
  simp only [ib];by_cases h:jc d=k
  ·rw [ah h];simp only [ec];by_cases Z:k=k'
   ·rw [ah Z]; exact ah Z
   ·rw [af Z,af (fun h3=>Z (h.symm.trans h3))]; exact af Z
  ·rw [af h];simp only [ec,ry l k v k']
   grind
def ajt (m:Int) (l:List D):Prop:=(∀x∈l,0<=x.n/\x.n<m)/\(l.map D.n).Nodup
def ajv (N o dn:Int) (rl vl:Nat):Prop:=(N<0->(vl:Int)=0)/\(0<=N->(vl:Int)<=N)/\(o<0\/(rl:Int)=0/\dn=0)
def afx (k N c:Int):Prop:=k=9\/(k=3/\0<=c/\c<=N)\/(k=5/\0<=c/\c<=IntKind.i64.wrap (N-1))\/(k=7/\0<=c/\c<=1099511627776)\/(k≠3/\k≠5/\k≠7/\k≠9/\c=0)
def aju (k N m o c dn g:Int) (rl vl:Nat):Prop:=
 afx k N c/\-1<=o/\o<m/\0<=g/\g<=4611686018427387904/\(0<=o->k=1\/k=2\/k=6)/\(0<(rl:Int)->k=4\/k=2)/\(0<(vl:Int)->k=8)/\(dn≠0->k=6)/\(0<g->k=5)
def ala (k N m o c dn g:Int) (r v:D):Prop:=aju k N m o c dn g r.l.length v.l.length/\ajt m r.l/\ajv N o dn r.l.length v.l.length
def aay (k N m:Int):Act->Prop
 | .res o c dn g r v _ _ _=>ala k N m o c dn g r v
 |_=>True
theorem aay.ite {k N m:Int} {p:Prop} [Decidable p] {a b:Act} (ha:p->aay k N m a) (Y: ¬p->aay k N m b):aay k N m (if p then a else b):=by
 grind
section
variable {d0 x:D} {k N m mo th op arg tries o c dn g:Int} {r v:D}
end
inductive aas (d0 d1 s:D) (t op obj arg tries:Int):D->Int->Int->Int->Int->Int->Int->Prop
 |no:aas d0 d1 s t op obj arg tries s 0 0 0 0 0 0
 |B7 (A:Acc d0 d1 s t op obj):aas d0 d1 s t op obj arg tries s t 27 obj (IntKind.i64.wrap op) 0 2
 |res (A:Acc d0 d1 s t op obj) (o c dn g:Int) (r v:D) (o' c' dn' g':Int) (r' v':D) (m:Option Int) (a oc:Int) (T:Tg (s.at obj) o c dn g r v)
  (h:act (Mx d0 obj) (Mo d0 s obj) t op arg tries o c dn g r v= .res o' c' dn' g' r' v' m a oc):aas d0 d1 s t op obj arg tries (M6 s obj (Mx d0 obj) (.res o' c' dn' g' r' v' m a oc)) t op obj a 0 oc
section
variable {d0 d1 s s':D} {t op obj arg tries e1 e2 e3 e4 e5 oc:Int} {n:Nat}
end
section
variable {d0 d1 s:D} {n:Nat} (h0:Wd (.sl 3) d0) (U:Wd (.sl 4) d1) (G:Gs s n) (hn:n<17592186044000)
include h0 U G hn
end
def aaz (th:Int):Act->Prop
 | .res _ _ _ _ _ _ m _ _=> ∀q,m=some q->q= -1\/q=th
 |_=>True
theorem aaz.ite {th:Int} {p:Prop} [Decidable p] {a b:Act} (ha:aaz th a) (Y:aaz th b):aaz th (if p then a else b):=by
 grind
section
variable {d0 d1 s:D} {t op obj arg tries:Int} {n:Nat} (h0:Wd (.sl 3) d0) (U:Wd (.sl 4) d1) (G:Gs s n) (hn:n<17592186043904) (zu:gb .u8 op) (ht:gb .i64 t) (ha:gb .i64 arg)
include h0 U G hn zu ht ha
end
def aax (op:Int):Act->Prop
 | .res _ _ _ _ _ _ _ _ oc=>oc=2\/oc=3/\(op=12\/op=15)
 |_=>True
theorem aax.ite {op:Int} {p:Prop} [Decidable p] {a b:Act} (ha:p->aax op a) (Y: ¬p->aax op b):aax op (if p then a else b):=by
 grind
section
variable {d0 d1 s s' k:D} {t op obj arg tries e1 e2 e3 e4 e5 oc:Int} {n:Nat} {x:KT}
end
inductive RP (d0 d1 s k:D) (t:Int) (n:Nat):D->D->Int->Int->Int->Int->Int->Int->Prop
 |no (h:L 1550 [enc d0,enc d1,enc s,enc k,t]=some [0]):RP d0 d1 s k t n s k 0 0 0 0 0 0
 |over (x:KT) (R:Rs d0 d1 s k t x) (ho:jR d1 t x=1):RP d0 d1 s k t n s k 0 0 0 0 0 4
 |loc (x:KT) (R:Rs d0 d1 s k t x) (ho:jR d1 t x=0) (ha:low (lh d1 t x) 4=0):RP d0 d1 s k t n s (r9 k t (tJ (mP d1 t x) x)) 0 0 0 0 0 1
 |tri (x:KT) (R:Rs d0 d1 s k t x) (ho:jR d1 t x=0) (op obj arg tr:Int) (hq:lh d1 t x= [op,obj,arg,tr,1]) (k1:gb .u8 op) (k2:gb .i64 obj) (k3:gb .i64 arg) (fU:gb .i64 t) (s':D) (e1 e2 e3 e4 e5 oc:Int)
  (A:RN d0 d1 s t op obj arg tr n s' e1 e2 e3 e4 e5 oc) (T:aas d0 d1 s t op obj arg tr s' e1 e2 e3 e4 e5 oc):RP d0 d1 s k t n s' (r9 k t (qV (mP d1 t x) x op e2 e3 e4 oc)) e1 e2 e3 e4 e5 oc
section
variable {d0 d1 s k:D} {n:Nat} (S:Sx s k n) (hn:n<17592186043904) (h0:Wd (.sl 3) d0) (U:Wd (.sl 4) d1)
include S hn h0 U
end
theorem MR.thr {d0 d1 s k:D} {n:Nat} (S:Sx s k n) (hn:n<17592186043904) (h0:Wd (.sl 3) d0) (U:Wd (.sl 4) d1) (M:MR d0 d1 s k) {t:Int} (t0:0<=t) (t1:t<(d1.l.length:Int)): ∃x,Rs d0 d1 s k t x:=by
 obtain⟨ys,hL,b,rfl,Y⟩:=J3 (k:=k) h0 U (S.g.om J).rows U.len t;rcases Y with ⟨_,Y⟩|⟨rfl,_⟩
 ·grind
 ·rcases abi (t:=t) S hn h0 U with h|h
  all_goals grind
theorem aeg {x y:KT} (h:x.d=y.d):x=y:=by
 simp only [KT.d,iH,kY,D.p.injEq,D.i.injEq,and_true] at h;obtain⟨U,Z,h3,h4,h5,h6⟩:=h;cases x; cases y
 grind
section
variable {d0 d1 s k:D} {n:Nat} (S:Sx s k n) (hn:n<17592186043904) (h0:Wd (.sl 3) d0) (U:Wd (.sl 4) d1)
include S hn h0 U
end
section
variable {d0 d1 s k:D} {n:Nat} (S:Sx s k n) (hn:n<17592186043900) (h0:Wd (.sl 3) d0) (U:Wd (.sl 4) d1)
include S hn h0 U
end
theorem abp (d1:D) (t:Int) (x:KT): ∃a b c d e,lh d1 t x= [a,b,c,d,e]/\(e=0\/e=1):=by
 unfold lh;split
 ·split
  ·exact⟨_,_,_,_,_,rfl,.inl rfl⟩
  ·split
   ·exact⟨_,_,_,_,_,rfl,.inr rfl⟩
   ·split
    ·exact⟨_,_,_,_,_,rfl,.inr rfl⟩
    ·exact⟨_,_,_,_,_,rfl,.inl rfl⟩
 ·exact⟨_,_,_,_,_,rfl,.inr rfl⟩
theorem ad6 {d0 d1 s k:D} {t:Int} {x:KT} (R:Rs d0 d1 s k t x):L 1800 [enc d0,enc d1,enc s,enc k,t]=some (lh d1 t x):=by
 obtain⟨a,b,c,d,e,hq,he⟩:=abp d1 t x;have hN:=H6 (s:=s) R.c R.hk R.ht R.r;have h:=R.yes;rw [hq] at hN ⊢;rw [bN,acm];rcases he with rfl|rfl
 ·simp only [VA,zz,h,hN,bF,bQ]
 ·simp only [VA,zz,h,hN,bF,bQ]
def BD (d0 d1 s k:D) (t:Int) (x:KT):Prop:= ∃s' k' e1 e2 e3 e4 e5 oc,L 1850 [enc d0,enc d1,enc s,enc k,t]=some [enc s',enc k',e1,e2,e3,e4,e5,oc]/\(oc=0\/oc=4)/\¬(low (lh d1 t x) 0=4/\low (lh d1 t x) 3<low (lh d1 t x) 2)
def afu (d0 d1 s k:D):Prop:=MR d0 d1 s k/\∀(t:Int) (x:KT),Rs d0 d1 s k t x->BD d0 d1 s k t x
section
variable {d0 d1 s k:D} {n:Nat} (S:Sx s k n) (hn:n<17592186043800) (h0:Wd (.sl 3) d0) (U:Wd (.sl 4) d1)
include S hn h0 U
theorem CG (M:MR d0 d1 s k): ∀(j i:Nat),i+j=d1.l.length->dE 2551 [(d1.l.length:Int),(i:Int),enc d0,enc d1,enc s,enc k] (g_ (∀(t:Int) (x:KT),(i:Int)<=t->Rs d0 d1 s k t x->BD d0 d1 s k t x))
 |0,i,hi=>by
  have c1: ¬(i:Int)<(d1.l.length:Int):=J
  refine dE.of ?_;rw [YD];simp only [Vr,zz,c1];exact .out (P5 fun t x ht R=>by have:=R.r.t1; omega)
 |j+1,i,hi=>by
  have c1:(i:Int)<(d1.l.length:Int):=J
  have Y:=U.len;have w:=bP (n:=i) J;obtain⟨x,R⟩:=M.thr S J h0 U (by omega:(0:Int)<=(i:Int)) c1;obtain⟨s',k',e1,e2,e3,e4,e5,oc,A⟩:=CL S J h0 U (i:Int);have hA:=A.eq;obtain⟨a,b,c,d,e,hq,_⟩:=abp d1 (i:Int) x;have h18:=ad6 R;rw [hq] at h18;have ih:=CG M j (i+1) J
  have stay:BD d0 d1 s k (i:Int) x↔(oc=0\/oc=4)/\¬(a=4/\d<c):=by unfold BD;rw [hq];refine⟨fun⟨s2,k2,f1,f2,f3,f4,f5,oc2,q1,q2,q3⟩=>?_,fun⟨q1,q2⟩=> ⟨s',k',e1,e2,e3,e4,e5,oc,hA,q1,q2⟩⟩;rw [hA] at q1;simp only [ag,List.cons.injEq,and_true] at q1;exact⟨J,q3⟩
  have no: ¬BD d0 d1 s k (i:Int) x->g_ (∀(t:Int) (x:KT),(i:Int)<=t->Rs d0 d1 s k t x->BD d0 d1 s k t x) [0]:=fun h=>yu fun q=>h (q _ _ (Int.le_refl _) R)
  have yes:BD d0 d1 s k (i:Int) x->dE 2551 [(d1.l.length:Int),((i+1:Nat):Int),enc d0,enc d1,enc s,enc k] (g_ (∀(t:Int) (x:KT),(i:Int)<=t->Rs d0 d1 s k t x->BD d0 d1 s k t x)):=fun h=>by
   obtain⟨ys,hL,b,rfl,Y⟩:=ih;refine⟨_,hL,b,rfl,Y.imp (fun q=> ⟨q.1,fun g=>q.2 fun t y ht Ry=>g t y J Ry⟩) (fun q=> ⟨q.1,fun t y ht Ry=>?_⟩)⟩;by_cases fU:t=(i:Int)
   ·subst fU;have:=aeg (Ry.hk.symm.trans R.hk);rw [this];exact h
   ·exact q.2 t y J Ry
  refine dE.of ?_;rw [YD];simp only [Vr,zz,c1,hA,h18,w];refine .ite (fun o0=> .ite (fun a4=> .ite (fun ff=> .out (no fun h=>(stay.1 h).2 ⟨a4,ff⟩)) (fun ff=> .jump (yes (stay.2 ⟨.inl o0,fun h=>ff h.2⟩)))) (fun a4=> .jump (yes (stay.2 ⟨.inl o0,fun h=>a4 h.1⟩)))) (fun o0=> .ite (fun o4=> .ite (fun a4=> .ite (fun ff=> .out (no fun h=>(stay.1 h).2 ⟨a4,ff⟩)) (fun ff=> .jump (yes (stay.2 ⟨.inr o4,fun h=>ff h.2⟩)))) (fun a4=> .jump (yes (stay.2 ⟨.inr o4,fun h=>a4 h.1⟩)))) (fun o4=> .out (no fun h=>by rcases (stay.1 h).1 with h|h; exact o0 h; exact o4 h)))
theorem VY:dE 2550 [enc d0,enc d1,enc s,enc k] (g_ (afu d0 d1 s k)):=by
 obtain⟨ys,hM,b,rfl,Y⟩:=Ga h0 U (S.g.om J).rows U.len (k:=k);refine dE.of ?_;rw [ack];simp only [aa4,zz,hM];refine .ite (fun h=> .out (yu fun q=>?_)) (fun h=>?_)
 ·rcases Y with ⟨_,Y⟩|⟨h',_⟩
  ·exact Y q.1
  ·omega
 ·have M:MR d0 d1 s k:=by
   rcases Y with ⟨h',_⟩|⟨_,Y⟩
   ·exact absurd h' h
   ·exact Y
  obtain⟨ys,hL,b',rfl,E5⟩:=CG S hn h0 U M d1.l.length 0 J;rw [amk] at hL;refine .jump ⟨_,hL,b',rfl,E5.imp (fun q=> ⟨q.1,fun g=>q.2 fun t x _ R=>g.2 t x R⟩) (fun q=> ⟨q.1,M,fun t x R=>q.2 t x (by have:=R.r.t0; omega) R⟩)⟩
end
end Go.As.Try
end
section
namespace Go.As.Try
open Go hiding Stat Spec shape
open Go.As
set_option maxRecDepth 100000
set_option linter.unusedSimpArgs false
set_option linter.unusedVariables false
def Bd (d:D):Prop:=d.l.length<=64/\(d.l= []->d= .i 1\/d= .i 2)
def Xi (ys:List Int):Prop:= ∃d,ys= [enc d]/\Bd d
theorem np {d:D} (h:Bd d):Xi [enc d]:=⟨d,rfl,h⟩
theorem OW:Bd (.i 1):=⟨by simp [D.l],fun _=> .inl rfl⟩
theorem ajm:Bd (.i 2):=⟨by simp [D.l],fun _=> .inr rfl⟩
theorem ajl {l:List D} (h:l≠[]) (Z:l.length<=64):Bd (dL l):=⟨by rw [bM]; exact Z,fun e=>absurd (by rwa [bM] at e) h⟩
theorem JP (t:Int) (h0:0<=t) (d:D) (h:d.l.length<=64) (c1:t<(d.l.length:Int)):dE 23401 [t,enc d] Xi:=by
 have c2: ¬t<0:=J
 refine dE.of ?_;rw [OI];simp only [MI,zz,c1,c2,if_true,if_false];have fX:d.l≠[]:=fun e=>by rw [e] at c1; simp at c1; omega
 refine .ite (fun _=> .out (np (ajl ?_ ?_))) (fun _=> .out (np ⟨h,fun e=>absurd e fX⟩))
 ·unfold fC;split
  ·exact fX
  ·simpa using fX
 ·unfold fC;split<;>simpa using h
theorem vn (t:Int) (h0:0<=t) (U:t<64): ∀(n:Nat) (d:D),n+d.l.length=64->dE 23401 [t,enc d] Xi
 |0,d,h=>JP t h0 d J J
 |n+1,d,h=>by
  by_cases c1:t<(d.l.length:Int)
  ·exact JP t h0 d J c1
  ·have c3:(d.l.length:Int)<17592186044415:=J
   refine dE.of ?_;rw [OI];simp only [MI,zz,c1,c3,if_true,if_false];exact .jump (vn t h0 U n _ (by simp [bM]; omega))
theorem JO {d:D} (h:Bd d) (t:Int):dE 23400 [enc d,t] Xi:=by
 refine dE.of ?_;rw [YQ];by_cases hl:0<(d.l.length:Int)
 ·have c2:(d.l.length:Int)<17592186044416:=by have:=h.1; omega
  simp only [HD,zz,hl,c2,if_true,if_false];refine .ite (fun _=> .out (np h)) (fun _=> .ite (fun _=> .jump ?_) (fun _=> .out (np h)));exact vn t J J (64-d.l.length) d (by have:=h.1; omega)
 ·have hn:d.l= []:=alP.1 J;rcases h.2 hn with rfl|rfl
  ·simp only [HD,zz,hl,if_true,if_false];refine .ite (fun _=> .out (np OW)) (fun _=> .ite (fun _=> .jump ?_) (fun _=> .out (np OW)));have: ¬t<0:=J
   refine dE.of ?_;rw [YP];simp only [Vz,zz,this,if_true,if_false];exact .jump (vn t J J 63 _ (by simp [bM,D.l]))
  ·simp only [HD,zz,hl,if_true,if_false];have i!: ¬enc (D.i 2)=enc (D.i 1):=fun e=>by have:=gN e; simp at this
   rw [af i!];refine .ite (fun _=> .out (np ajm)) (fun _=> .ite (fun _=> .jump ?_) (fun _=> .out (np ajm)));have: ¬t<0:=J
   refine dE.of ?_;rw [YO];simp only [Vy,zz,this,if_true,if_false];exact .jump (vn t J J 63 _ (by simp [bM,D.l]))
def N_ (a b:D) (ys:List Int):Prop:= ∃d,ys= [1,enc a,enc b,enc d]/\d.l≠[]/\d.l.length<=64
theorem G6 (a b:D) (n:Nat) (hn:n<=64): ∀(j i:Nat) (acc:D),i+j=n->acc.l.length=i->0<i->dE 26002 [enc a,enc b,(n:Int),(i:Int),enc acc] (N_ a b)
 |0,i,acc,h,hi,h0=>by
  have c1: ¬(i:Int)<(n:Int):=J
  refine dE.of ?_;rw [Oq];simp only [Mt,zz,c1,if_true,if_false];exact .out ⟨acc,rfl,fun e=>by rw [e] at hi; simp at hi; omega,J⟩
 |j+1,i,acc,h,hi,h0=>by
  have c1:(i:Int)<(n:Int):=J
  have c2: ¬(i:Int)<0:=J
  have c3:(acc.l.length:Int)<17592186044415:=J
  have w:=bP (n:=i) J;have ih:=fun x:D=>G6 a b n hn j (i+1) (dL (acc.l++ [x])) J (by simp [bM,hi]) J;refine dE.of ?_;rw [Oq];simp only [Mt,zz,c1,c2,c3,w,if_true,if_false]
  repeat' first
   |exact .jump (ih _)
   |refine .ite (fun _=>?_) (fun _=>?_)
theorem agy {j:Nat} {xs:List Int} {p q:List Int->Prop} (h:dE j xs q):dE j xs fun ys=>p ys\/q ys:=by obtain⟨ys,U,Z⟩:=h;exact⟨ys,U,.inr Z⟩
theorem X8 {a b:D} (ha:Bd a) (Y:Bd b):dE 26000 [enc a,enc b] (fun ys=>ys= [0,enc a,enc b]\/N_ a b ys):=by
 have key: ∀n:Nat,n<=64->dE 26001 [enc a,enc b,(n:Int)] (fun ys=>ys= [0,enc a,enc b]\/N_ a b ys):=by
  intro n hn;have ih:=fun (x:D) (h:0<(n:Int))=>(agy (G6 a b n hn (n-1) 1 (dL [x]) J (by simp [bM]) J):dE 26002 [enc a,enc b,(n:Int),1,enc (dL [x])] fun ys=>ys= [0,enc a,enc b]\/N_ a b ys);refine dE.of ?_;rw [YB];simp only [Vp,zz,if_true,if_false];refine .ite (fun h=>?_) (fun _=> .out (.inl rfl))
  repeat' first
   |exact .jump (ih _ h)
   |refine .ite (fun _=>?_) (fun _=>?_)
 refine dE.of ?_;rw [YC];simp only [Vq,zz,if_true,if_false];exact .ite (fun _=> .jump (key _ Y.1)) (fun _=> .jump (key _ ha.1))
theorem KA {a b:D} (ha:Bd a) (Y:Bd b):dE 23450 [enc a,enc b] Xi:=by
 obtain⟨ys,hL,h⟩:=X8 ha Y;rcases h with rfl|⟨d,rfl,U,Z⟩
 ·refine dE.of ?_;rw [OH];simp only [MH,zz,hL,bo,az,if_true,if_false];exact .out (np OW)
 ·refine dE.of ?_;rw [OH];simp only [MH,zz,hL,bo,az,if_true,if_false];rw [af ae];exact .out (np ⟨Z,fun e=>absurd e U⟩)
def MB (m:D):Prop:= ∀k v,ec m.l k=some v->Bd v
theorem aj4:MB (.i 0):=fun k v h=>by simp [D.l,ec] at h
theorem zZ {m:D} (h:MB m) (k:D) {v:D} (hv:Bd v):MB (dL (ib m.l k v)):=by
 intro k' v' h';rw [bM,ry] at h';split at h'
 ·simp only [ag] at h';exact h'▸hv
 ·exact h k' v' h'
noncomputable def Fl (d:D) (t:Int):D:=dec (((L 23400 [enc d,t]).getD []).headD 0)
noncomputable def Gm (a b:D):D:=dec (((L 23450 [enc a,enc b]).getD []).headD 0)
theorem adr {d:D} (h:Bd d) (t:Int):L 23400 [enc d,t]=some [enc (Fl d t)]:=by obtain⟨ys,hL,d',rfl,_⟩:=JO h t;rw [hL]; simp [Fl,hL,bB]
theorem RH {d:D} (h:Bd d) (t:Int):Bd (Fl d t):=by
 obtain⟨ys,hL,d',rfl,h'⟩:=JO h t;have:Fl d t=d':=by simp [Fl,hL,bB]
 rw [this]; exact h'
theorem aei {a b:D} (ha:Bd a) (Y:Bd b):L 23450 [enc a,enc b]=some [enc (Gm a b)]:=by obtain⟨ys,hL,d',rfl,_⟩:=KA ha Y;rw [hL]; simp [Gm,hL,bB]
theorem vZ {a b:D} (ha:Bd a) (Y:Bd b):Bd (Gm a b):=by
 obtain⟨ys,hL,d',rfl,h'⟩:=KA ha Y;have:Gm a b=d':=by simp [Gm,hL,bB]
 rw [this]; exact h'
theorem z7 {m:D} (h:MB m) {k:D} (hk: ¬(if (ec m.l k).isSome=true then (1:Int) else 0)=0):Bd ((ec m.l k).getD (.i 0)):=by
 cases hf:ec m.l k with
 |none=>rw [hf] at hk; simp at hk
 |some v=>exact h k v hf
def Bb (d0 d1:D) (ys:List Int):Prop:= ∃T C n,ys= [enc d0,enc d1,enc T,enc C,enc n]/\MB T/\MB C/\Bd n
theorem G3 {p:List Int->Prop} {d:D} {t:Int} {X:RS} {i1:Decidable ((L 23400 [enc d,t]).isSome=true)} {i2:Decidable ((@ite Int ((L 23400 [enc d,t]).isSome=true) i1 1 0)=1)} (h:L 23400 [enc d,t]=some [enc (Fl d t)]->Ends p X) (hd:Bd d):Ends p (@ite RS ((@ite Int ((L 23400 [enc d,t]).isSome=true) i1 1 0)=1) i2 X .no):=by have hL:=adr hd t;rw [ah (by rw [ah (by rw [hL]; rfl)])];exact h hL
theorem vS {p:List Int->Prop} {a b:D} {X:RS} {i1:Decidable ((L 23450 [enc a,enc b]).isSome=true)} {i2:Decidable ((@ite Int ((L 23450 [enc a,enc b]).isSome=true) i1 1 0)=1)} (h:L 23450 [enc a,enc b]=some [enc (Gm a b)]->Ends p X) (ha:Bd a) (Y:Bd b):Ends p (@ite RS ((@ite Int ((L 23450 [enc a,enc b]).isSome=true) i1 1 0)=1) i2 X .no):=by have hL:=aei ha Y;rw [ah (by rw [ah (by rw [hL]; rfl)])];exact h hL
theorem We {d0 d1 T C n:D} (hT:MB T) (hC:MB C) (hn:Bd n):dE 26201 [enc d0,enc d1,enc T,enc C,enc n] (Bb d0 d1):=by refine dE.of ?_;rw [Yz];simp only [Vn,zz];exact .out ⟨T,C,n,rfl,hT,hC,hn⟩
theorem FB {d0 d1 T n w:D} (hT:MB T) (hn:Bd n) (hw:w.l.length<=1000): ∀(j i:Nat) (C:D),i+j=w.l.length->MB C->dE 26202 [enc w,(w.l.length:Int),(i:Int),enc d0,enc d1,enc T,enc C,enc n] (Bb d0 d1)
 |0,i,C,hi,hC=>by
  have c1: ¬(i:Int)<(w.l.length:Int):=J
  refine dE.of ?_;rw [Oo];simp only [Ms,zz,c1,if_true,if_false];exact .out ⟨T,C,n,rfl,hT,hC,hn⟩
 |j+1,i,C,hi,hC=>by
  have c1:(i:Int)<(w.l.length:Int):=J
  have c2: ¬(i:Int)<0:=J
  have wr:=bP (n:=i) J;have ih:=fun C h=>FB (d0:=d0) (d1:=d1) hT hn hw j (i+1) C J h;refine dE.of ?_;rw [Oo];simp only [Ms,zz,c1,c2,wr,if_true,if_false]
  repeat' first
   |exact hn
   |exact OW
   |exact z7 hC ‹_›
   |exact vZ ‹_› ‹_›
   |refine vZ ?_ ?_
   |refine .jump (ih _ (zZ hC _ ?_))
   |(refine vS (fun hj=>?_) ?_ ?_; simp only [hj,az,bJ,bK,bB])
   |refine .ite (fun _=>?_) (fun _=>?_)
theorem Wg {d0 d1 T C n k:D} (hT:MB T) (hC:MB C) (hn:Bd n):dE 26202 [enc (dL [k]),1,0,enc d0,enc d1,enc T,enc C,enc n] (Bb d0 d1):=
 FB (w:=dL [k]) hT hn (by simp [bM]) 1 0 C (by simp [bM]) hC
set_option maxHeartbeats 4000000 in
theorem Wb {d0 d1 T:D} {th op ob a b:Int} (h0:0<=ob) (U:ob<(d0.l.length:Int)) (hT:MB T):dE 26200 [th,op,ob,a,b,enc d0,enc d1,enc T] (Bb d0 d1):=by
 have c1: ¬ob<0:=J
 refine dE.of ?_;rw [YA];simp only [Vo,zz,c1,U,if_true,if_false,aC,tn,bM,aK,aX,ay,Int.ofNat_one]
 repeat' first
  |(refine G3 (fun hj=>?_) ?_; simp only [hj,az,bJ,bK,bB])
  |(refine vS (fun hj=>?_) ?_ ?_; simp only [hj,az,bJ,bK,bB])
  |refine .ite (fun _=>?_) (fun _=>?_)
  |refine .jump (We (zZ hT _ ?_) hT ?_)
  |refine .jump (Wg (zZ hT _ ?_) hT ?_)
  |exact OW
  |exact z7 hT ‹_›
  |exact z7 hT ‹_›
  |refine RH ?_ _
  |refine vZ ?_ ?_
theorem Wc {d0 d1 T C n:D} (hT:MB T) (hC:MB C) (hn:Bd n):dE 26251 [enc d0,enc d1,enc T,enc C,enc n] (Bb d0 d1):=by refine dE.of ?_;rw [Yx];simp only [Vl,zz];exact .out ⟨T,C,n,rfl,hT,hC,hn⟩
theorem FA {d0 d1 T n w:D} (hT:MB T) (hn:Bd n) (hw:w.l.length<=1000): ∀(j i:Nat) (C:D),i+j=w.l.length->MB C->dE 26252 [enc w,(w.l.length:Int),(i:Int),enc d0,enc d1,enc T,enc C,enc n] (Bb d0 d1)
 |0,i,C,hi,hC=>by
  have c1: ¬(i:Int)<(w.l.length:Int):=J
  refine dE.of ?_;rw [On];simp only [Mr,zz,c1,if_true,if_false];exact .out ⟨T,C,n,rfl,hT,hC,hn⟩
 |j+1,i,C,hi,hC=>by
  have c1:(i:Int)<(w.l.length:Int):=J
  have c2: ¬(i:Int)<0:=J
  have wr:=bP (n:=i) J;have ih:=fun C h=>FA (d0:=d0) (d1:=d1) hT hn hw j (i+1) C J h;refine dE.of ?_;rw [On];simp only [Mr,zz,c1,c2,wr,if_true,if_false]
  repeat' first
   |exact hn
   |exact OW
   |exact z7 hC ‹_›
   |exact vZ ‹_› ‹_›
   |refine vZ ?_ ?_
   |refine .jump (ih _ (zZ hC _ ?_))
   |(refine vS (fun hj=>?_) ?_ ?_; simp only [hj,az,bJ,bK,bB])
   |refine .ite (fun _=>?_) (fun _=>?_)
theorem Wf {d0 d1 T C n k:D} (hT:MB T) (hC:MB C) (hn:Bd n):dE 26252 [enc (dL [k]),1,0,enc d0,enc d1,enc T,enc C,enc n] (Bb d0 d1):=
 FA (w:=dL [k]) hT hn (by simp [bM]) 1 0 C (by simp [bM]) hC
set_option maxHeartbeats 4000000 in
theorem Wa {d0 d1 T C:D} {th op ob a b:Int} (h0:0<=ob) (U:ob<(d0.l.length:Int)) (hT:MB T) (hC:MB C):dE 26250 [th,op,ob,a,b,enc d0,enc d1,enc T,enc C] (Bb d0 d1):=by
 have c1: ¬ob<0:=J
 refine dE.of ?_;rw [Yy];simp only [Vm,zz,c1,U,if_true,if_false,aC,tn,bM,aK,aX,ay,Int.ofNat_one]
 repeat' first
  |(refine G3 (fun hj=>?_) ?_; simp only [hj,az,bJ,bK,bB])
  |(refine vS (fun hj=>?_) ?_ ?_; simp only [hj,az,bJ,bK,bB])
  |refine .ite (fun _=>?_) (fun _=>?_)
  |refine .jump (Wc (zZ hT _ ?_) hC ?_)
  |refine .jump (Wf (zZ hT _ ?_) hC ?_)
  |exact OW
  |exact z7 hT ‹_›
  |exact z7 hC ‹_›
  |refine RH ?_ _
  |refine vZ ?_ ?_
def Ux (d0 d1 e:D):Prop:=0<=(e.hd 0).n/\(e.hd 0).n<(d1.l.length:Int)/\0<=(e.hd 2).n/\(e.hd 2).n<(d0.l.length:Int)
noncomputable def xT (d0 d1 e:D):List Int:=(L 26200 [(e.hd 0).n,(e.hd 1).n,(e.hd 2).n,(e.hd 3).n,(e.hd 4).n,enc d0,enc d1,enc (.i 0)]).getD []
noncomputable def CQ (d0 d1 e T C:D):List Int:=(L 26250 [(e.hd 0).n,(e.hd 1).n,(e.hd 2).n,(e.hd 3).n,(e.hd 4).n,enc d0,enc d1,enc T,enc C]).getD []
noncomputable def sT (r:List Int):D:=dec (low r 2)
noncomputable def sC (r:List Int):D:=dec (low r 3)
noncomputable def sN (r:List Int):D:=dec (low r 4)
theorem adM {d0 d1 e:D} (h:Ux d0 d1 e):L 26200 [(e.hd 0).n,(e.hd 1).n,(e.hd 2).n,(e.hd 3).n,(e.hd 4).n,enc d0,enc d1,enc (.i 0)]=some [enc d0,enc d1,enc (sT (xT d0 d1 e)),enc (sC (xT d0 d1 e)),enc (sN (xT d0 d1 e))]/\MB (sT (xT d0 d1 e))/\MB (sC (xT d0 d1 e)):=by
 obtain⟨ys,hL,T',C',n,rfl,U,Z,h3⟩:=Wb (d0:=d0) (d1:=d1) (T:=.i 0) (th:=(e.hd 0).n) (op:=(e.hd 1).n) (a:=(e.hd 3).n) (b:=(e.hd 4).n) h.2.2.1 h.2.2.2 aj4;have e1:xT d0 d1 e= [enc d0,enc d1,enc T',enc C',enc n]:=by unfold xT; rw [hL]; rfl
 rw [e1];simp only [sT,sC,sN,bJ,bK,bB];exact⟨hL,U,Z⟩
theorem adL {d0 d1 e T C:D} (h:Ux d0 d1 e) (hT:MB T) (hC:MB C):L 26250 [(e.hd 0).n,(e.hd 1).n,(e.hd 2).n,(e.hd 3).n,(e.hd 4).n,enc d0,enc d1,enc T,enc C]=some [enc d0,enc d1,enc (sT (CQ d0 d1 e T C)),enc (sC (CQ d0 d1 e T C)),enc (sN (CQ d0 d1 e T C))]/\MB (sT (CQ d0 d1 e T C))/\MB (sC (CQ d0 d1 e T C)):=by
 obtain⟨ys,hL,T',C',n,rfl,U,Z,h3⟩:=Wa (d0:=d0) (d1:=d1) (T:=T) (C:=C) (th:=(e.hd 0).n) (op:=(e.hd 1).n) (a:=(e.hd 3).n) (b:=(e.hd 4).n) h.2.2.1 h.2.2.2 hT hC;have e1:CQ d0 d1 e T C= [enc d0,enc d1,enc T',enc C',enc n]:=by unfold CQ; rw [hL]; rfl
 rw [e1];simp only [sT,sC,sN,bJ,bK,bB];exact⟨hL,U,Z⟩
noncomputable def clk (d0 d1:D):List D->D->D->List D
 |[],_,_=>[]
 |e::l,T,C=>sN (CQ d0 d1 e T C)::clk d0 d1 l (sT (CQ d0 d1 e T C)) (sC (CQ d0 d1 e T C))
noncomputable def u5 (d0 d1:D):List D->List D
 |[]=>[]
 |e::l=>sN (xT d0 d1 e)::clk d0 d1 l (sT (xT d0 d1 e)) (sC (xT d0 d1 e))
theorem RC (d0 d1:D): ∀(l:List D) (T C:D),(clk d0 d1 l T C).length=l.length
 |[],_,_=>rfl
 |e::l,T,C=>by rw [clk,aK,RC d0 d1 l,aK]
theorem OS (d0 d1:D): ∀l:List D,(u5 d0 d1 l).length=l.length
 |[]=>rfl
 |e::l=>by rw [u5,aK,RC,aK]
section
variable {d0 d1 l:D} (hR: ∀e∈l.l,Ux d0 d1 e) (hl:l.l.length<=50000)
include hR hl
theorem LC: ∀(j i:Nat) (acc:List D) (T C:D),i+j=l.l.length->acc.length=i->0<i->MB T->MB C->L 23552 [enc (dL acc),enc l,(l.l.length:Int),(i:Int),enc d0,enc d1,enc T,enc C]=some [enc (dL (acc++clk d0 d1 (l.l.drop i) T C))]
 |0,i,acc,T,C,hi,ha,h0,hT,hC=>by
  have c1: ¬(i:Int)<(l.l.length:Int):=J
  rw [al3 J,bN,OD];simp only [MD,zz,c1,bQ,clk,alZ]
 |j+1,i,acc,T,C,hi,ha,h0,hT,hC=>by
  have ei:i<l.l.length:=J
  have c1:(i:Int)<(l.l.length:Int):=J
  have c2: ¬(i:Int)<0:=J
  have c3:(acc.length:Int)<5864062014804:=J
  have w:=bP (n:=i) J;obtain⟨hs,m1,m2⟩:=adL (hR _ (aF ei)) hT hC;have ih:=LC j (i+1) (acc++ [sN (CQ d0 d1 l.l[i] T C)]) _ _ J (by simp [ha]) J m1 m2;rw [bp ei,clk,bN,OD];simp only [MD,zz,c1,c2,c3,w,cB ei,hs,bM,bD];rw [alY] at ih;exact ih
theorem TN: ∃a:D,L 23550 [enc d0,enc d1,enc l]=some [enc a]/\a.l=u5 d0 d1 l.l:=by
 by_cases hz:0<l.l.length
 ·have c1:(0:Int)<(l.l.length:Int):=J
  obtain⟨hs,m1,m2⟩:=adM (hR _ (aF hz));have ih:=LC hR hl (l.l.length-1) 1 [sN (xT d0 d1 l.l[0])] _ _ J rfl J m1 m2
  have hc:u5 d0 d1 l.l= [sN (xT d0 d1 l.l[0])]++clk d0 d1 (l.l.drop 1) (sT (xT d0 d1 l.l[0])) (sC (xT d0 d1 l.l[0])):=by
   have:l.l=l.l[0]::l.l.drop 1:=by rw [<- bp hz,alN]
   rw [congrArg (u5 d0 d1) this];rfl
  refine⟨dL (u5 d0 d1 l.l),?_,bM _⟩;have a0:l.at 0=l.l[0]:=cB (i:=0) hz;rw [hc,bN,OF];simp only [MF,zz,bD];rw [bN,OE];simp only [ME,zz,c1,a0,hs,bD,tn,aC];exact ih
 ·have hn:l.l= []:=alP.1 J;have c1: ¬(0:Int)<(l.l.length:Int):=J
  refine⟨.i 1,?_,by rw [hn]; rfl⟩;rw [bN,OF];simp only [MF,zz,bD];rw [bN,OE];simp only [ME,zz,c1,bQ]
end
theorem Cy {d0 d1 l:D} (hl:l.l.length<=50000): ∀(j i:Nat),i+j=l.l.length->dE 23501 [enc l,(l.l.length:Int),(i:Int),enc d0,enc d1] (fun ys=>ys= [0]/\(∃e∈l.l,¬Ux d0 d1 e)\/ys= [1]/\∀e∈l.l.drop i,Ux d0 d1 e)
 |0,i,hi=>by
  have c1: ¬(i:Int)<(l.l.length:Int):=J
  refine dE.of ?_;rw [OG,al3 J];simp only [MG,zz,c1,if_true,if_false];exact .out (.inr ⟨rfl,fun e he=>by simp at he⟩)
 |j+1,i,hi=>by
  have ei:i<l.l.length:=J
  have c1:(i:Int)<(l.l.length:Int):=J
  have c2: ¬(i:Int)<0:=J
  have w:=bP (n:=i) J;have hm:=aF ei;have no: ∀{ys:List Int},ys= [0]->¬Ux d0 d1 l.l[i]->(ys= [0]/\(∃e∈l.l,¬Ux d0 d1 e)\/ys= [1]/\∀e∈l.l.drop i,Ux d0 d1 e):=fun h Z=> .inl ⟨h,_,hm,Z⟩;obtain⟨ys,hL,hq⟩:=Cy (d0:=d0) (d1:=d1) hl j (i+1) J;refine dE.of ?_;rw [OG];simp only [MG,zz,c1,c2,w,cB ei,if_true,if_false];refine .ite (fun h=> .out (no rfl fun q=>by have:=q.1; omega)) (fun a1=> .ite (fun a2=> .ite (fun h=> .out (no rfl fun q=>by have:=q.2.2.1; omega)) (fun a3=> .ite (fun a4=> .jump ⟨ys,hL,?_⟩) (fun h=> .out (no rfl fun q=>h q.2.2.2)))) (fun h=> .out (no rfl fun q=>h q.2.1)));rcases hq with hq|⟨rfl,hq⟩
  ·exact .inl hq
  ·refine .inr ⟨rfl,fun e he=>?_⟩;rw [bp ei] at he;rcases ax.1 he with rfl|he
   ·exact⟨J,a2,J,a4⟩
   ·exact hq e he
theorem UY {d0 d1 l:D} (hC:L 450 [enc d0,enc d1]=some [0]) (hl:l.l.length<=50000):L 23500 [enc d0,enc d1,enc l]=some [0]/\(∃e∈l.l,¬Ux d0 d1 e)\/L 23500 [enc d0,enc d1,enc l]=some [1]/\∀e∈l.l,Ux d0 d1 e:=by
 obtain⟨ys,hL,hq⟩:=Cy (d0:=d0) (d1:=d1) hl l.l.length 0 J
 have e:L 23500 [enc d0,enc d1,enc l]=some ys:=by rw [bN,YN];simp only [Vx,zz,hC,bD];exact hL
 rcases hq with ⟨rfl,h⟩|⟨rfl,h⟩
 ·exact .inl ⟨e,h⟩
 ·exact .inr ⟨e,by rwa [alN] at h⟩
def at2 (a:D) (t:Int):Int:=if t<(a.l.length:Int) then (a.at t).n else 0
noncomputable def Xk (l all:D) (j:Nat) (th op ob:Int) (F:D) (x:D):D:=
 if (ec F.l (.i ob)).isSome=true then F else
 if ((l.at x.n).hd 0).n=th then F else
 if ((l.at x.n).hd 1).n=23\/op=23 then
  (if at2 (all.at (j:Int)) ((l.at x.n).hd 0).n<at2 (all.at x.n) ((l.at x.n).hd 0).n then dL (ib F.l (.i ob) (dL [.i ob,.i x.n,.i (j:Int)])) else F)
 else F
def SI (j:Nat) (S:D):Prop:= ∀k v,ec S.l k=some v->v.l≠[]/\v.l.length<=j/\∀x∈v.l,0<=x.n/\x.n<(j:Int)
theorem ajV:SI 0 (.i 0):=fun k v h=>by simp [D.l,ec] at h
section
variable {d0 d1 l all:D} (hR: ∀e∈l.l,Ux d0 d1 e) (hl:l.l.length<=50000) (ha:all.l.length=l.l.length)
include hR hl ha
theorem KD {s S:D} {j:Nat} {th op ob a b:Int} (hj:j<l.l.length) (hs: ∀x∈s.l,0<=x.n/\x.n<(j:Int)) (hsl:s.l.length<=50000): ∀(m i:Nat) (F:D),i+m=s.l.length->
 L 23605 [enc l,enc all,(j:Int),(l.l.length:Int),enc s,(s.l.length:Int),(i:Int),enc d0,enc d1,enc S,ob,enc F,th,op,a,b]=L 23601 [enc l,enc all,(l.l.length:Int),((j+1:Nat):Int),enc d0,enc d1,enc (dL (ib S.l (.i ob) (dL (s.l++ [.i (j:Int)])))),enc ((s.l.drop i).foldl (Xk l all j th op ob) F)]
 |0,i,F,hi=>by
  have c1: ¬(i:Int)<(s.l.length:Int):=J
  have c2:(s.l.length:Int)<17592186044415:=J
  have w:=bP (n:=j) J;rw [al3 J,bN 23605,OA];simp only [Mz,zz,c1,c2,w,bD,List.foldl_nil]
 |m+1,i,F,hi=>by
  have ei:i<s.l.length:=J
  have c1:(i:Int)<(s.l.length:Int):=J
  have c2: ¬(i:Int)<0:=J
  have w:=bP (n:=i) J;obtain⟨x0,x1⟩:=hs _ (aF ei);obtain⟨k,hk⟩ : ∃k:Nat,(s.l[i]).n=(k:Int):=⟨(s.l[i]).n.toNat,J⟩;have c3: ¬(s.l[i]).n<0:=J
  have c4:(s.l[i]).n<(l.l.length:Int):=J
  have c5:(s.l[i]).n<(all.l.length:Int):=J
  have c6: ¬(j:Int)<0:=J
  have c7:(j:Int)<(all.l.length:Int):=J
  have Jx:k<l.l.length:=J
  have hev:l.at (s.l[i]).n=l.l[k]:=by rw [hk]; exact cB Jx
  have c8: ¬((l.at (s.l[i]).n).hd 0).n<0:=by have:=(hR _ (aF Jx)).1; rw [hev]; omega
  have ih:=fun F=>KD hj hs hsl m (i+1) F J (S:=S) (th:=th) (op:=op) (ob:=ob) (a:=a) (b:=b);rw [bp ei,amM,<- ih,bN 23605,OA];unfold Xk at2;simp only [Mz,zz,c1,c2,c3,c4,c5,c6,c7,c8,w,cB ei];generalize ((l.at (s.l[i]).n).hd 0).n=t at *;generalize ((l.at (s.l[i]).n).hd 1).n=q at *;generalize all.at (s.l[i]).n=u at *;generalize all.at (j:Int)=v at *;by_cases f0:(ec F.l (.i ob)).isSome=true
  ·simp only [f0,if_true,bF,if_false,bD,reduceIte]
  ·by_cases f1:t=th
   ·simp only [f0,f1,if_true,if_false,bD,reduceIte,aL]
   ·by_cases g1:t<(u.l.length:Int)<;>by_cases g2:t<(v.l.length:Int)<;>by_cases f2:q=23<;>by_cases f3:op=23<;>
      simp only [f0,f1,f2,f3,g1,g2,c8,if_true,if_false,or_self,or_true,true_or,bD,reduceIte,aL,iH,kY,aA]<;>(try split)<;>simp_all only [bD,if_true,if_false,reduceIte]
noncomputable def Wm (d0 l all:D) (j:Nat) (p:D×D):D×D:=
 if ((d0.at ((l.at (j:Int)).hd 2).n).hd 0).n=9/\(((l.at (j:Int)).hd 1).n=22\/((l.at (j:Int)).hd 1).n=23) then
  match ec p.1.l (.i ((l.at (j:Int)).hd 2).n) with
  |none=>(dL (ib (ib p.1.l (.i ((l.at (j:Int)).hd 2).n) (.i 0)) (.i ((l.at (j:Int)).hd 2).n) (dL [.i (j:Int)])),p.2)
  |some v=>(dL (ib p.1.l (.i ((l.at (j:Int)).hd 2).n) (dL (v.l++ [.i (j:Int)]))),v.l.foldl (Xk l all j ((l.at (j:Int)).hd 0).n ((l.at (j:Int)).hd 1).n ((l.at (j:Int)).hd 2).n) p.2)
 else p
omit hR hl ha in
theorem adK {S:D} {j:Nat} {k v:D} (h:SI j S) (hv:v.l≠[]/\v.l.length<=j+1/\∀x∈v.l,0<=x.n/\x.n<((j+1:Nat):Int)):SI (j+1) (dL (ib S.l k v)):=by
 intro k' v' h';rw [bM,ry] at h';split at h'
 ·simp only [ag] at h';exact h'▸hv
 ·obtain⟨a,b,c⟩:=h k' v' h';exact⟨a,J,fun x hx=>by have:=c x hx; omega⟩
omit hR hl ha in
theorem Pn {S:D} {j:Nat} (h:SI j S):SI (j+1) S:=fun k v hv=>by obtain⟨a,b,c⟩:=h k v hv;exact⟨a,J,fun x hx=>by have:=c x hx; omega⟩
omit hR hl ha in
theorem adP {j:Nat} {p:D×D} (h:SI j p.1):SI (j+1) (Wm d0 l all j p).1:=by
 unfold Wm;split
 ·split
  ·refine fun k v hv=>?_;rw [bM,ry] at hv;split at hv
   ·simp only [ag] at hv;subst hv;rw [bM];exact⟨ad,ad,fun x hx=>by simp at hx; subst hx; show 0<=(j:Int)/\(j:Int)<_; omega⟩
   ·rw [ry,af (by assumption)] at hv;exact Pn h k v hv
  ·rename_i v hv;obtain⟨a,b,c⟩:=h _ v hv;refine adK h ?_;rw [bM];refine⟨ad,by simp; omega,fun x hx=>?_⟩;rcases alJ.1 hx with hx|hx
   ·have:=c x hx; omega
   ·simp at hx; subst hx; show 0<=(j:Int)/\(j:Int)<_; omega
 ·exact Pn h
theorem ahu {j:Nat} {p:D×D} (hj:j<l.l.length) (h:SI j p.1) :
 L 23601 [enc l,enc all,(l.l.length:Int),(j:Int),enc d0,enc d1,enc p.1,enc p.2]=L 23601 [enc l,enc all,(l.l.length:Int),((j+1:Nat):Int),enc d0,enc d1,enc (Wm d0 l all j p).1,enc (Wm d0 l all j p).2]:=by
 have c1:(j:Int)<(l.l.length:Int):=J
 have c2: ¬(j:Int)<0:=J
 have w:=bP (n:=j) J;have E:=hR _ (aF hj);have mB:l.at (j:Int)=l.l[j]:=cB hj;rw [<- mB] at E;have c3: ¬((l.at (j:Int)).hd 2).n<0:=by have:=E.2.2.1; omega
 have c4:=E.2.2.2;have xH:=fun (v:D) (hv:ec p.1.l (.i ((l.at (j:Int)).hd 2).n)=some v)=>KD hR hl ha (S:=p.1) (th:=((l.at (j:Int)).hd 0).n) (op:=((l.at (j:Int)).hd 1).n) (ob:=((l.at (j:Int)).hd 2).n) (a:=((l.at (j:Int)).hd 3).n) (b:=((l.at (j:Int)).hd 4).n) hj (h _ v hv).2.2 (by have:=(h _ v hv).2.1; omega) v.l.length 0 p.2 J;rw [bN 23601,OB];unfold Wm;generalize Jw:((l.at (j:Int)).hd 2).n=ob at *;generalize zu:((l.at (j:Int)).hd 1).n=op at *;generalize hth:((l.at (j:Int)).hd 0).n=th at *;simp only [MA,zz,c1,c2,c3,c4,w,Jw,zu,hth]
 have ad4:ec p.1.l (.i ob)=none->∀x3 x4:Int,L 23602 [enc l,enc all,(j:Int),(l.l.length:Int),enc d0,enc d1,enc p.1,enc p.2,th,op,ob,x3,x4]=L 23601 [enc l,enc all,(l.l.length:Int),((j+1:Nat):Int),enc d0,enc d1,enc (dL (ib (ib p.1.l (.i ob) (.i 0)) (.i ob) (dL [.i (j:Int)]))),enc p.2]:=by intro hf x3 x4;rw [bN 23602,YL];simp only [Vw,zz,hf,w,amZ,aL,if_true,if_false,reduceIte,bD,tn,bM,aC]
 have adI: ∀v:D,ec p.1.l (.i ob)=some v->∀x3 x4:Int,fin L (if ((v.l.length:Nat):Int)=0 then (if enc v=enc (D.i 3) then RS.jump 23603 [enc l,enc all,(j:Int),(l.l.length:Int),enc d0,enc d1,enc p.1,ob,enc p.2,th,op,x3,x4] else RS.jump 23604 [enc l,enc all,(j:Int),(l.l.length:Int),enc v,enc d0,enc d1,enc p.1,ob,enc p.2,th,op,x3,x4]) else RS.jump 23605 [enc l,enc all,(j:Int),(l.l.length:Int),enc v,(v.l.length:Int),0,enc d0,enc d1,enc p.1,ob,enc p.2,th,op,x3,x4])=L 23605 [enc l,enc all,(j:Int),(l.l.length:Int),enc v,(v.l.length:Int),0,enc d0,enc d1,enc p.1,ob,enc p.2,th,op,x3,x4]:=by
  intro v hf x3 x4
  have hv: ¬((v.l.length:Nat):Int)=0:=by intro e;exact (h _ v hf).1 (alP.1 J)
  rw [af hv,bD]
 have done: ∀v:D,ec p.1.l (.i ob)=some v->L 23605 [enc l,enc all,(j:Int),(l.l.length:Int),enc v,(v.l.length:Int),0,enc d0,enc d1,enc p.1,ob,enc p.2,th,op,((l.at (j:Int)).hd 3).n,((l.at (j:Int)).hd 4).n]=L 23601 [enc l,enc all,(l.l.length:Int),((j+1:Nat):Int),enc d0,enc d1,enc (dL (ib p.1.l (.i ob) (dL (v.l++ [.i (j:Int)])))),enc (v.l.foldl (Xk l all j th op ob) p.2)]:=by intro v hf;have:=xH v hf;rw [alN] at this;exact this
 by_cases f0:((d0.at ob).hd 0).n=9
 ·have case:op=22\/op=23->fin L (if (if (ec p.1.l (D.i ob)).isSome=true then (1:Int) else 0)=0 then RS.jump 23602 [enc l,enc all,(j:Int),(l.l.length:Int),enc d0,enc d1,enc p.1,enc p.2,th,op,ob,((l.at (j:Int)).hd 3).n,((l.at (j:Int)).hd 4).n] else (if ((((ec p.1.l (D.i ob)).getD (D.i 0)).l.length:Nat):Int)=0 then (if enc ((ec p.1.l (D.i ob)).getD (D.i 0))=enc (D.i 3) then RS.jump 23603 [enc l,enc all,(j:Int),(l.l.length:Int),enc d0,enc d1,enc p.1,ob,enc p.2,th,op,((l.at (j:Int)).hd 3).n,((l.at (j:Int)).hd 4).n] else RS.jump 23604 [enc l,enc all,(j:Int),(l.l.length:Int),enc ((ec p.1.l (D.i ob)).getD (D.i 0)),enc d0,enc d1,enc p.1,ob,enc p.2,th,op,((l.at (j:Int)).hd 3).n,((l.at (j:Int)).hd 4).n]) else RS.jump 23605 [enc l,enc all,(j:Int),(l.l.length:Int),enc ((ec p.1.l (D.i ob)).getD (D.i 0)),(((ec p.1.l (D.i ob)).getD (D.i 0)).l.length:Int),0,enc d0,enc d1,enc p.1,ob,enc p.2,th,op,((l.at (j:Int)).hd 3).n,((l.at (j:Int)).hd 4).n]))=L 23601 [enc l,enc all,(l.l.length:Int),((j+1:Nat):Int),enc d0,enc d1,
   enc (if ((d0.at ob).hd 0).n=9/\(op=22\/op=23) then (match ec p.1.l (D.i ob) with
    |none=>(dL (ib (ib p.1.l (.i ob) (.i 0)) (.i ob) (dL [.i (j:Int)])),p.2)
    |some v=>(dL (ib p.1.l (.i ob) (dL (v.l++ [.i (j:Int)]))),v.l.foldl (Xk l all j th op ob) p.2)) else p).1,
   enc (if ((d0.at ob).hd 0).n=9/\(op=22\/op=23) then (match ec p.1.l (D.i ob) with
    |none=>(dL (ib (ib p.1.l (.i ob) (.i 0)) (.i ob) (dL [.i (j:Int)])),p.2)
    |some v=>(dL (ib p.1.l (.i ob) (dL (v.l++ [.i (j:Int)]))),v.l.foldl (Xk l all j th op ob) p.2)) else p).2]:=by
   intro ho;simp only [f0,ho,and_self,if_true]
   cases hf:ec p.1.l (D.i ob) with
   |none=> simp only [amZ,aL,if_true,if_false,reduceIte,bD];exact ad4 hf _ _
   |some v=> simp only [bo,az,if_true,if_false,bF,reduceIte];rw [adI v hf];exact done v hf
  rw [ah f0];by_cases o2:op=22
  ·rw [ah o2]
   exact case (.inl o2)
  ·rw [af o2];by_cases o3:op=23
   ·rw [ah o3]
    exact case (.inr o3)
   ·rw [af o3,af (fun q=>by rcases q.2 with q|q; exact o2 q; exact o3 q),bD]
 ·rw [af f0,af (fun q=>f0 q.1),bD]
noncomputable def tk (d0 l all:D):Nat->D×D
 |0=>(.i 0,.i 0)
 |j+1=>Wm d0 l all j (tk d0 l all j)
omit hR hl ha in
theorem CY: ∀j:Nat,SI j (tk d0 l all j).1
 |0=>ajV
 |j+1=>adP (CY j)
theorem Pv: ∀j:Nat,j<=l.l.length->L 23601 [enc l,enc all,(l.l.length:Int),0,enc d0,enc d1,enc (.i 0),enc (.i 0)]=L 23601 [enc l,enc all,(l.l.length:Int),(j:Int),enc d0,enc d1,enc (tk d0 l all j).1,enc (tk d0 l all j).2]
 |0,_=>rfl
 |j+1,h=>by rw [Pv j J,ahu hR hl ha J (CY j)];rfl
omit hR hl ha in
theorem adX {F:D} {n:Nat} (hn:n<=1000): ∀(m k:Nat) (acc:D),k+m=n->acc.l.length<=k->∃r:D,L 23607 [enc acc,(n:Int),(k:Int),enc F]=some [enc r]/\acc.l.length<=r.l.length
 |0,k,acc,h,Z=>by
  have c1: ¬(k:Int)<(n:Int):=J
  refine⟨acc,?_,au _⟩;rw [bN,I7];simp only [HB,zz,c1,bQ]
 |m+1,k,acc,h,Z=>by
  have c1:(k:Int)<(n:Int):=J
  have c2:(acc.l.length:Int)<5864062014804:=J
  have w:=bP (n:=k) J
  cases hf:ec F.l (.i (k:Int)) with
  |none=> obtain⟨r,h3,h4⟩:=adX (F:=F) hn m (k+1) acc J J;refine⟨r,?_,h4⟩;rw [bN,I7];simp only [HB,zz,c1,w,hf,amZ,aL,if_true,if_false,reduceIte,bD];exact h3
  |some v=> obtain⟨r,h3,h4⟩:=adX (F:=F) hn m (k+1) (dL (acc.l++ [dL [.i (v.hd 0).n,.i (v.hd 1).n,.i (v.hd 2).n]])) J (by rw [bM]; simp; omega);refine⟨r,?_,by rw [bM] at h4; simp at h4; omega⟩;rw [bN,I7];simp only [HB,zz,c1,c2,w,hf,bo,az,if_true,if_false,bF,reduceIte,bD];exact h3
omit hR hl ha in
theorem ahH {F:D} {n:Nat} (hn:n<=1000): ∀(m k:Nat),k+m=n->∃r:D,L 23606 [(n:Int),(k:Int),enc F]=some [enc r]/\(0<r.l.length↔∃i:Nat,k<=i/\i<n/\(ec F.l (.i (i:Int))).isSome=true)
 |0,k,h=>by
  have c1: ¬(k:Int)<(n:Int):=J
  refine⟨.i 1,?_,⟨fun q=>by simp [D.l] at q,fun⟨i,a,b,_⟩=>by omega⟩⟩;rw [bN,I8];simp only [HC,zz,c1,bQ]
 |m+1,k,h=>by
  have c1:(k:Int)<(n:Int):=J
  have w:=bP (n:=k) J
  cases hf:ec F.l (.i (k:Int)) with
  |none=>
   obtain⟨r,h3,h4⟩:=ahH (F:=F) hn m (k+1) J;refine⟨r,?_,h4.trans ⟨fun⟨i,a,b,c⟩=> ⟨i,J,b,c⟩,fun⟨i,a,b,c⟩=> ⟨i,?_,b,c⟩⟩⟩
   ·rw [bN,I8];simp only [HC,zz,c1,w,hf,amZ,aL,if_true,if_false,reduceIte,bD];exact h3
   ·by_cases e:i=k
    ·subst e;rw [hf] at c;simp at c
    ·omega
  |some v=> obtain⟨r,h3,h4⟩:=adX (F:=F) hn m (k+1) (dL [dL [.i (v.hd 0).n,.i (v.hd 1).n,.i (v.hd 2).n]]) J (by rw [bM]; simp);refine⟨r,?_,⟨fun _=> ⟨k,J,J,by rw [hf]; rfl⟩,fun _=>by rw [bM] at h4; simp at h4; omega⟩⟩;rw [bN,I8];simp only [HC,zz,c1,w,hf,bo,az,if_true,if_false,bF,reduceIte,bD,tn,aC];exact h3
end
theorem S5 {l all l' td:D} {j:Nat} {th op ob:Int} {F x:D} (hx:0<=x.n/\x.n<(j:Int)) (hA: ∀i:Nat,i<=j->l.at (i:Int)=l'.at (i:Int)/\all.at (i:Int)=td.at (i:Int)):Xk l all j th op ob F x=Xk l' td j th op ob F x:=by obtain⟨k,hk⟩ : ∃k:Nat,x.n=(k:Int):=⟨x.n.toNat,J⟩;have U:=(hA k J).1;have Z:=(hA k J).2;have h3:=(hA j (au _)).2;unfold Xk;rw [hk,U,Z,h3]
theorem Dt {l all l' td:D} {j:Nat} {th op ob:Int} (hA: ∀i:Nat,i<=j->l.at (i:Int)=l'.at (i:Int)/\all.at (i:Int)=td.at (i:Int)): ∀{xs:List D} {F:D},(∀x∈xs,0<=x.n/\x.n<(j:Int))->xs.foldl (Xk l all j th op ob) F=xs.foldl (Xk l' td j th op ob) F
 |[],_,_=>rfl
 |x::xs,F,h=>by rw [amM,amM,S5 (h x (List.mem_cons_self ..)) hA];exact Dt hA fun y hy=>h y (amX _ hy)
theorem SA {d0 l all l' td:D} {j:Nat} {p:D×D} (h:SI j p.1) (hA: ∀i:Nat,i<=j->l.at (i:Int)=l'.at (i:Int)/\all.at (i:Int)=td.at (i:Int)):Wm d0 l all j p=Wm d0 l' td j p:=by
 have U:=(hA j (au _)).1;unfold Wm;rw [U];split
 ·split
  ·rfl
  ·rename_i v hv;rw [Dt hA (h _ v hv).2.2]
 ·rfl
theorem AX {d0 l all l' td:D}: ∀j:Nat,(∀i:Nat,i<j->l.at (i:Int)=l'.at (i:Int)/\all.at (i:Int)=td.at (i:Int))->tk d0 l all j=tk d0 l' td j
 |0,_=>rfl
 |j+1,hA=>by have ih:=AX (d0:=d0) j fun i hi=>hA i J;show Wm d0 l all j (tk d0 l all j)=Wm d0 l' td j (tk d0 l' td j);rw [<- ih];exact SA (CY j) fun i hi=>hA i J
theorem afs {d d':D} (h:d.l=d'.l) (i:Nat) (hi:i<d.l.length):d.at (i:Int)=d'.at (i:Int):=by rw [cB hi,cB (h▸hi)];simp only [h]
def alb (d0 d1:D) (es:List D):Prop:=(∀e∈es,Ux d0 d1 e)/\∃i:Nat,i<d0.l.length/\(ec (tk d0 (dL es) (dL (u5 d0 d1 es)) es.length).2.l (.i (i:Int))).isSome=true
theorem Ws {d0 d1:D} (hC:L 450 [enc d0,enc d1]=some [0]) (hd:d0.l.length<=1000) (l:D) (hl:l.l.length<=50000): ∃r:D,L 23600 [enc d0,enc d1,enc l]=some [enc r]/\(0<r.l.length↔alb d0 d1 l.l):=by
 rcases UY (l:=l) hC hl with ⟨hT,e,he,hn⟩|⟨hT,hR⟩
 ·refine⟨.i 1,?_,⟨fun q=>by simp [D.l] at q,fun q=>absurd (q.1 e he) hn⟩⟩;rw [bN,OC];simp only [MC,zz,hT,bQ]
 ·obtain⟨all,hA,NN⟩:=TN hR hl;have ha:all.l.length=l.l.length:=by rw [NN,OS]
  obtain⟨r,h3,h4⟩:=ahH (F:=(tk d0 l all l.l.length).2) hd d0.l.length 0 J;have c1: ¬(l.l.length:Int)<(l.l.length:Int):=J
  refine⟨r,?_,h4.trans ?_⟩
  ·rw [bN,OC];simp only [MC,zz,hT,hA,bF,if_false,reduceIte,bD];rw [Pv hR hl ha _ (au _),bN,OB];simp only [MA,zz,c1,bD];exact h3
  ·have e:tk d0 l all l.l.length=tk d0 (dL l.l) (dL (u5 d0 d1 l.l)) l.l.length:=AX _ fun i hi=> ⟨afs (by rw [bM]) i hi,afs (by rw [bM,NN]) i J⟩;rw [e];exact⟨fun⟨i,_,b,c⟩=> ⟨hR,i,b,c⟩,fun⟨_,i,b,c⟩=> ⟨i,alT _,b,c⟩⟩
theorem Kp {es:D} (hl:es.l.length<=50000): ∀(j i:Nat),i+j=es.l.length->dE 25301 [enc es,(es.l.length:Int),(i:Int)] (fun ys=> ∃z:Int,ys= [z])
 |0,i,hi=>by
  have c1: ¬(i:Int)<(es.l.length:Int):=J
  refine dE.of ?_;rw [Ot];simp only [Mu,zz,c1,if_true,if_false];exact .out ⟨_,rfl⟩
 |j+1,i,hi=>by
  have c1:(i:Int)<(es.l.length:Int):=J
  have c2: ¬(i:Int)<0:=J
  have w:=bP (n:=i) J;have ih:=Kp hl j (i+1) J;refine dE.of ?_;rw [Ot];simp only [Mu,zz,c1,c2,w,if_true,if_false];exact .ite (fun _=> .out ⟨_,rfl⟩) (fun _=> .jump ih)
theorem K! {es:D} (hl:es.l.length<=50000): ∃b:Int,L 25200 [enc es]=some [b]/\(b=0\/b=1):=by
 obtain⟨ys,hL,z,rfl⟩:=Kp hl es.l.length 0 J
 have Z:L 25300 [enc es]=some [z]:=by rw [bN,YE];simp only [Vs,zz,bD];exact hL
 by_cases hz:z<0
 ·refine⟨0,?_,.inl rfl⟩;rw [bN,Ou];simp only [Mv,zz,Z,hz,bQ]
 ·refine⟨1,?_,.inr rfl⟩;rw [bN,Ou];simp only [Mv,zz,Z,hz,bQ]
noncomputable def FY (d0 d1:D):PS:=⟨kf d0,me d1,[]⟩
noncomputable def J5 (d0 d1:D) (l:List D):PS:=if 0<d1.l.length then CT d0 d1 (FY d0 d1) (l.map (F! d1)) else FY d0 d1
section
variable {d0 d1:D} (h0:Wd (.sl 3) d0) (U:Wd (.sl 4) d1) (hC:L 450 [enc d0,enc d1]=some [0])
include h0 U hC
theorem abn:L 1450 [enc d0,enc d1]=some [enc (kf d0),enc (me d1),0]/\POk d1 (FY d0 d1) 0/\ug d0 d1:=by obtain⟨ys,hC',c,rfl,hc,oE⟩:=rK h0 U;rw [hC] at hC';simp only [ag,List.cons.injEq,and_true] at hC';subst hC';have ok:=(oE rfl).1;exact⟨S1 U hC ok,⟨VW h0 U ok,Mp d1,au _⟩,ok⟩
theorem Wy (q:D) (hq:q.l.length<=1000):L 2400 [enc d0,enc d1,enc q]=some (Fa (J5 d0 d1 q.l))/\POk d1 (J5 d0 d1 q.l) q.l.length:=by
 obtain⟨hB,P,_⟩:=abn h0 U hC;unfold J5;by_cases hn:0<d1.l.length
 ·rw [ah hn];have hQ:=Pr h0 U (q.l.map (F! d1)) _ 0 P (by rw [alH]; omega);rw [alH,ay] at hQ;exact⟨E? h0 U hn hB P q J,hQ⟩
 ·rw [af hn];refine⟨?_,P.sx.mono (alT _),P.lk,by simp [FY]⟩;have c1: ¬(0:Int)<(d1.l.length:Int):=J
  have e:Fa (FY d0 d1)= [enc (.i 1),enc (kf d0),enc (me d1)]:=by simp [Fa,FY]
  rw [e,bN,YH];simp only [Vt,zz,hB,bD];rw [bN,Rc];by_cases hqz:(0:Int)<(q.l.length:Int)
  ·simp only [AP,zz,hqz,c1,bQ]
  ·simp only [AP,zz,hqz,bQ]
theorem L! (k:Int) (l:List D) (hl:l.length<=1000): ∃b:Int,(b=0\/b=1)/\∀q:D,q.l=l->L 26400 [enc q,enc d0,enc d1,k]=some [enc d0,enc d1,k,b]:=by
 obtain⟨hP,hQ⟩:=Wy h0 U hC (dL l) (by rw [bM]; exact hl);rw [bM] at hQ
 have hP': ∀q:D,q.l=l->L 2400 [enc d0,enc d1,enc q]=some (Fa (J5 d0 d1 l)):=fun q hq=>by have:=(Wy h0 U hC q (by rw [hq]; exact hl)).1;rw [hq] at this;exact this
 clear hP;unfold Fa at hP';generalize J5 d0 d1 l=Q at hQ hP'
 have ky:(if Q.l= [] then D.i 1 else dL Q.l).l.length<=1000:=by
  have:=hQ.ll;split
  ·simp [D.l]
  ·rw [bM]; omega
 generalize (if Q.l= [] then D.i 1 else dL Q.l)=es at hP' ky;obtain⟨ys,hS,hSb⟩:=VY hQ.sx J h0 U
 obtain⟨b1,rfl⟩ : ∃b1:Int,ys= [b1]:=by obtain⟨b,e,_⟩:=hSb;exact⟨b,e⟩
 obtain⟨b2,hM,_⟩:=K! (es:=es) J;obtain⟨r,hR,_⟩:=Ws hC (by have:=(abn h0 U hC).2.2.1; omega) es J
 have key: ∃b:Int,(b=0\/b=1)/\b=(if k=1 then (if b1=0 then 0 else 1) else if k=2 then (if b2=0 then 0 else 1) else if k=3 then (if (0:Int)<(r.l.length:Int) then 1 else 0) else 0):=by
  refine⟨_,?_,rfl⟩;split
  ·split<;>simp
  ·split
   ·split<;>simp
   ·split
    ·split<;>simp
    ·simp
 obtain⟨b,Y,he⟩:=key;refine⟨b,Y,fun q hq=>?_⟩;have hp:=hP' q hq;subst he;rw [bN,Yw];by_cases k1:k=1
 ·by_cases z:b1=0
  ·simp only [tR,zz,hp,hS,k1,z,bQ]
  ·simp only [tR,zz,hp,hS,k1,z,bQ]
 ·by_cases k2:k=2
  ·by_cases z:b2=0
   ·simp only [tR,zz,hp,hM,k2,z,bQ,Int.reduceEq]
   ·simp only [tR,zz,hp,hM,k2,z,bQ,Int.reduceEq]
  ·by_cases k3:k=3
   ·by_cases z:(0:Int)<(r.l.length:Int)
    ·simp only [tR,zz,hp,hR,k3,z,bQ,Int.reduceEq]
    ·simp only [tR,zz,hp,hR,k3,z,bQ,Int.reduceEq]
   ·simp only [tR,zz,hp,k1,k2,k3,bQ]
noncomputable def qz (d0 d1:D) (k:Int) (l:List D):Int:=low ((L 26400 [enc (dL l),enc d0,enc d1,k]).getD []) 3
theorem Dp (k:Int) (q:D) (hq:q.l.length<=1000):L 26400 [enc q,enc d0,enc d1,k]=some [enc d0,enc d1,k,qz d0 d1 k q.l]/\(qz d0 d1 k q.l=0\/qz d0 d1 k q.l=1):=by
 obtain⟨b,Y,hA⟩:=L! h0 U hC k q.l hq
 have e:qz d0 d1 k q.l=b:=by unfold qz;rw [hA (dL q.l) (bM _)];rfl
 rw [e];exact⟨hA q rfl,Y⟩
theorem KV (k:Int) (q:D) (hq:q.l.length<=1000):L 23650 [enc d0,enc d1,enc q,k]=some [qz d0 d1 k q.l]:=by
 obtain⟨hA,Y⟩:=Dp h0 U hC k q hq;rw [bN,Oz];rcases Y with Y|Y
 ·rw [Y] at hA ⊢;simp only [Hz,zz,hC,hA,bQ]
 ·rw [Y] at hA ⊢;simp only [Hz,zz,hC,hA,bQ,bF]
end
theorem XK {d0 d1:D} {c:Int} (hC:L 450 [enc d0,enc d1]=some [c]) (hc:c≠0) (k:Int) (q:D):L 23650 [enc d0,enc d1,enc q,k]=some [0]:=by rw [bN,Oz];simp only [Hz,zz,hC,hc,bQ]
def pN (h:List D->Int):Nat->List D->Nat->List D
 |0,x,_=>x
 |j+1,x,p=>if h (x.eraseIdx p)=0 then pN h j x (p+1) else pN h j (x.eraseIdx p) p
section
variable {h:List D->Int}
theorem vw: ∀(j:Nat) (x:List D) (p:Nat),(pN h j x p).Sublist x
 |0,x,p=>List.Sublist.refl _
 |j+1,x,p=>by
  rw [pN];split
  ·exact vw j x (p+1)
  ·exact (vw j _ p).trans (List.eraseIdx_sublist ..)
theorem zS: ∀(j:Nat) (x:List D) (p:Nat),h x≠0->h (pN h j x p)≠0
 |0,x,p,hx=>hx
 |j+1,x,p,hx=>by
  rw [pN];split
  ·exact zS j x (p+1) hx
  ·rename_i hn;exact zS j _ p hn
theorem Dc: ∀(j:Nat) (x:List D) (p:Nat),x.length=p+j->(pN h j x p).length=x.length->pN h j x p=x/\∀q,p<=q->q<p+j->h (x.eraseIdx q)=0
 |0,x,p,_,_=> ⟨rfl,fun q a b=>by omega⟩
 |j+1,x,p,hl,he=>by
  rw [pN] at he ⊢;split at he
  ·rename_i h0;rw [ah h0];obtain⟨a,b⟩:=Dc j x (p+1) J he;refine⟨a,fun q U Z=>?_⟩;by_cases e:q=p
   ·subst e; exact h0
   ·exact b q J J
  ·exfalso;have:=(vw (h:=h) j (x.eraseIdx p) p).length_le;rw [anv,ah J] at this;omega
theorem F4: ∀(j:Nat) (x:List D) (p:Nat),(∀q,p<=q->q<p+j->h (x.eraseIdx q)=0)->pN h j x p=x
 |0,x,p,_=>rfl
 |j+1,x,p,hq=>by rw [pN,ah (hq p (au _) J)];exact F4 j x (p+1) fun q a b=>hq q J J
end
def Sl (d:D):Prop:=d.l= []->d= .i 1\/d= .i 2
theorem HM {d:D} {l:List D}:Sl (eW d l):=by
 intro h;rw [ej] at h;subst h;unfold eW;simp only;split
 ·exact .inl rfl
 ·exact .inr rfl
section
variable {d0 d1:D} (h0:Wd (.sl 3) d0) (U:Wd (.sl 4) d1) (hC:L 450 [enc d0,enc d1]=some [0])
include h0 U hC
theorem zR (k:Int) {n:Nat} (hn:n<=1000): ∀(j i g:Nat) (x:D),i+j=n->g<=i->x.l.length=(i-g)+j->Sl x->
 ∃y:D,L 26501 [enc x,(g:Int),(n:Int),(i:Int),enc d0,enc d1,k]=some [enc d0,enc d1,k,enc y]/\y.l=pN (qz d0 d1 k) j x.l (i-g)/\Sl y
 |0,i,g,x,hi,hg,hx,hs=>by
  have c1: ¬(i:Int)<(n:Int):=J
  refine⟨x,?_,rfl,hs⟩;rw [bN,Om];simp only [Mq,zz,c1,bQ]
 |j+1,i,g,x,hi,hg,hx,hs=>by
  obtain⟨p,hp⟩ : ∃p:Nat,p=i-g:=⟨_,rfl⟩;rw [<- hp] at hx ⊢;have c1:(i:Int)<(n:Int):=J
  have c2:(0:Int)<(x.l.length:Int):=J
  have c3:(x.l.length:Int)<17592186044416:=J
  have w:=bP (n:=i) J;have w2:=bP (n:=g) J
  have wp:IntKind.i64.wrap ((i:Int)-(g:Int))=(p:Int):=by rw [show (i:Int)-(g:Int)=(p:Int) by omega];exact lP J J
  have wp1:=bP (n:=p) J;have e1:((p+1:Nat):Int)+((x.l.length:Int)-((p+1:Nat):Int))=(x.l.length:Int):=J
  have e2:(p:Int)+((x.l.length:Int)-((p+1:Nat):Int))=((x.l.length-1:Nat):Int):=J
  have c4: ¬(p:Int)<0:=J
  have c5: ¬((p+1:Nat):Int)<(p:Int):=J
  have c6: ¬(x.l.length:Int)<((p+1:Nat):Int):=J
  have c7: ¬(p:Int)=((p+1:Nat):Int):=J
  have c8: ¬(x.l.length:Int)<(p:Int):=J
  have c9: ¬((p+1:Nat):Int)<0:=J
  have c10: ¬((x.l.length:Int)-((p+1:Nat):Int))<0:=J
  have c11: ¬((x.l.length-1:Nat):Int)<0:=J
  have c12: ¬(x.l.length:Int)<((x.l.length-1:Nat):Int):=J
  have c13:((x.l.length-1:Nat):Int)<(x.l.length:Int):=J
  have c14: ¬(x.l.length:Int)<(x.l.length:Int):=J
  have hE:List.take p x.l++List.drop (p+1) x.l=x.l.eraseIdx p:=(anH ..).symm;have hEl:(x.l.eraseIdx p).length=x.l.length-1:=by rw [anv,ah J]
  have hk:List.take (x.l.length-1) (x.l.eraseIdx p++List.drop (x.l.length-1) x.l)=x.l.eraseIdx p:=by rw [<- hEl,List.take_left]
  have hr: ∀z:List D,List.take (x.l.length-1) (x.l.eraseIdx p++z)=x.l.eraseIdx p:=fun z=>by rw [<- hEl,List.take_left]
  have hlen:(x.l.eraseIdx p++List.drop (x.l.length-1) x.l).length=x.l.length:=by rw [a8,hEl,bq]; omega
  have pE:(x.l.eraseIdx p++List.replicate (x.l.length-(x.l.length-1)) (D.i 0)).length=x.l.length:=by rw [a8,hEl,al9]; omega
  have e3:((x.l.length-1:Nat):Int)+((x.l.length:Int)-((x.l.length-1:Nat):Int))=(x.l.length:Int):=J
  have c15: ¬((x.l.length:Int)-((x.l.length-1:Nat):Int))<0:=J
  obtain⟨Z!,hZ⟩ : ∃Z!:D,Z!=eW (dL (x.l.eraseIdx p++List.replicate (x.l.length-(x.l.length-1)) (D.i 0))) (x.l.eraseIdx p):=⟨_,rfl⟩;have hZl:Z!.l=x.l.eraseIdx p:=by rw [hZ,ej]
  have hZs:Sl Z!:=by rw [hZ]; exact HM
  obtain⟨hK,Y⟩:=Dp h0 U hC k Z! (by rw [hZl,hEl]; omega);rw [hZl] at hK Y;rw [bN,Om,pN];simp only [Mq,zz,c1,c2,c3,w,w2,wp,wp1,e1,e2,e3,c4,c5,c6,c7,c8,c9,c10,c11,c12,c13,c14,c15,ej,bM,aZ,al7,hE,hk,hr,hlen,pE,<- hZ,hK];rcases Y with Y|Y
  ·obtain⟨y,q1,q2,q3⟩:=zR k hn j (i+1) g x J J J hs;rw [show i+1-g=p+1 by omega] at q2;refine⟨y,?_,by rw [ah Y]; exact q2,q3⟩;simp only [Y,if_true,bD];exact q1
  ·obtain⟨y,q1,q2,q3⟩:=zR k hn j (i+1) (g+1) Z! J J (by rw [hZl,hEl]; omega) hZs;rw [show i+1-(g+1)=p by omega,hZl] at q2;refine⟨y,?_,by rw [af (by rw [Y]; decide)]; exact q2,q3⟩;simp only [Y,bF,if_false,bD];exact q1
theorem PI (k:Int) (x:D) (hx:x.l.length<=1000) (hs:Sl x): ∃y:D,L 26500 [enc x,enc d0,enc d1,k]=some [enc d0,enc d1,k,enc y]/\y.l=pN (qz d0 d1 k) x.l.length x.l 0/\Sl y:=by
 obtain⟨y,q1,q2,q3⟩:=zR h0 U hC k hx x.l.length 0 0 x J (au _) J hs;refine⟨y,?_,q2,q3⟩;rw [bN,Yv];by_cases hz:(0:Int)<(x.l.length:Int)
 ·have c3:(x.l.length:Int)<17592186044416:=J
  simp only [Hx,zz,hz,c3,bD];exact q1
 ·rcases hs (alP.1 J) with rfl|rfl
  ·simp only [Hx,zz,hz,bD];exact q1
  ·have i!: ¬enc (D.i 2)=enc (D.i 1):=fun e=>by have:=gN e; simp at this
   simp only [Hx,zz,hz,i!,bD];exact q1
theorem V5 (k:Int): ∀(n:Nat) (x:D),x.l.length=n->n<=1000->Sl x->qz d0 d1 k x.l=1->
 ∃r:D,L 23701 [enc x,enc d0,enc d1,k]=some [enc r]/\Sl r/\qz d0 d1 k r.l=1/\r.l.Sublist x.l/\∀p,p<r.l.length->qz d0 d1 k (r.l.eraseIdx p)=0:=by
 intro n
 induction n using Nat.strongRecOn with
 |_ n ih=>
  intro x hx hn hs hh;obtain⟨y,q1,q2,q3⟩:=PI h0 U hC k x J hs;have lY:=vw (h:=qz d0 d1 k) x.l.length x.l 0;rw [<- q2] at lY;have hy:=zS (h:=qz d0 d1 k) x.l.length x.l 0 (by rw [hh]; decide);rw [<- q2] at hy;have hyl:=lY.length_le;by_cases he:(y.l.length:Int)=(x.l.length:Int)
  ·have hm:=Dc (h:=qz d0 d1 k) x.l.length x.l 0 J (by rw [<- q2]; omega);refine⟨x,?_,hs,hh,List.Sublist.refl _,fun p hp=>hm.2 p J J⟩;rw [bN,I6];simp only [Hy,zz,q1,he,bQ]
  ·have hy1:qz d0 d1 k y.l=1:=by
    rcases (Dp h0 U hC k y J).2 with h|h
    ·exact absurd h hy
    ·exact h
   obtain⟨r,a1,a2,a3,a4,a5⟩:=ih y.l.length J y rfl J q3 hy1;refine⟨r,?_,a2,a3,a4.trans lY,a5⟩;rw [bN,I6];simp only [Hy,zz,q1,he,bD];exact a1
theorem Fy (k:Int) (q:D) (hq:q.l.length<=1000) (hs:Sl q): ∃r:D,L 23700 [enc d0,enc d1,enc q,k]=some [enc r]/\Sl r/\(qz d0 d1 k q.l=0/\r=q\/qz d0 d1 k q.l=1/\qz d0 d1 k r.l=1/\r.l.Sublist q.l/\∀p,p<r.l.length->qz d0 d1 k (r.l.eraseIdx p)=0):=by
 have hH:=KV h0 U hC k q hq;have i!: ¬enc (D.i 2)=enc (D.i 1):=fun e=>by have:=gN e; simp at this
 rcases (Dp h0 U hC k q hq).2 with Y|Y
 ·rw [Y] at hH;refine⟨q,?_,hs,.inl ⟨Y,rfl⟩⟩;rw [bN,Ec];by_cases hz:(0:Int)<(q.l.length:Int)
  ·have c3:(q.l.length:Int)<17592186044416:=J
   simp only [mR,zz,hz,c3,hH,bQ]
  ·rcases hs (alP.1 J) with rfl|rfl
   ·simp only [mR,zz,hz,hH,bQ]
   ·simp only [mR,zz,hz,hH,i!,bQ]
 ·rw [Y] at hH;obtain⟨r,a1,a2,a3,a4,a5⟩:=V5 h0 U hC k _ q rfl hq hs Y;refine⟨r,?_,a2,.inr ⟨Y,a3,a4,a5⟩⟩;rw [bN,Ec];by_cases hz:(0:Int)<(q.l.length:Int)
  ·have c3:(q.l.length:Int)<17592186044416:=J
   simp only [mR,zz,hz,c3,hH,bF,bD];exact a1
  ·rcases hs (alP.1 J) with rfl|rfl
   ·simp only [mR,zz,hz,hH,bF,bD];exact a1
   ·simp only [mR,zz,hz,hH,i!,bF,bD];exact a1
theorem MY (k:Int) (q:D) (hq:q.l.length<=1000) (hs:Sl q) (hm:qz d0 d1 k q.l=0\/∀p,p<q.l.length->qz d0 d1 k (q.l.eraseIdx p)=0):L 23700 [enc d0,enc d1,enc q,k]=some [enc q]:=by
 have hH:=KV h0 U hC k q hq;have i!: ¬enc (D.i 2)=enc (D.i 1):=fun e=>by have:=gN e; simp at this
 rcases (Dp h0 U hC k q hq).2 with Y|Y
 ·obtain⟨r,a1,a2,a3⟩:=Fy h0 U hC k q hq hs;rcases a3 with ⟨_,rfl⟩|⟨h,_⟩
  ·exact a1
  ·omega
 ·have hm:=hm.resolve_left J;rw [Y] at hH;obtain⟨y,q1,q2,q3⟩:=PI h0 U hC k q J hs;rw [F4 _ _ _ fun p a b=>hm p J] at q2;have he:(y.l.length:Int)=(q.l.length:Int):=by rw [q2]
  have a1:L 23701 [enc q,enc d0,enc d1,k]=some [enc q]:=by rw [bN,I6];simp only [Hy,zz,q1,he,bQ]
  rw [bN,Ec];by_cases hz:(0:Int)<(q.l.length:Int)
  ·have c3:(q.l.length:Int)<17592186044416:=J
   simp only [mR,zz,hz,c3,hH,bF,bD];exact a1
  ·rcases hs (alP.1 J) with rfl|rfl
   ·simp only [mR,zz,hz,hH,bF,bD];exact a1
   ·simp only [mR,zz,hz,hH,i!,bF,bD];exact a1
end
theorem Fx {d0 d1:D} {c:Int} (hC:L 450 [enc d0,enc d1]=some [c]) (hc:c≠0) (k:Int) (q:D) (hq:q.l.length<=1000) (hs:Sl q):L 23700 [enc d0,enc d1,enc q,k]=some [enc q]:=by
 have hH:=XK hC hc k q;have i!: ¬enc (D.i 2)=enc (D.i 1):=fun e=>by have:=gN e; simp at this
 rw [bN,Ec];by_cases hz:(0:Int)<(q.l.length:Int)
 ·have c3:(q.l.length:Int)<17592186044416:=J
  simp only [mR,zz,hz,c3,hH,bQ]
 ·rcases hs (alP.1 J) with rfl|rfl
  ·simp only [mR,zz,hz,hH,bQ]
  ·simp only [mR,zz,hz,hH,i!,bQ]
theorem Dh {a b:D} (DG:a.l=b.l) (hl:a.l.length<=1000): ∀(j i:Nat),i+j=a.l.length->L 23901 [enc a,enc b,(i:Int)]=some [1]
 |0,i,hi=>by
  obtain rfl:i=a.l.length:=J
  have c1: ¬(a.l.length:Int)<(a.l.length:Int):=J
  have c2:(a.l.length:Int)=(b.l.length:Int):=by rw [DG]
  rw [bN,Ov];simp only [Mw,zz,c1,c2,if_true,if_false,aA,bQ]
 |j+1,i,hi=>by
  have ei:i<a.l.length:=J
  have hib:i<b.l.length:=by rw [<- DG]; exact ei
  have c1:(i:Int)<(a.l.length:Int):=J
  have c2:(i:Int)<(b.l.length:Int):=J
  have c3: ¬(i:Int)<0:=J
  have w:=bP (n:=i) J;have e:a.at (i:Int)=b.at (i:Int):=afs DG i ei;have ih:=Dh DG hl j (i+1) J;rw [bN,Ov];simp only [Mw,zz,c1,c2,c3,w,e,if_true,if_false,bD];exact ih
theorem vB {a b:D} (DG:a.l=b.l) (hl:a.l.length<=1000):L 23900 [enc a,enc b]=some [1]:=by rw [bN,YI];simp only [Vu,zz,bD];exact Dh DG hl a.l.length 0 J
theorem DB {d0 d1:D} (h0:Wd (.sl 3) d0) (U:Wd (.sl 4) d1): ∀(j i:Nat) (s:Int),i+j=d1.l.length->dE 23851 [s,(d1.l.length:Int),(i:Int),enc d0,enc d1] wg
 |0,i,s,hi=>by
  have c1: ¬(i:Int)<(d1.l.length:Int):=J
  obtain⟨ys,hG,b,rfl,Y⟩:=Tl (d0:=d0) U;refine dE.of ?_;rw [Ow];simp only [My,zz,c1,hG,if_true,if_false];exact .ite (fun _=> .out oS) (fun _=> .ite (fun _=> .out qy) (fun _=> .out oS))
 |j+1,i,s,hi=>by
  have c1:(i:Int)<(d1.l.length:Int):=J
  have c2: ¬(i:Int)<0:=J
  have Y:=U.len;have w:=bP (n:=i) J;refine dE.of ?_;rw [Ow];simp only [My,zz,c1,c2,w,if_true,if_false];exact .jump (DB h0 U j (i+1) _ J)
theorem Tf {d0 d1:D} (h0:Wd (.sl 3) d0) (U:Wd (.sl 4) d1): ∃b:Int,L 23850 [enc d0,enc d1]=some [b]/\(b=0\/b=1):=by obtain⟨ys,hL,b,rfl,Y⟩:=DB h0 U d1.l.length 0 (d0.l.length:Int) J;refine⟨b,?_,Y⟩;rw [bN,YJ];simp only [Vv,zz,bD];exact hL
theorem VX {a p:Int} {A B:List Int} (h:(a::A).Sublist (p::B)):(a=p->A.Sublist B)/\(a≠p->(a::A).Sublist B):=by
 constructor
 ·rintro rfl;exact List.cons_sublist_cons.1 h
 ·intro hn
  cases h with
  |cons _ h=>exact h
  |cons_cons _ h=>exact absurd rfl hn
section
variable {d0 d1 r P:D} {k:Int} (hr:r.l.length<=1000) (hP:P.l.length<=1000)
include hr hP
theorem sj (hH:L 23650 [enc d0,enc d1,enc r,k]=some [1]) (hE:L 23752 [k,enc r,(r.l.length:Int),0,enc d0,enc d1]=some [1]): ∀(j i m:Nat),i+j=P.l.length->m<=r.l.length->((r.l.drop m).map D.n).Sublist ((P.l.drop i).map D.n)->
 L 23751 [k,enc r,(m:Int),enc P,(P.l.length:Int),(i:Int),enc d0,enc d1]=some [1]
 |0,i,m,hi,hm,hs=>by
  have c1: ¬(i:Int)<(P.l.length:Int):=J
  rw [al3 (l:=P.l) J,amF,List.sublist_nil,List.map_eq_nil_iff,List.drop_eq_nil_iff] at hs;have c2:(m:Int)=(r.l.length:Int):=J
  rw [bN,Oy];simp only [CE,zz,c1,c2,hH,bF,if_true,if_false,bD];exact hE
 |j+1,i,m,hi,hm,hs=>by
  have ei:i<P.l.length:=J
  have c1:(i:Int)<(P.l.length:Int):=J
  have c2: ¬(i:Int)<0:=J
  have w:=bP (n:=i) J;rw [bp ei,aw] at hs;rw [bN,Oy];by_cases KN:m<r.l.length
  ·have c3:(m:Int)<(r.l.length:Int):=J
   have c4: ¬(m:Int)<0:=J
   have w2:=bP (n:=m) J;rw [bp KN,aw] at hs;obtain⟨s1,s2⟩:=VX hs;by_cases he:(r.l[m]).n=(P.l[i]).n
   ·simp only [CE,zz,c1,c2,c3,c4,w,w2,cB ei,cB KN,he,if_true,if_false,bD];exact sj hH hE j (i+1) (m+1) J J (s1 he)
   ·simp only [CE,zz,c1,c2,c3,c4,w,w2,cB ei,cB KN,he,if_true,if_false,bD];exact sj hH hE j (i+1) m J hm (by rw [bp KN,aw]; exact s2 he)
  ·have c3: ¬(m:Int)<(r.l.length:Int):=J
   simp only [CE,zz,c1,c2,c3,w,if_true,if_false,bD];exact sj hH hE j (i+1) m J hm (by rw [al3 J]; exact List.nil_sublist _)
omit hP in
theorem Dm (hm: ∀(i:Nat) (q:D),i<r.l.length->q.l=r.l.eraseIdx i->L 23650 [enc d0,enc d1,enc q,k]=some [0]): ∀(j i:Nat),i+j=r.l.length->L 23752 [k,enc r,(r.l.length:Int),(i:Int),enc d0,enc d1]=some [1]
 |0,i,hi=>by
  have c1: ¬(i:Int)<(r.l.length:Int):=J
  rw [bN,Ox];simp only [zD,zz,c1,if_true,if_false,bQ]
 |j+1,i,hi=>by
  have ei:i<r.l.length:=J
  have c1:(i:Int)<(r.l.length:Int):=J
  have c2: ¬(i:Int)<0:=J
  have c3: ¬(r.l.length:Int)<(i:Int):=J
  have c4: ¬((i+1:Nat):Int)<0:=J
  have c5: ¬(r.l.length:Int)<((i+1:Nat):Int):=J
  have w:=bP (n:=i) J;have hE:List.take i r.l++List.drop (i+1) r.l=r.l.eraseIdx i:=(anH ..).symm;have ih:=Dm hm j (i+1) J;have l1:(List.take i r.l).length<=1000:=by rw [bd]; omega
  have l2:(List.drop (i+1) r.l).length<=1000:=by rw [bq]; omega
  have g1:((List.take i r.l).length:Int)<17592186044416:=J
  have g2:((List.drop (i+1) r.l).length:Int)<17592186044416:=J
  have g3:((List.drop (i+1) r.l).length:Int)<17592185044416:=J
  have g4:((List.take i r.l).length:Int)<1000000:=J
  rw [bN,Ox];by_cases z1:((List.take i r.l).length:Int)=0
  ·have t0:List.take i r.l= []:=alP.1 J;by_cases z2:((List.drop (i+1) r.l).length:Int)=0
   ·have t1:List.drop (i+1) r.l= []:=alP.1 J;have hh:=hm i (.i 2) ei (by rw [<- hE,t0,t1]; rfl);simp only [zD,zz,c1,c2,c3,c4,c5,w,aZ,ej,z1,z2,hh,if_true,if_false,bD];exact ih
   ·have hh:=hm i (eW r (List.drop (i+1) r.l)) ei (by rw [ej,<- hE,t0,aC]);simp only [zD,zz,c1,c2,c3,c4,c5,w,aZ,ej,z1,z2,g2,hh,if_true,if_false,bD];exact ih
  ·by_cases z2:((List.drop (i+1) r.l).length:Int)=0
   ·have t1:List.drop (i+1) r.l= []:=alP.1 J;have hh:=hm i (eW r (List.take i r.l)) ei (by rw [ej,<- hE,t1,alZ]);simp only [zD,zz,c1,c2,c3,c4,c5,w,aZ,ej,z1,z2,g1,hh,if_true,if_false,bD];exact ih
   ·have hh:=hm i (dL (List.take i r.l++List.drop (i+1) r.l)) ei (by rw [bM,hE]);simp only [zD,zz,c1,c2,c3,c4,c5,w,aZ,ej,z1,z2,g1,g3,g4,hh,if_true,if_false,bD];exact ih
end
theorem Nq {d0 d1:D} (h0:Wd (.sl 3) d0) (U:Wd (.sl 4) d1) (k:Int) (P:D) (hP:P.l.length<=1000) (hs:Sl P): ∃r:D,L 23700 [enc d0,enc d1,enc P,k]=some [enc r]/\L 23700 [enc d0,enc d1,enc r,k]=some [enc r]/\r.l.length<=1000/\
 (L 23650 [enc d0,enc d1,enc P,k]=some [0]/\r.l=P.l\/L 23650 [enc d0,enc d1,enc P,k]=some [1]/\L 23751 [k,enc r,0,enc P,(P.l.length:Int),0,enc d0,enc d1]=some [1]):=by
 obtain⟨ys,hC,c,rfl,_,oE⟩:=rK h0 U;by_cases hc:c=0
 ·subst hc;obtain⟨r,a1,a2,a3⟩:=Fy h0 U hC k P hP hs;have hH:=KV h0 U hC k P hP;rcases a3 with ⟨Y,rfl⟩|⟨Y,b1,b2,b3⟩
  ·rw [Y] at hH;exact⟨_,a1,a1,hP,.inl ⟨hH,rfl⟩⟩
  ·rw [Y] at hH;have hrl:=b2.length_le;have hHr:=KV h0 U hC k r J;rw [b1] at hHr;refine⟨r,a1,MY h0 U hC k r J a2 (.inr b3),J,.inr ⟨hH,?_⟩⟩;refine sj J hP hHr ?_ P.l.length 0 0 J J (by rw [alN,alN]; exact b2.map _);refine Dm J (fun i q hi hq=>?_) r.l.length 0 J;have:=KV h0 U hC k q (by rw [hq,anv,ah hi]; omega);rw [hq,b3 i hi] at this;exact this
 ·exact⟨P,Fx hC hc k P hP hs,Fx hC hc k P hP hs,hP,.inl ⟨XK hC hc k P,rfl⟩⟩
theorem MX {d0 d1 q:D} {k:Int} (h0:Wd (.sl 3) d0) (U:Wd (.sl 4) d1) (hq:Wd (.sl 0) q):L 23750 [enc d0,enc d1,enc q,k]=some [1]:=by
 obtain⟨b,hG,Y⟩:=Tf h0 U;rw [bN,YK];rcases Y with rfl|rfl
 ·have main: ∀P:D,P.l.length<=30->Sl P->∃r:D,L 23700 [enc d0,enc d1,enc P,k]=some [enc r]/\L 23700 [enc d0,enc d1,enc r,k]=some [enc r]/\L 23900 [enc r,enc r]=some [1]/\L 23900 [enc P,enc P]=some [1]/\(P.l= []->L 23900 [enc (.i 2),enc P]=some [1])/\
   (L 23650 [enc d0,enc d1,enc P,k]=some [0]/\L 23900 [enc r,enc P]=some [1]\/L 23650 [enc d0,enc d1,enc P,k]=some [1]/\L 23751 [k,enc r,0,enc P,(P.l.length:Int),0,enc d0,enc d1]=some [1]):=by
   intro P hP hs;obtain⟨r,a1,a2,a3,a4⟩:=Nq h0 U k P J hs;refine⟨r,a1,a2,vB rfl a3,vB rfl J,fun hn=>vB (by rw [hn]; rfl) (by simp [D.l]),?_⟩;rcases a4 with ⟨Z,h3⟩|h4
   ·exact .inl ⟨Z,vB h3 a3⟩
   ·exact .inr h4
  by_cases h30:30<q.l.length
  ·have c30:(30:Int)<(q.l.length:Int):=J
   have i30:(30:Int).toNat=30:=rfl;obtain⟨r,a1,a2,a3,a4,a5,a6⟩:=main (eW q (q.l.take 30)) (by rw [ej,bd]; omega) HM;rw [ej] at a5 a6;have c3:((q.l.take 30).length:Int)<17592186044416:=by rw [bd]; omega
   have c4: ¬((q.l.take 30).length:Int)=0:=by rw [bd]; omega
   rcases a6 with ⟨b1,b2⟩|⟨b1,b2⟩
   ·simp only [tT,zz,hG,c30,i30,ej,c3,c4,a1,a2,a3,a4,b1,b2,bF,bQ]
   ·simp only [tT,zz,hG,c30,i30,ej,c3,c4,a1,a2,a3,a4,b1,bF,bD];exact b2
  ·have c30: ¬(30:Int)<(q.l.length:Int):=J
   have cx: ¬(q.l.length:Int)<(q.l.length:Int):=J
   have cl:q.l.take q.l.length=q.l:=al7;obtain⟨r,a1,a2,a3,a4,a5,a6⟩:=main (eW q q.l) (by rw [ej]; omega) HM;rw [ej] at a5 a6;have c3:(q.l.length:Int)<17592186044416:=J
   by_cases hz:(q.l.length:Int)=0
   ·have a5':=a5 (alP.1 J);have EO:=eq_true hz;rcases a6 with ⟨b1,b2⟩|⟨b1,b2⟩
    ·simp only [tT,zz,hG,c30,cx,cl,aZ,ej,EO,a1,a2,a3,a5',b1,b2,bF,bQ,reduceIte,aA,Int.reduceLT]
    ·simp only [tT,zz,hG,c30,cx,cl,aZ,ej,EO,a1,a2,a3,a5',b1,bF,bD,reduceIte,aA,Int.reduceLT];exact b2
   ·rcases a6 with ⟨b1,b2⟩|⟨b1,b2⟩
    ·simp only [tT,zz,hG,c30,cx,cl,aZ,ej,c3,hz,a1,a2,a3,a4,b1,b2,bF,bQ]
    ·simp only [tT,zz,hG,c30,cx,cl,aZ,ej,c3,hz,a1,a2,a3,a4,b1,bF,bD];exact b2
 ·simp only [tT,zz,hG,bF,bQ]
end Go.As.Try
end
section
namespace Go.Proofs.YtbmkacliajebmaaGreatDoor.fnShrinkLeast
open Go hiding Stat
open Go.As Go.As.Try Go.Proofs Go.RowKit Go.ChangeShapes Go.WideShapes Go.ChangeAt
set_option maxRecDepth 100000
theorem U!:rG Tryz.prog WC 8 25=some [.sl 3,.sl 4]:=aa
theorem U':rG Tryz.prog WC 8 26=some [.sl 0]:=aa
theorem aeV:rG Tryz.prog WC 8 5=some [.int .u8]:=aa
theorem Ew {H:Type} {enc:TypeId×Value->H} {Z_:World} {t:TypeId} {v:Value} {d:DataW H} {p:List MemPlace} {E9:List CK} (hf:rG Tryz.prog WC 8 t=some E9) (h:DataW.Trod enc Tryz.prog Z_ 0 (fun _=>true) true t v d p) (hw:(d.weights Tryz.prog t).all (·<=reachBytes)=true) :
 ∃ds,Rs (L6 Z_) Z_.heap E9 ds v.cells.toList:=by
 obtain⟨fuel,hx⟩:=h;exact HP H! fuel t 8 E9 v.cells.toList (d,p) hf hx hw
theorem ahI:23750∈S.BI 3:=by
 have h:S.BI 3= [23750]:=aa
 rw [h];simp
theorem ZA (H:Type) (enc:TypeId×Value->H) (Z_:World) (base:Nat) (args:Array Value) (ds gs:List (DataW H)) (before:List MemPlace)
 (EZ: ∀(j:Nat) t v,Tryz.f3.params[j]?=some t->args[j]?=some v->Value.okWide Tryz.prog Z_ .any base t v)
 (hW:DataW.Whole enc Tryz.prog Tryz.f3.params.toList Rows.shrinkLeastSpec.vars false Z_ args.toList ds gs before)
 (gW:(DataW.weightsEach Tryz.prog (Tryz.f3.params.toList++ []) (ds++gs)).all (·<=reachBytes)=true) (xo:Z_.ShapedOpen Tryz.prog) :
 Calls Tryz.prog 3 args Z_ fun e W'=> ∃v,e= .returned v/\Rows.shrinkLeastSpec.post enc Tryz.prog Tryz.f3 false true false false Z_ args v W':=by
 have hW':=hW;obtain⟨p,q,hA0,hV,rfl,hfz,Bg⟩:=hW;have hA:DataW.TrodAll enc Tryz.prog Z_ 0 (fun _=>true) true Tryz.f3.params.toList args.toList ds p:=hA0;rw [Tryz.params3] at hA EZ gW;obtain⟨v0,vs0,d0,ds0,p0,q0,abG,rfl,rfl,h0,r0⟩:=trodAll_cons hA;obtain⟨v1,UM,d1,ds1,p1,q1,rfl,rfl,rfl,U,r1⟩:=trodAll_cons r0;obtain⟨v2,vs2,d2,ds2,p2,q2,rfl,rfl,rfl,Z,r2⟩:=trodAll_cons r1;obtain⟨rfl,rfl,rfl⟩:=trodAll_nil r2;obtain rfl:args= #[v0,v1,v2]:=by cases args; simp_all
 obtain⟨rfl,rfl⟩:=trodVars_none hV;clear hA0;simp only [alZ] at hW';have ff: ∀x∈p0++(p1++p2),x.block<Z_.heap.size:=fun x hx=>by simpa using hW'.lt x (by simpa using hx)
 have akp: ∀x∈p0,x.block<Z_.heap.size:=fun x hx=>ff x (List.mem_append_left _ hx);have ako: ∀x∈p1,x.block<Z_.heap.size:=fun x hx=>ff x (anw _ (List.mem_append_left _ hx));have akn: ∀x∈p2,x.block<Z_.heap.size:=fun x hx=>ff x (anw _ (anw _ hx))
 have aer:(d0.weights Tryz.prog 25).all (·<=reachBytes)=true/\(d1.weights Tryz.prog 26).all (·<=reachBytes)=true/\(d2.weights Tryz.prog 5).all (·<=reachBytes)=true:=by have:(DataW.weightsEach Tryz.prog [25,26,5] [d0,d1,d2]).all (·<=reachBytes)=true:=gW;simp only [DataW.weightsEach,amY,an] at this;exact⟨this.1,this.2.1,this.2.2.1⟩
 obtain⟨es0,R0⟩:=Ew U! h0 aer.1;obtain⟨es1,R1⟩:=Ew U' U aer.2.1;obtain⟨es2,R2⟩:=Ew aeV Z aer.2.2;obtain⟨cs0,rfl,_⟩:=okWide_struct Tryz.underlying25 (EZ 0 25 v0 rfl rfl);have e0:(Value.agg cs0).cells.toList=cs0.toList:=rfl;obtain⟨ad1,iz,aai,rfl⟩:=okWide_slice Tryz.underlying26 (EZ 1 26 v1 rfl rfl);have e1:(Value.slice ad1 iz aai).cells.toList= [.slice ad1 iz aai]:=rfl;obtain⟨z2,rfl⟩:=okWide_int Tryz.underlying5 (EZ 2 5 v2 rfl rfl);have e2:(Value.int .u8 z2).cells.toList= [.int .u8 z2]:=rfl;rw [e0] at R0;rw [e1] at R1;rw [e2] at R2
 match es0,akG:cs0.toList,R0 with
 |[x0,x1],[u0,u1],.cons r0_ w0 (.cons r1_ w1 .nil)=>
  obtain rfl:cs0= #[u0,u1]:=by rw [<- Array.toArray_toList (xs:=cs0),akG]
  match es1,R1 with
  |[x2],.cons r2_ w2 .nil=>
   match es2,R2 with
   |[x3],.cons r3_ w3 .nil=>
    obtain⟨n3,rfl,h3_⟩:=w3.i;have q3:tD (L6 Z_) Z_.heap (.int .u8) n3 (.int .u8 z2):=by cases r3_; rfl
    have hL:=(MX (k:=n3) w0 w1 w2);refine (ZF (g:=3) (j:=23750) (e:=(ajC aaE 82).ent) ahI aa rfl rfl hL xo (vals:=[.agg [u0,u1].toArray,.slice ad1 iz aai,.int .u8 z2]) (fl:=[u0,u1,.slice ad1 iz aai,.int .u8 z2]) (.agg _ [u0,u1] rfl (.one _ _ (.one _ _ .nil))) ⟨_,_,_,_,rfl,rfl,EA r0_,_,_,_,_,rfl,rfl,EA r1_,_,_,_,_,rfl,rfl,EA r2_,_,_,_,_,rfl,rfl,q3,rfl,rfl⟩).mono fun e W' ⟨he,Y⟩=>?_;subst he;exact⟨_,rfl,⟨_,_,_,[],_,[],hW',trodAll_mk1 (shut_bool Tryz.underlying4 _),trodAll_mk3 (Below.trod laidOut aa (of_decide_eq_true aa) h0 Y akp) (Below.trod laidOut aa (of_decide_eq_true aa) U Y ako) (Below.trod laidOut aa (of_decide_eq_true aa) Z Y akn),rfl,Y.frame _,fun h=>by cases h⟩⟩
abbrev Pa:Array Value:=#[.agg #[.slice none 0 0,.slice none 0 0],.slice none 0 0,.int .u8 0]
theorem W4 (os:Os):laidMet Tryz.prog Rows.shrinkLeastRow.laid ((Ae os).forCall (fun _ _=>0) ⟨#[],Pa,[]⟩).memory:=
 laidMet_of_run' 8 aa aa
theorem reads (os:Os) {H:Type} (enc:TypeId×Value->H): ∃places,DataW.whole enc Tryz.prog ((Ae os).forCall (fun _ _=>0) ⟨#[],Pa,[]⟩).memory Tryz.f3.params.toList [] false Pa.toList 8=some ([.agg [.nil,.nil],.nil,.lit (.int .u8 0)],[],places):=
 ⟨[],aa⟩
set_option maxHeartbeats 400000 in
theorem lifted (os:Os) (started:os.Started) (H:Type) (enc:TypeId×Value->H) (F:Stop.Interp) :
 ReturnsInHanded {} Tryz.checked os 3 .any ((OpenSpec.ofChange Rows.shrinkLeastSpec).preRow enc Tryz.prog Tryz.f3 Rows.shrinkLeastRow.domain false Rows.shrinkLeastRow.laid) (((OpenSpec.ofChange Rows.shrinkLeastSpec).at F).post enc Tryz.prog Tryz.f3 false true false false):=by
 obtain⟨places,hx⟩:=reads os enc
 refine returnsInHanded_of_row (C:=Tryz.checked) (s:=OpenSpec.ofChange Rows.shrinkLeastSpec) Try.own started aa Tryz.func3
  (witness_row_at (enc:=enc) (C:=Tryz.checked) false (Ae os) Pa rfl aa aa aa
   (OpenSpec.preRow_of_cond 8 hx aa (fun k hk=>by cases hk) aa (W4 os))) ?_
 intro Z_ base args ds gs before EZ hW _ _ gW _ xo _;exact ZA H enc Z_ base args ds gs before EZ hW gW xo
theorem gM {a b:Bool} (U:a=true) (Z:b=true):(a&&b)=true:=by rw [U,Z]; rfl
theorem closed:joinedFacts Tryz.pinned.checked.prog 3 Tryz.f3 (OpenSpec.ofChange Rows.shrinkLeastSpec).bare Rows.shrinkLeastRow=true:=(gM (gM (gM (gM (gM (gM (gM (gM (gM (gM (gM (gM (gM (gM (gM (gM (gM (gM (gM (gM (gM (gM (gM (gM (gM (gM (gM (gM (gM (gM (gM aa aa) aa) aa) aa) aa) aa) aa) aa) aa) aa) aa) aa) aa) aa) aa) aa) aa) aa) aa) aa) aa) aa) aa) aa) aa) aa) aa) aa) aa) aa) aa)
theorem said:Rows.ShrinkLeastSaid:=
 OpenClaim.holds_of_cond 3 Tryz.f3 rfl rfl rfl rfl rfl rfl rfl ⟨rfl,rfl,rfl,rfl,rfl⟩ rfl rfl rfl rfl rfl aa Tryz.func3 closed
  (of_decide_eq_true aa) (by unfold Func.isWrapper; first |(rw [ah (by decide +kernel)]; kernel_rfl)|(rw [af (by decide +kernel)]; exact⟨rfl,rfl⟩))
  (fun os started H enc _ F=>by rw [OpenClaim.pre_eq_preRow]; exact lifted os started H enc F)
theorem plain (f:FuncId) (fn:Func) (hf:Tryz.pinned.checked.prog.funcNamed "amanuensis/amanuensislaw27.ShrinkLeast" = some f) (tq:Tryz.pinned.checked.prog.funcs[f]?=some fn) :
 false=Tryz.pinned.checked.prog.looks []/\∀(j:Nat) t,fn.params[j]?=some t->Tryz.pinned.checked.prog.wantsStandIn t=false:=by
 obtain rfl:f=3:=Option.some.inj ((show Tryz.prog.funcNamed "amanuensis/amanuensislaw27.ShrinkLeast" = some 3 by kernel_rfl).symm.trans hf) |>.symm;obtain rfl:fn=Tryz.f3:=(Option.some.inj (Tryz.func3.symm.trans tq)).symm;refine⟨aa,fun j t ht=>?_⟩;rw [Tryz.params3] at ht;have hm:=ank ht;simp only [List.mem_toArray,ax,alU,or_false] at hm;rcases hm with rfl|rfl|rfl
 all_goals exact (by kernel_rfl:Tryz.prog.wantsStandIn _=false)
theorem card:Rows.ShrinkLeastCardSaid:=
 Claim7.holds_tied_plain_at .later [] _ _ _ _ said (fun _ h=>by cases h) aa (fun _ h=>by cases h) shrinkLeast_row_tie rfl ⟨rfl,rfl⟩ aa rfl plain aa
end Go.Proofs.YtbmkacliajebmaaGreatDoor.fnShrinkLeast
end

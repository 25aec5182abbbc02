/-
  Proved: the given card of the law WaitsNever: whatever the input, the call returns true and each argument reads afterwards as it did. Conditions: those of the given row alone (its listed package-level variables start as the program's text lays them; each string, slice and map that is handed in lies within a process's addresses).
-/
import Derived.Test.YtlgfoolepdjmoaaGreatDoorAsZN6
set_option linter.unusedSectionVars false
set_option linter.unusedVariables false
set_option linter.unusedSimpArgs false
section
namespace Go.As.Try
open Go hiding Stat Spec shape
open Go.As
set_option maxRecDepth 100000
theorem z5:(∀p:Prop,(p/\False)=False)/\(∀p:Prop,(False/\p)=False)/\(¬True)=False/\(∀p:Prop,(p/\p)=p)/\(∀(a:Int) (l m:List Int),(a::l)++m=a::(l++m))/\(∀l:List Int,[]++l=l)/\((16:Int)=15)=False/\((3:Int)=0)=False/\((15:Int)=16)=False/\(∀ys:List Int,fin L (.out ys)=some ys):=
 ⟨and_false,false_and,not_true_eq_false,and_self,fun _ _ _=>rfl,fun _=>rfl,ad,ad,ad,fun _=>rfl⟩
def UP:Act->Prop
 | .res _ _ _ _ _ _ _ a _=>gq .i64 a
 |_=>True
theorem UP.ite {p:Prop} [Decidable p] {a b:Act} (ha:UP a) (hb:UP b):UP (if p then a else b):=by
 grind
theorem agO {r:D} (h:Wd (.sl 0) r) (i:Nat):gq .i64 (r.at (i:Int)).n:=by
 by_cases hi:i<r.l.length
 ·rw [ct hi];obtain⟨n,hn,hk⟩:=(h.el1 rfl _ (az hi)).i;rw [hn];exact hk
 ·rw [og,anM J];constructor<;>(simp only [ana,UU]; omega)
theorem akt {y:D} {M mo th op arg tries o c dn g:Int} {r v:D} (T:Tg y o c dn g r v) (hr:r.l.length<=140737488351232) (ha:gq .i64 arg):UP (act M mo th op arg tries o c dn g r v):=by
 have hz:gq .i64 0:=⟨J,J⟩;have U:gq .i64 1:=⟨J,J⟩;have w:=@qx;have hv:=agO T.hv 0;have Y:gq .i64 (r.l.length:Int):=⟨J,J⟩;unfold act
 repeat' refine UP.ite ?_ ?_
 all_goals first
  |trivial
  |exact hz
  |exact U
  |exact w _
  |exact T.hc
  |exact ha
  |exact T.hg
  |exact hv
  |exact Y
def oL (I:D) (x:KT) (op e2 e3 e4 oc:Int):KT:=
 if oc=0 then (if op=4 then { x with tr:=if 4611686018427387904<x.tr+1 then 4611686018427387904 else x.tr+1 } else x)
 else if x.w=0 then
  { a:=if (I.hd 0).n=1/\(I.hd 1).n=16/\¬(e2=16/\e4=1) then (I.hd 4).n else x.a+1,lc:=if (I.hd 0).n=1/\¬(I.hd 3).n<0 then dL (fb x.lc.l (I.hd 3).n (.i e4)) else x.lc,w:=if oc=3 then (if e2=15 then 25 else 24) else 0,o:=if oc=3 then e3 else x.o,g:=if oc=3/\e2=15 then e4 else x.g,tr:=0 }
 else { x with w:=0,o:=0,g:=0,tr:=0 }
def evT (e1 e2 e3 e4 e5 oc:Int):List Int:=if oc=0 then [0,0,0,0,0] else [e1,e2,e3,e4,e5]
section
variable {d0 d1 s s' k:D} {t op obj arg tries e1 e2 e3 e4 e5 oc:Int} {x:KT} (C:Cd d0 d1) (ht:t<(k.l.length:Int)) (R:Rt d0 d1 t x)
 (hA:L 400 [enc d0,enc d1,enc s,t,op,obj,arg,tries]=some [enc s',e1,e2,e3,e4,e5,oc]) (h0:oc=0->s'=s) (hx:x.w=0->x.a<(Nc d1 t:Int))
include C ht R hA h0 hx
set_option maxHeartbeats 4000000 in
theorem VI:L 14500 [enc d0,enc d1,t,op,obj,arg,tries,enc s,enc k,x.a,enc x.lc,x.w,x.o,x.g,x.tr]=some (0::enc d0::enc d1::t::op::obj::arg::tries::enc s::enc k::x.a::enc x.lc::x.w::x.o::x.g::x.tr::(evT e1 e2 e3 e4 e5 oc++ [oc,enc s',(oL (Ins d1 t x) x op e2 e3 e4 oc).a,enc (oL (Ins d1 t x) x op e2 e3 e4 oc).lc,(oL (Ins d1 t x) x op e2 e3 e4 oc).w,(oL (Ins d1 t x) x op e2 e3 e4 oc).o,(oL (Ins d1 t x) x op e2 e3 e4 oc).g,(oL (Ins d1 t x) x op e2 e3 e4 oc).tr])):=by
 have c1: ¬t<0:=by have:=R.t0; omega
 have c2:=R.t1;have c3: ¬x.a<0:=by have:=R.ok.1; omega
 have q0:=R.ok.2.2.2.1;have q1:=R.ok.2.2.2.2.1;have wt:IntKind.i64.wrap (x.tr+1)=x.tr+1:=lU J J;rw [bQ,Zj];unfold oL evT;by_cases o0:oc=0
 ·have hs:=h0 o0;subst hs;subst o0;by_cases p4:op=4
  ·subst p4;by_cases pt:4611686018427387904<x.tr+1
   ·simp only [e9,zz,hA,c1,ht,wt,pt,bV,if_true,eq_self,aR,aA]
   ·simp only [e9,zz,hA,c1,ht,wt,pt,bV,if_true,eq_self,if_false,aR,aA]
  ·simp only [e9,zz,hA,c1,ht,p4,bV,if_true,if_false,aR,aA]
 ·by_cases w0:x.w=0
  ·have c4:=hx w0;have F:=C.inf R c4;have ok:=F.ok;have Om:(x.lc.l.length:Int)=(((d1.at t).hd 1).l.length:Int):=R.ok.2.2.1;have hnc:((d1.at t).hd 2).l.length<=140737488351232:=(C.code R.t0 R.t1).len;unfold Nc at c4;have hw:IntKind.i64.wrap (x.a+1)=x.a+1:=lU J J;unfold B! Ins at ok;unfold Ins;by_cases n1:((((d1.at t).hd 2).at x.a).hd 0).n=1
   ·have uH:((((d1.at t).hd 2).at x.a).hd 3).n= -1\/0<=((((d1.at t).hd 2).at x.a).hd 3).n/\((((d1.at t).hd 2).at x.a).hd 3).n<(x.lc.l.length:Int):=by
     grind
    by_cases i0:((((d1.at t).hd 2).at x.a).hd 3).n<0
    ·by_cases tW:((((d1.at t).hd 2).at x.a).hd 1).n=16
     ·by_cases BI:e2=16
      ·by_cases q4:e4=1
       ·by_cases q3:oc=3
        ·simp only [e9,zz,hA,c1,ht,c2,c3,c4,o0,w0,hw,n1,i0,tW,BI,q4,q3,z5]
        ·simp only [e9,zz,hA,c1,ht,c2,c3,c4,o0,w0,hw,n1,i0,tW,BI,q4,q3,z5]
       ·by_cases q3:oc=3
        ·simp only [e9,zz,hA,c1,ht,c2,c3,c4,o0,w0,hw,n1,i0,tW,BI,q4,q3,z5]
        ·simp only [e9,zz,hA,c1,ht,c2,c3,c4,o0,w0,hw,n1,i0,tW,BI,q4,q3,z5]
      ·by_cases sR:e2=15
       ·by_cases q3:oc=3
        ·simp only [e9,zz,hA,c1,ht,c2,c3,c4,o0,w0,hw,n1,i0,tW,BI,sR,q3,z5]
        ·simp only [e9,zz,hA,c1,ht,c2,c3,c4,o0,w0,hw,n1,i0,tW,BI,sR,q3,z5]
       ·by_cases q3:oc=3
        ·simp only [e9,zz,hA,c1,ht,c2,c3,c4,o0,w0,hw,n1,i0,tW,BI,sR,q3,z5]
        ·simp only [e9,zz,hA,c1,ht,c2,c3,c4,o0,w0,hw,n1,i0,tW,BI,sR,q3,z5]
     ·by_cases sR:e2=15
      ·by_cases q3:oc=3
       ·simp only [e9,zz,hA,c1,ht,c2,c3,c4,o0,w0,hw,n1,i0,tW,sR,q3,z5]
       ·simp only [e9,zz,hA,c1,ht,c2,c3,c4,o0,w0,hw,n1,i0,tW,sR,q3,z5]
      ·by_cases q3:oc=3
       ·simp only [e9,zz,hA,c1,ht,c2,c3,c4,o0,w0,hw,n1,i0,tW,sR,q3,z5]
       ·simp only [e9,zz,hA,c1,ht,c2,c3,c4,o0,w0,hw,n1,i0,tW,sR,q3,z5]
    ·have i1:((((d1.at t).hd 2).at x.a).hd 3).n<(x.lc.l.length:Int):=J
     by_cases tW:((((d1.at t).hd 2).at x.a).hd 1).n=16
     ·by_cases BI:e2=16
      ·by_cases q4:e4=1
       ·by_cases q3:oc=3
        ·simp only [e9,zz,hA,c1,ht,c2,c3,c4,o0,w0,hw,n1,i0,i1,tW,BI,q4,q3,z5]
        ·simp only [e9,zz,hA,c1,ht,c2,c3,c4,o0,w0,hw,n1,i0,i1,tW,BI,q4,q3,z5]
       ·by_cases q3:oc=3
        ·simp only [e9,zz,hA,c1,ht,c2,c3,c4,o0,w0,hw,n1,i0,i1,tW,BI,q4,q3,z5]
        ·simp only [e9,zz,hA,c1,ht,c2,c3,c4,o0,w0,hw,n1,i0,i1,tW,BI,q4,q3,z5]
      ·by_cases sR:e2=15
       ·by_cases q3:oc=3
        ·simp only [e9,zz,hA,c1,ht,c2,c3,c4,o0,w0,hw,n1,i0,i1,tW,BI,sR,q3,z5]
        ·simp only [e9,zz,hA,c1,ht,c2,c3,c4,o0,w0,hw,n1,i0,i1,tW,BI,sR,q3,z5]
       ·by_cases q3:oc=3
        ·simp only [e9,zz,hA,c1,ht,c2,c3,c4,o0,w0,hw,n1,i0,i1,tW,BI,sR,q3,z5]
        ·simp only [e9,zz,hA,c1,ht,c2,c3,c4,o0,w0,hw,n1,i0,i1,tW,BI,sR,q3,z5]
     ·by_cases sR:e2=15
      ·by_cases q3:oc=3
       ·simp only [e9,zz,hA,c1,ht,c2,c3,c4,o0,w0,hw,n1,i0,i1,tW,sR,q3,z5]
       ·simp only [e9,zz,hA,c1,ht,c2,c3,c4,o0,w0,hw,n1,i0,i1,tW,sR,q3,z5]
      ·by_cases q3:oc=3
       ·simp only [e9,zz,hA,c1,ht,c2,c3,c4,o0,w0,hw,n1,i0,i1,tW,sR,q3,z5]
       ·simp only [e9,zz,hA,c1,ht,c2,c3,c4,o0,w0,hw,n1,i0,i1,tW,sR,q3,z5]
   ·by_cases sR:e2=15
    ·by_cases q3:oc=3
     ·simp only [e9,zz,hA,c1,ht,c2,c3,c4,o0,w0,hw,n1,sR,q3,z5]
     ·simp only [e9,zz,hA,c1,ht,c2,c3,c4,o0,w0,hw,n1,sR,q3,z5]
    ·by_cases q3:oc=3
     ·simp only [e9,zz,hA,c1,ht,c2,c3,c4,o0,w0,hw,n1,sR,q3,z5]
     ·simp only [e9,zz,hA,c1,ht,c2,c3,c4,o0,w0,hw,n1,sR,q3,z5]
  ·simp only [e9,zz,hA,c1,ht,o0,w0,bV,if_true,if_false,aR,aA]
end
section
variable {d0 d1 s s' k:D} {t op obj arg tries e1 e2 e3 e4 e5 oc:Int} {x:KT} (C:Cd d0 d1) (ht:t<(k.l.length:Int)) (R:Rt d0 d1 t x)
 (hA:L 400 [enc d0,enc d1,enc s,t,op,obj,arg,tries]=some [enc s',e1,e2,e3,e4,e5,oc]) (h0:oc=0->s'=s) (hx:x.w=0->x.a<(Nc d1 t:Int)) (hz:x.lc.l.length=0)
include C ht R hA h0 hx hz
set_option maxHeartbeats 4000000 in
theorem VH:L 14550 [enc d0,enc d1,t,op,obj,arg,tries,enc s,enc k,x.a,enc x.lc,x.w,x.o,x.g,x.tr]=some (0::enc d0::enc d1::t::op::obj::arg::tries::enc s::enc k::x.a::enc x.lc::x.w::x.o::x.g::x.tr::(evT e1 e2 e3 e4 e5 oc++ [oc,enc s',(oL (Ins d1 t x) x op e2 e3 e4 oc).a,(oL (Ins d1 t x) x op e2 e3 e4 oc).w,(oL (Ins d1 t x) x op e2 e3 e4 oc).o,(oL (Ins d1 t x) x op e2 e3 e4 oc).g,(oL (Ins d1 t x) x op e2 e3 e4 oc).tr]))/\(oL (Ins d1 t x) x op e2 e3 e4 oc).lc=x.lc:=by
 have c1: ¬t<0:=by have:=R.t0; omega
 have c2:=R.t1;have c3: ¬x.a<0:=by have:=R.ok.1; omega
 have q0:=R.ok.2.2.2.1;have q1:=R.ok.2.2.2.2.1;have wt:IntKind.i64.wrap (x.tr+1)=x.tr+1:=lU J J;rw [bQ,Zg];unfold oL evT;by_cases o0:oc=0
 ·have hs:=h0 o0;subst hs;subst o0;by_cases p4:op=4
  ·subst p4;by_cases pt:4611686018427387904<x.tr+1
   ·simp only [iK,zz,hA,c1,ht,wt,pt,bV,if_true,eq_self,aR,aA]<;>exact⟨rfl,rfl⟩
   ·simp only [iK,zz,hA,c1,ht,wt,pt,bV,if_true,eq_self,if_false,aR,aA]<;>exact⟨rfl,rfl⟩
  ·simp only [iK,zz,hA,c1,ht,p4,bV,if_true,if_false,aR,aA]<;>exact⟨rfl,rfl⟩
 ·by_cases w0:x.w=0
  ·have c4:=hx w0;have F:=C.inf R c4;have ok:=F.ok;have Om:(x.lc.l.length:Int)=(((d1.at t).hd 1).l.length:Int):=R.ok.2.2.1;have hnc:((d1.at t).hd 2).l.length<=140737488351232:=(C.code R.t0 R.t1).len;unfold Nc at c4;have hw:IntKind.i64.wrap (x.a+1)=x.a+1:=lU J J;unfold B! Ins at ok;unfold Ins;by_cases n1:((((d1.at t).hd 2).at x.a).hd 0).n=1
   ·have uH:((((d1.at t).hd 2).at x.a).hd 3).n= -1\/0<=((((d1.at t).hd 2).at x.a).hd 3).n/\((((d1.at t).hd 2).at x.a).hd 3).n<(x.lc.l.length:Int):=by
     grind
    by_cases i0:((((d1.at t).hd 2).at x.a).hd 3).n<0
    ·by_cases tW:((((d1.at t).hd 2).at x.a).hd 1).n=16
     ·by_cases BI:e2=16
      ·by_cases q4:e4=1
       ·by_cases q3:oc=3
        ·simp only [iK,zz,hA,c1,ht,c2,c3,c4,o0,w0,hw,n1,i0,tW,BI,q4,q3,z5]<;>exact⟨rfl,rfl⟩
        ·simp only [iK,zz,hA,c1,ht,c2,c3,c4,o0,w0,hw,n1,i0,tW,BI,q4,q3,z5]<;>exact⟨rfl,rfl⟩
       ·by_cases q3:oc=3
        ·simp only [iK,zz,hA,c1,ht,c2,c3,c4,o0,w0,hw,n1,i0,tW,BI,q4,q3,z5]<;>exact⟨rfl,rfl⟩
        ·simp only [iK,zz,hA,c1,ht,c2,c3,c4,o0,w0,hw,n1,i0,tW,BI,q4,q3,z5]<;>exact⟨rfl,rfl⟩
      ·by_cases sR:e2=15
       ·by_cases q3:oc=3
        ·simp only [iK,zz,hA,c1,ht,c2,c3,c4,o0,w0,hw,n1,i0,tW,BI,sR,q3,z5]<;>exact⟨rfl,rfl⟩
        ·simp only [iK,zz,hA,c1,ht,c2,c3,c4,o0,w0,hw,n1,i0,tW,BI,sR,q3,z5]<;>exact⟨rfl,rfl⟩
       ·by_cases q3:oc=3
        ·simp only [iK,zz,hA,c1,ht,c2,c3,c4,o0,w0,hw,n1,i0,tW,BI,sR,q3,z5]<;>exact⟨rfl,rfl⟩
        ·simp only [iK,zz,hA,c1,ht,c2,c3,c4,o0,w0,hw,n1,i0,tW,BI,sR,q3,z5]<;>exact⟨rfl,rfl⟩
     ·by_cases sR:e2=15
      ·by_cases q3:oc=3
       ·simp only [iK,zz,hA,c1,ht,c2,c3,c4,o0,w0,hw,n1,i0,tW,sR,q3,z5]<;>exact⟨rfl,rfl⟩
       ·simp only [iK,zz,hA,c1,ht,c2,c3,c4,o0,w0,hw,n1,i0,tW,sR,q3,z5]<;>exact⟨rfl,rfl⟩
      ·by_cases q3:oc=3
       ·simp only [iK,zz,hA,c1,ht,c2,c3,c4,o0,w0,hw,n1,i0,tW,sR,q3,z5]<;>exact⟨rfl,rfl⟩
       ·simp only [iK,zz,hA,c1,ht,c2,c3,c4,o0,w0,hw,n1,i0,tW,sR,q3,z5]<;>exact⟨rfl,rfl⟩
    ·omega
   ·by_cases sR:e2=15
    ·by_cases q3:oc=3
     ·simp only [iK,zz,hA,c1,ht,c2,c3,c4,o0,w0,hw,n1,sR,q3,z5]<;>exact⟨rfl,rfl⟩
     ·simp only [iK,zz,hA,c1,ht,c2,c3,c4,o0,w0,hw,n1,sR,q3,z5]<;>exact⟨rfl,rfl⟩
    ·by_cases q3:oc=3
     ·simp only [iK,zz,hA,c1,ht,c2,c3,c4,o0,w0,hw,n1,sR,q3,z5]<;>exact⟨rfl,rfl⟩
     ·simp only [iK,zz,hA,c1,ht,c2,c3,c4,o0,w0,hw,n1,sR,q3,z5]<;>exact⟨rfl,rfl⟩
  ·simp only [iK,zz,hA,c1,ht,o0,w0,bV,if_true,if_false,aR,aA]<;>exact⟨rfl,rfl⟩
end
structure Sx (s k:D) (n:Nat):Prop where
 g:Gs s n
 wk:Wd (.sl 8) k
 n2s:s≠.i 2
 n2k:k≠.i 2
structure Sw (s k:D) (n:Nat):Prop where
 g:Gs s n
 wk:Wd (.sl 8) k
theorem Sx.sw {s k:D} {n:Nat} (S:Sx s k n):Sw s k n:=⟨S.g,S.wk⟩
theorem Sw.st {s k:D} {n:Nat} (S:Sw s k n):Sk s k:=⟨S.g.wd,S.wk⟩
theorem Sx.st {s k:D} {n:Nat} (S:Sx s k n):Sk s k:=S.sw.st
instance {s k:D} {n:Nat}:CoeOut (Sx s k n) (Sk s k):=⟨Sx.st⟩
instance {s k:D} {n:Nat}:CoeOut (Sw s k n) (Sk s k):=⟨Sw.st⟩
theorem Sx.mono {s k:D} {n m:Nat} (S:Sx s k n) (h:n<=m):Sx s k m:=⟨S.g.mono h,S.wk,S.n2s,S.n2k⟩
abbrev mX (k:D) (t:Int) (x:KT):D:=dL (fb k.l t x.d)
theorem iG (a:D) (l:List D):dL (a::l)= .p a (dL l):=rfl
theorem ku:dL []= .i 0:=rfl
structure HR (d0 d1 s:D) (t op obj arg tries:Int) (n:Nat) (s':D) (e1 e2 e3 e4 e5 oc:Int):Prop where
 eq:L 400 [enc d0,enc d1,enc s,t,op,obj,arg,tries]=some [enc s',e1,e2,e3,e4,e5,oc]
 no:oc=0->s'=s/\e1=0/\e2=0/\e3=0/\e4=0/\e5=0
 oc3:oc=0\/oc=2\/oc=3
 gs:Gs s' (n+1)
 len:s'.l.length=s.l.length
 n2:s≠.i 2->s'≠.i 2
 e3:gq .i64 e3
 e4:gq .i64 e4
theorem PG {d0 d1 s:D} {t op obj arg tries:Int} {n:Nat} (h0:Wd (.sl 3) d0) (U:Wd (.sl 4) d1) (G:Gs s n) (hn:n<17592186043904) (ht:gq .i64 t) (tY:gq .u8 op) (I4:gq .i64 obj) (ha:gq .i64 arg) :
 ∃s' e1 e2 e3 e4 e5 oc,HR d0 d1 s t op obj arg tries n s' e1 e2 e3 e4 e5 oc:=by
 have hf:=G.mI (by omega:n<17592186044415);have z:gq .i64 0:=⟨J,J⟩;by_cases A:Acc d0 d1 s t op obj
 ·obtain⟨_,o,c,dn,g,r,v,T,hL⟩:=H6 (arg:=arg) (tries:=tries) h0 U G.wd hf tY A;rw [IC] at hL;have o0:=A.o0;have o1:=A.o1;obtain⟨i,rfl⟩ : ∃i:Nat,obj=(i:Int):=⟨obj.toNat,J⟩;have hi:i<s.l.length:=J
  have ij:=G.rows _ (az hi);have e:s.l[i]=dL [.i o,.i c,.i dn,.i g,r,v]:=by rw [<- ct hi]; exact T.is
  rw [e] at ij;have hA:=i! (M:=Mx d0 (i:Int)) (mo:=Mo d0 s (i:Int)) (op:=op) (tries:=tries) T (n:=n) ij.1 ij.2 J ht ha;have hE:=akt (M:=Mx d0 (i:Int)) (mo:=Mo d0 s (i:Int)) (th:=t) (op:=op) (tries:=tries) T (by have:=ij.1; have:r.l.length<=n:=this; omega) ha
  have hM:UJ (act (Mx d0 (i:Int)) (Mo d0 s (i:Int)) t op arg tries o c dn g r v)\/0<=Mx d0 (i:Int)/\Mx d0 (i:Int)<(s.l.length:Int):=by
   by_cases h:op=12\/op=24
   ·have:=Ft h0 U G.wd hf tY A h;exact .inr ⟨this.1,this.2.1⟩
   ·exact .inl (HO J J)
  have hg:=P3 G hA o0 o1 hM;have Y:=KL s (i:Int) (Mx d0 (i:Int)) (act (Mx d0 (i:Int)) (Mo d0 s (i:Int)) t op arg tries o c dn g r v);generalize act (Mx d0 (i:Int)) (Mo d0 s (i:Int)) t op arg tries o c dn g r v=B at *
  have hn2:s≠.i 2->rW s (i:Int) (Mx d0 (i:Int)) B≠.i 2:=fun _ he=>by rw [he] at Y;have:(D.i 2).l.length=0:=rfl;omega
  cases B with
  |kE=>exact⟨s,0,0,0,0,0,0,hL,fun _=> ⟨rfl,rfl,rfl,rfl,rfl,rfl⟩,.inl rfl,hg,rfl,fun h=>h,z,z⟩
  |xN=>exact⟨s,t,27,_,_,0,2,hL,fun h=>absurd h J,.inr (.inl rfl),hg,rfl,fun h=>h,I4,qx _⟩
  |res o' c' pb g' r' v' m a oc=>exact⟨_,t,op,_,a,0,oc,hL,fun h=>by have:=hA.2.2.2.2.2.2.2.2.2; omega,.inr hA.2.2.2.2.2.2.2.2.2,hg,Y,hn2,I4,hE⟩
 ·exact⟨s,0,0,0,0,0,0,Nf h0 U G.wd hf tY A,fun _=> ⟨rfl,rfl,rfl,rfl,rfl,rfl⟩,.inl rfl,G.mono (am3 n),rfl,fun h=>h,z,z⟩
noncomputable abbrev stE (d0 d1 s k:D) (t:Int):Nat->Int:=cV L (low [enc d0,enc d1,enc s,enc k,t])
theorem ND {k:D} {t:Int} {x:KT} (h:k=dL k.l) (t0:0<=t) (t1:t<(k.l.length:Int)) (hk:k.at t=x.d):mX k t x=k:=by
 obtain⟨i,rfl⟩ : ∃i:Nat,t=(i:Int):=⟨t.toNat,J⟩;have hi:i<k.l.length:=J
 rw [ct hi] at hk;unfold mX;rw [<- hk];exact eQ h hi
section
variable {d0 d1 s k:D} {t:Int} (S:Sk s k)
include S
theorem PR (hR:L 1550 [enc d0,enc d1,enc s,enc k,t]=some [0]):L 1850 [enc d0,enc d1,enc s,enc k,t]=some [enc s,enc k,0,0,0,0,0,0]:=by
 by_cases hr:t<0\/(k.l.length:Int)<=t
 ·rcases Uy S hr with h|⟨h,he⟩|⟨h,he⟩
  ·have K:eu (stE d0 d1 s k t) mq= .out [enc s,enc k,0,0,0,0,0,0]:=by
    simp only [mq,zz,h,hR,Int.reduceEq]
   rw [bQ,Ca];exact congrArg (fin L) K
  ·subst he
   have K:eu (stE d0 d1 s (.i 1) t) mq= .out [enc s,enc (.i 1),0,0,0,0,0,0]:=by simp only [mq,zz,h,hR,Int.reduceEq]
   rw [bQ,Ca];exact congrArg (fin L) K
  ·subst he
   have K:eu (stE d0 d1 s (.i 2) t) mq= .out [enc s,enc (.i 2),0,0,0,0,0,0]:=by simp only [mq,zz,h,hR,Int.reduceEq]
   rw [bQ,Ca];exact congrArg (fin L) K
 ·obtain⟨i,rfl⟩ : ∃i:Nat,t=(i:Int):=⟨t.toNat,J⟩;have hi:i<k.l.length:=J
  obtain⟨a,lc,w,o,g,tr,T⟩:=iQ S.wk _ (az hi);have h:=HK S hi T;have hs:mX k (i:Int) ⟨a,lc,w,o,g,tr⟩ = k:=ND (Dh S.wk J).sh J J (by rw [ct hi,T.is]);simp only [mX,KT.d,iG,ku] at hs;have ha:w7 lc=3\/w7 lc=4:=by unfold w7; split<;>simp
  have K:eu (stE d0 d1 s k (i:Int)) mq= .out [enc s,enc k,0,0,0,0,0,0]:=by
   rcases ha with ha|ha
   ·rw [ha] at h;simp only [mq,zz,h,hR,hs,Int.reduceEq]
   ·rw [ha] at h;simp only [mq,zz,h,hR,hs,Int.reduceEq]
  rw [bQ,Ca];exact congrArg (fin L) K
end
structure Rs (d0 d1 s k:D) (t:Int) (x:KT):Prop where
 c:Cd d0 d1
 r:Rt d0 d1 t x
 hk:k.at t=x.d
 ht:t<(k.l.length:Int)
 yes:L 1550 [enc d0,enc d1,enc s,enc k,t]=some [1]
theorem aec {d0 d1 s k:D} {t:Int} {n:Nat} (S:Sw s k n) (hn:n<17592186044000) (h0:Wd (.sl 3) d0) (U:Wd (.sl 4) d1):L 1550 [enc d0,enc d1,enc s,enc k,t]=some [0]\/∃x,Rs d0 d1 s k t x:=by
 obtain⟨ys,hL,b,rfl,hb⟩:=KI (k:=k) h0 U (S.g.mI J).rows U.len t;rcases hb with ⟨rfl,_⟩|⟨rfl,t0,t1,M⟩
 ·exact .inl hL
 ·refine .inr ?_;obtain⟨hle,hO⟩:=M.2;obtain⟨i,rfl⟩ : ∃i:Nat,t=(i:Int):=⟨t.toNat,J⟩;have hi:i<k.l.length:=J
  have hd:i<d1.l.length:=J
  obtain⟨a,lc,w,o,g,tr,T⟩:=iQ S.wk _ (az hi);have ok:=hO i hi;unfold OkK at ok;rw [T.is] at ok;simp only [zg,aC,UU] at ok;refine⟨⟨a,lc,w,o,g,tr⟩,(MR.code h0 U (S.g.mI J).rows M).1,⟨J,J,?_,T.Y,T.hg⟩,by rw [ct hi,T.is],J,hL⟩;rw [ct hd];exact ok
theorem P0 {d0 d1 s k:D} {t:Int} {n:Nat} (S:Sx s k n) (hn:n<17592186043904) (h0:Wd (.sl 3) d0) (U:Wd (.sl 4) d1):L 1550 [enc d0,enc d1,enc s,enc k,t]=some [0]\/∃x,Rs d0 d1 s k t x:=aec S.sw J h0 U
section
variable {d0 d1 s k:D} {t:Int} {n:Nat} {x:KT} (S:Sk s k) (R:Rs d0 d1 s k t x)
include S R
theorem Rs.cp:L 9050 [t,enc s,enc k]=some [w7 x.lc,t,enc s,enc k,x.a,enc x.lc,x.w,x.o,x.g,x.tr]:=by
 have t0:=R.r.t0;have ht:=R.ht;obtain⟨i,rfl⟩ : ∃i:Nat,t=(i:Int):=⟨t.toNat,J⟩;have hi:i<k.l.length:=J
 obtain⟨a,lc,w,o,g,tr,T⟩:=iQ S.wk _ (az hi);have h:=HK S hi T;have e:=R.hk;rw [ct hi,T.is] at e;simp only [KT.d,iG,ku,D.p.injEq,D.i.injEq,and_true] at e;obtain⟨rfl,rfl,rfl,rfl,rfl,rfl⟩:=e;exact h
theorem Rs.self:dL (fb k.l t (.p (.i x.a) (.p x.lc (.p (.i x.w) (.p (.i x.o) (.p (.i x.g) (.p (.i x.tr) (.i 0))))))))=k:=by
 have Y:0<k.l.length:=by have:=R.r.t0; have:=R.ht; omega
 exact ND (Dh S.wk Y).sh R.r.t0 R.ht R.hk
theorem Ga (ho:iB d1 t x=1):L 1850 [enc d0,enc d1,enc s,enc k,t]=some [enc s,enc k,0,0,0,0,0,4]:=by
 have h:=R.cp S;have hs:=R.self S;have hR:=R.yes;have hO:=yW (s:=s) R.hk R.ht R.r;rw [ho] at hO;have ha:w7 x.lc=3\/w7 x.lc=4:=by unfold w7; split<;>simp
 have K:eu (stE d0 d1 s k t) mq= .out [enc s,enc k,0,0,0,0,0,4]:=by
  rcases ha with ha|ha
  ·rw [ha] at h;simp only [mq,zz,h,hR,hs,hO,Int.reduceEq]
  ·rw [ha] at h;simp only [mq,zz,h,hR,hs,hO,Int.reduceEq]
 rw [bQ,Ca];exact congrArg (fin L) K
theorem Dw (ho:iB d1 t x=0) (hn:low (jq d1 t x) 4=0):L 1850 [enc d0,enc d1,enc s,enc k,t]=some [enc s,enc (mX k t (uA (Ins d1 t x) x)),0,0,0,0,0,1]:=by
 have h:=R.cp S;have hs:=R.self S;have hR:=R.yes;have hO:=yW (s:=s) R.hk R.ht R.r;have hN:=IH (s:=s) R.c R.hk R.ht R.r;have Lc:=N2 R.r ho hn;rw [ho] at hO
 have K:eu (stE d0 d1 s k t) mq= .out [enc s,enc (mX k t (uA (Ins d1 t x) x)),0,0,0,0,0,1]:=by
  have hw:(uA (Ins d1 t x) x).w=x.w/\(uA (Ins d1 t x) x).o=x.o/\(uA (Ins d1 t x) x).g=x.g/\(uA (Ins d1 t x) x).tr=x.tr:=by
   unfold uA
   repeat' split
   all_goals exact⟨rfl,rfl,rfl,rfl⟩
  by_cases hp:0<x.lc.l.length
  ·have ha:w7 x.lc=3:=ah hp;rw [ha] at h;have Y:=XD (s:=s) R.c R.ht R.r Lc;simp only [mq,zz,h,hR,hs,hO,hN,hn,Y,mX,KT.d,iG,ku,hw,Int.reduceEq]
  ·have ha:w7 x.lc=4:=af hp;rw [ha] at h;obtain⟨Y,hc⟩:=XC (s:=s) R.c R.ht R.r Lc J;simp only [mq,zz,h,hR,hs,hO,hN,hn,Y,mX,KT.d,iG,ku,hw,hc,Int.reduceEq]
 rw [bQ,Ca];exact congrArg (fin L) K
theorem Dv {op obj arg tries e1 e2 e3 e4 e5 oc:Int} {s':D} (ho:iB d1 t x=0) (hn:jq d1 t x= [op,obj,arg,tries,1]) (A:HR d0 d1 s t op obj arg tries n s' e1 e2 e3 e4 e5 oc) :
 L 1850 [enc d0,enc d1,enc s,enc k,t]=some [enc s',enc (mX k t (oL (Ins d1 t x) x op e2 e3 e4 oc)),e1,e2,e3,e4,e5,oc]:=by
 have h:=R.cp S;have hs:=R.self S;have hR:=R.yes;have hO:=yW (s:=s) R.hk R.ht R.r;have hN:=IH (s:=s) R.c R.hk R.ht R.r;rw [ho] at hO;rw [hn] at hN
 have hx:x.w=0->x.a<(Nc d1 t:Int):=fun w0=>by unfold iB at ho;rw [ah w0] at ho;have:=R.r.ok.2.1;unfold Nc at ho ⊢;split at ho<;>omega
 have hE:evT e1 e2 e3 e4 e5 oc= [e1,e2,e3,e4,e5]:=by
  unfold evT;split
  ·rename_i h0;obtain⟨_,rfl,rfl,rfl,rfl,rfl⟩:=A.no h0;rfl
  ·rfl
 have K:eu (stE d0 d1 s k t) mq= .out [enc s',enc (mX k t (oL (Ins d1 t x) x op e2 e3 e4 oc)),e1,e2,e3,e4,e5,oc]:=by
  by_cases hp:0<x.lc.l.length
  ·have ha:w7 x.lc=3:=ah hp;rw [ha] at h;have Y:=VI R.c R.ht R.r A.eq (fun h=>(A.no h).1) hx;rw [hE] at Y;simp only [aR,aA] at Y;simp only [mq,zz,h,hR,hs,hO,hN,Y,mX,KT.d,iG,ku,Int.reduceEq]
  ·have ha:w7 x.lc=4:=af hp;rw [ha] at h;obtain⟨Y,hc⟩:=VH R.c R.ht R.r A.eq (fun h=>(A.no h).1) hx J;rw [hE] at Y;simp only [aR,aA] at Y;simp only [mq,zz,h,hR,hs,hO,hN,Y,mX,KT.d,iG,ku,hc,Int.reduceEq]
 rw [bQ,Ca];exact congrArg (fin L) K
end
theorem dN.jmp {j k:Nat} {xs ys:List Int} {t:T Lf} {p:List Int->Prop} (e:S.tree j=t) (h:eu (cV L (low xs)) t= .jump k ys) (q:dN k ys p):dN j xs p:=by refine dN.of ?_;rw [e,h];exact .jump q
theorem dN.ret {j:Nat} {xs ys:List Int} {t:T Lf} {p:List Int->Prop} (e:S.tree j=t) (h:eu (cV L (low xs)) t= .out ys) (q:p ys):dN j xs p:=by refine dN.of ?_;rw [e,h];exact .out q
theorem Gd (m:Nat) (hm:m<=60) (ih: ∀(k n:Int) (s kids:D),Wd .str s->Wd (.sl 6) kids->dN 150 [k,enc s,n,enc kids,(m:Int)] one) (x3 x4 x5:Int) (kids:D) (hk:Wd (.sl 6) kids) :
 ∀(j i:Nat) (x1:Int),i+j=kids.l.length->dN 151 [((m+1:Nat):Int),x1,(i:Int),x3,x4,x5,enc kids] one
 |0,i,x1,hi=>dN.ret aau (ys:=[x1]) (eb [] [.lt Qo HV] (ou [Qb]) (by simp only [zz]<;>omega) aa (by simp only [zz])) ⟨x1,rfl⟩
 |j+1,i,x1,hi=>by
  have Y:=hk.len;have ep:i<kids.l.length:=J
  have hw:=bU (n:=i) J;obtain⟨k,s,n,ks,he,_,hs,_,Lz⟩:=wG hk ep;have ha:kids.at (i:Int)=dL [.i k,s,.i n,ks]:=by rw [ct ep]; exact he
  obtain⟨ys,Ov,z,rfl⟩:=ih k n s ks hs Lz;have hw2:IntKind.i64.wrap (((m+1:Nat):Int)-1)=(m:Int):=by rw [lU J J]; omega
  by_cases hx:10000<x1
  ·exact dN.ret aau (ys:=[x1]) (eb [.lt Qo HV,.lt (.lit 10000) Qb] [] (ou [Qb]) (by simp only [zz]<;>omega) aa (by simp only [zz])) ⟨x1,rfl⟩
  ·exact dN.jmp aau (eb [.lt Qo HV,.eq (a0 150 Qfb) Q0] [.lt (.lit 10000) Qb,J8] (ju 151 [Qf,wr (.add Qb (rr 150 Qfb 0)),UI,Qm,db,ei,eM]) (by simp only [zz,ha,zg,hw2,Ov]<;>omega) aa (by simp only [zz,ha,zg,hw2,Ov,hw]<;>rfl)) (Gd m hm ih x3 x4 x5 kids hk j (i+1) (IntKind.i64.wrap (x1+z)) J)
theorem KC: ∀(m:Nat),m<=60->∀(k n:Int) (s kids:D),Wd .str s->Wd (.sl 6) kids->dN 150 [k,enc s,n,enc kids,(m:Int)] one
 |0,_,k,n,s,kids,_,_=>dN.ret afB (ys:=[10000]) (eb [Qe8] [] (ou [.lit 10000]) (by simp only [zz]<;>omega) aa (by simp only [zz])) ⟨_,rfl⟩
 |m+1,hm,k,n,s,kids,hs,hk=>dN.jmp afB (ys:=[((m+1:Nat):Int),_,(0:Nat),k,enc s,n,enc kids]) (eb [] [Qe8] (ju 151 [db,wr (.add Q0 (wr (.quo Qc (.lit 100)))),Qa,Qf,Qb,Qo,Qm]) (by simp only [zz]<;>omega) aa (by simp only [mr,List.map,bS,Nat.reduceLT,bK,bL]<;>rfl)) (Gd m J (KC m J) k (enc s) n kids hk kids.l.length 0 _ J)
section
variable {d0 d1:D} (U:Wd (.sl 4) d1)
include U
theorem Ep (x1 x2 x3:Int) (FD:D) (ha:Wd (.sl 6) FD) (q: ∀x0,dN 102 [x0,x1,IntKind.i64.wrap (x2+1),x3,enc d0,enc d1] xW): ∀(j i:Nat) (x0:Int),i+j=FD.l.length->dN 103 [x0,x1,x2,x3,enc FD,(FD.l.length:Int),(i:Int),enc d0,enc d1] xW
 |0,i,x0,hi=>dN.jmp afE (eb [] [.lt eM ei] (ju 102 [Qf,Qb,UI,Qm,gu,ja]) (by simp only [zz]<;>omega) aa (by simp only [zz])) (q x0)
 |j+1,i,x0,hi=>by
  have Y:=ha.len;have ep:i<FD.l.length:=J
  have hw:=bU (n:=i) J;obtain⟨k,s,n,ks,he,_,hs,_,Lz⟩:=wG ha ep;have mN:FD.at (i:Int)=dL [.i k,s,.i n,ks]:=by rw [ct ep]; exact he
  obtain⟨ys,Ov,z,rfl⟩:=KC 60 J k n s ks hs Lz;have Ov:L 150 [k,enc s,n,enc ks,60]=some [z]:=Ov;exact dN.jmp afE (eb [.lt eM ei,.lt eM UG,.eq (a0 150 Qe7) Q0] [Qe5] (ju 103 [wr (.add Qf (rr 150 Qe7 0)),Qb,Qo,Qm,db,ei,wr (.add eM Q0),gu,ja]) (by simp only [zz,mN,zg,Ov]<;>omega) aa (by simp only [zz,mN,zg,Ov,hw]<;>rfl)) (Ep x1 x2 x3 FD ha q j (i+1) (IntKind.i64.wrap (x0+z)) J)
theorem Ub (i:Nat) (hi:i<d1.l.length) (q: ∀x0,dN 101 [x0,(d1.l.length:Int),((i+1:Nat):Int),enc d0,enc d1] xW): ∀(j k:Nat) (x0:Int),(∀xg lc cd,d1.l[i]=dL [xg,lc,cd]->k+j=cd.l.length)->dN 102 [x0,(i:Int),(k:Int),(d1.l.length:Int),enc d0,enc d1] xW:=by
 have Y:=U.len;have hw:=bU (n:=i) J;obtain⟨xg,lc,cd,he,_,_,RC⟩:=yA U hi;have mN:d1.at (i:Int)=dL [xg,lc,cd]:=by rw [ct hi]; exact he
 have BX:=RC.len;intro j
 induction j with
 |zero=> intro k x0 hk;have hk:=hk _ _ _ he;exact dN.jmp aav (eb [.lt Qb (ln ei)] [Ps,.lt Qo (ln (ce 2 (el ei Qb)))] (ju 101 [Qf,Qm,qk,db,ei]) (by simp only [zz,mN,zg]<;>omega) aa (by simp only [zz,hw]<;>rfl)) (q x0)
 |succ j ih=>
  intro k x0 hk;have uC:=hk _ _ _ he;by_cases h6:6000<x0
  ·exact dN.jmp aav (eb [.lt Qb (ln ei),.lt Qo (ln (ce 2 (el ei Qb))),.lt (.lit 6000) Qf] [Ps] (ju 101 [Qf,Qm,qk,db,ei]) (by simp only [zz,mN,zg]<;>omega) aa (by simp only [zz,hw]<;>rfl)) (q x0)
  ·have I5:k<cd.l.length:=J
   have hw2:=bU (n:=k) J;obtain⟨a,b,c,e,f,g,FD,uH,_,_,_,_,_,_,has⟩:=Oa RC I5;have alF:cd.at (k:Int)=dL [.i a,.i b,.i c,.i e,.i f,.i g,FD]:=by rw [ct I5]; exact uH
   refine dN.jmp aav (eb [.lt Qb (ln ei),.lt Qo (ln (ce 2 (el ei Qb)))] [Ps,.lt (.lit 6000) Qf,J8] (ju 103 [Qf,Qb,Qo,Qm,Qe4,ln Qe4,Qa,db,ei]) (by simp only [zz,mN,zg]<;>omega) aa (by simp only [zz,mN,alF,zg]<;>rfl)) (Ep U (i:Int) (k:Int) (d1.l.length:Int) FD has (fun x0=>?_) FD.l.length 0 x0 J);rw [hw2];exact ih (k+1) x0 fun xg lc cd he=>by have:=hk xg lc cd he; omega
theorem Em: ∀(j i:Nat) (x0:Int),i+j=d1.l.length->dN 101 [x0,(d1.l.length:Int),(i:Int),enc d0,enc d1] xW
 |0,i,x0,hi=>by
  by_cases h6:6000<x0
  ·exact dN.ret aaw (eb [.lt (.lit 6000) Qf] [w9] (ou [Q0]) (by simp only [zz]<;>omega) aa (by simp only [zz])) s5
  ·exact dN.ret aaw (eb [] [w9,.lt (.lit 6000) Qf] (ou [Qa]) (by simp only [zz]<;>omega) aa (by simp only [zz])) s6
 |j+1,i,x0,hi=>by
  have ep:i<d1.l.length:=J
  obtain⟨xg,lc,cd,he,_,_,RC⟩:=yA U ep;refine dN.jmp aaw (ys:=[_,(i:Int),((0:Nat):Int),(d1.l.length:Int),enc d0,enc d1]) (eb [w9,p_] [J8] (ju 102 [wr (.add Qf (wr (.add (ln Qdl) (ln (ce 2 Qdk))))),Qo,Qa,Qb,Qm,db]) (by simp only [zz]<;>omega) aa (by simp only [zz]<;>rfl)) (Ub U i ep (fun x0=>Em j (i+1) x0 J) cd.l.length 0 _ fun n' l' c' yr=>?_);rw [he] at yr;have:=Fb yr;simp only [List.cons.injEq,and_true] at this;rw [this.2.2];omega
theorem Ua:dN 100 [enc d0,enc d1] xW:=
 dN.jmp akl (ys:=[_,(d1.l.length:Int),((0:Nat):Int),enc d0,enc d1]) (eb [] [] (ju 101 [wr (.add qv Qc),Qc,Qa,Qf,Qb]) (by simp only [zz]<;>omega) aa (by simp only [zz]<;>rfl)) (Em U d1.l.length 0 _ J)
end
def lx (x:D):D:=dL [.i 0,if (x.hd 1).l.length=0 then .i 2 else dL (List.replicate (x.hd 1).l.length (.i 0)),.i 0,.i 0,.i 0,.i 0]
def nu (d0:D):D:=if d0.l.length=0 then .i 1 else dL (d0.l.map jZ)
def ph (d1:D):D:=if d1.l.length=0 then .i 1 else dL (d1.l.map lx)
theorem Kq {l:List D} (h: ∀x∈l,∃a lc w o g tr,Kt x a lc w o g tr) (hn:l≠[]) (Y:l.length<=2199023255488):Wd (.sl 8) (dL l):=by
 have e:(l.map fun x=>x.l).map dL=l:=by
  rw [amQ]
  conv=>rhs; rw [<- anb l]
  apply anA;intro x hx;obtain⟨a,lc,w,o,g,tr,T⟩:=h x hx;rw [T.is];rfl
 rw [<- e];refine .many 8 [.int .i64,.sl 0,.int .u8,.int .i64,.int .i64,.int .i64] _ rfl (by simpa using hn) (by have:su 8=64:=rfl; rw [this,aP]; omega) (fun r hr=>?_) fun r hr j d c U Z=>?_
 ·obtain⟨x,hx,rfl⟩:=aK.1 hr;obtain⟨a,lc,w,o,g,tr,T⟩:=h x hx;rw [T.is];rfl
 ·obtain⟨x,hx,rfl⟩:=aK.1 hr;obtain⟨a,lc,w,o,g,tr,T⟩:=h x hx;rw [T.is,bI] at U
  match j with
  |0=>simp at U Z; subst U Z; exact .int _ _ T.ha
  |1=>simp at U Z; subst U Z; exact T.Y
  |2=>simp at U Z; subst U Z; exact .int _ _ T.hw
  |3=>simp at U Z; subst U Z; exact .int _ _ T.ho
  |4=>simp at U Z; subst U Z; exact .int _ _ T.hg
  |5=>simp at U Z; subst U Z; exact .int _ _ T.ht
  |j+6=>simp at U
theorem VP (x:D) (h:(x.hd 1).l.length<=17592186043904): ∃a lc w o g tr,Kt (lx x) a lc w o g tr:=by
 have z:gq .i64 0:=⟨J,J⟩;refine⟨0,_,0,0,0,0,rfl,z,?_,⟨J,J⟩,z,z,z⟩;split
 ·exact .we 0
 ·rename_i hn;refine vW (fun y hy=> ⟨0,(List.mem_replicate.1 hy).2,z⟩) (fun he=>?_) (by simpa using h);have:=congrArg List.length he;simp only [am1,bg] at this;omega
theorem xR {d1:D} (U:Wd (.sl 4) d1): ∀x∈d1.l,(x.hd 1).l.length<=8796093021952:=by intro x hx;obtain⟨i,hi,rfl⟩:=am2 hx;obtain⟨xg,lc,cd,he,_,hlc,_⟩:=yA U hi;rw [he];simp only [zg,aC];have:=hlc.room;have h3:su 2=16:=rfl;rw [h3] at this;omega
theorem WK {d0 d1:D} (h0:Wd (.sl 3) d0) (U:Wd (.sl 4) d1) (ok:uY d0 d1):Sx (nu d0) (ph d1) 0:=by
 refine⟨?_,?_,?_,?_⟩
 ·unfold nu;split
  ·exact⟨.nil 7,fun x hx=>by simp [D.l] at hx⟩
  ·refine⟨F3 (fun x hx=>?_) (fun he=>?_) (by rw [aP]; have:=ok.1; omega),fun x hx=>?_⟩
   ·obtain⟨y,hy,rfl⟩:=aK.1 hx;obtain⟨kd,xg,ln,s1,s2,he,_,hnn,_⟩:=h0.decl y hy;rw [he];refine⟨-1,_,0,0,.i 1,.i 1,rfl,⟨J,J⟩,?_,.inl rfl,⟨J,J⟩,.nil 0,.nil 0⟩;split
    ·exact hnn
    ·exact⟨J,J⟩
   ·have:=congrArg List.length he;simp only [aP,bg] at this;omega
   ·rw [bI] at hx;obtain⟨y,hy,rfl⟩:=aK.1 hx;exact⟨au 0,au 0⟩
 ·unfold ph;split
  ·exact .nil 8
  ·refine Kq (fun x hx=>?_) (fun he=>?_) (by rw [aP]; have:=ok.2.1; omega)
   ·obtain⟨y,hy,rfl⟩:=aK.1 hx;exact VP y (by have:=xR U y hy; omega)
   ·have:=congrArg List.length he;simp only [aP,bg] at this;omega
 ·unfold nu;split
  ·intro h; cases h
  ·intro h;have:=congrArg (fun d=>d.l.length) h;simp only [bI,aP,rj,bg] at this;omega
 ·unfold ph;split
  ·intro h; cases h
  ·intro h;have:=congrArg (fun d=>d.l.length) h;simp only [bI,aP,rj,bg] at this;omega
theorem BQ (d1:D) (U:Wd (.sl 4) d1) (hlen:d1.l.length<=16) (s:D): ∀(k i:Nat) (acc:List D),i+k=d1.l.length->acc.length=i->
 L 1452 [enc d1,(d1.l.length:Int),(i:Int),enc s,enc (dL acc)]=some [enc s,enc (dL (acc++(d1.l.drop i).map lx)),0]
 |0,i,acc,hi,ha=>by
  have c1: ¬(i:Int)<(d1.l.length:Int):=J
  rw [bQ,Zh,anw J];simp only [PM,zz,c1,bV,anr,ank]
 |k+1,i,acc,hi,ha=>by
  have ep:i<d1.l.length:=J
  have hd:d1.l.drop i=d1.l[i]::d1.l.drop (i+1):=bo ep;have ih:=BQ d1 U hlen s k (i+1) (acc++ [lx d1.l[i]]) J (by simp [ha]);have c1:(i:Int)<(d1.l.length:Int):=J
  have c2: ¬((i:Int)<0):=J
  have w:=bU (n:=i) J;have c3:(acc.length:Int)<2199023255551:=J
  have hb:=xR U _ (az ep);have c4:((((d1.l[i]).hd 1).l.length:Nat):Int)<17592186044416:=J
  have e2:acc++(lx d1.l[i]::(d1.l.drop (i+1)).map lx)=acc++ [lx d1.l[i]]++(d1.l.drop (i+1)).map lx:=ad
  rw [hd,ax,e2,<- ih,bQ,Zh];by_cases hz:((d1.l[i]).hd 1).l.length=0
  ·have I0:((((d1.l[i]).hd 1).l.length:Nat):Int)=0:=J
   have et:lx d1.l[i]= .p (.i 0) (.p (.i 2) (.p (.i 0) (.p (.i 0) (.p (.i 0) (.p (.i 0) (.i 0)))))):=by unfold lx; rw [ah hz]; rfl
   rw [et];simp only [PM,zz,c1,c2,w,ct ep,I0,c3,bI,bM]
  ·have I0: ¬((((d1.l[i]).hd 1).l.length:Nat):Int)=0:=J
   have et:lx d1.l[i]= .p (.i 0) (.p (dL (List.replicate ((d1.l[i]).hd 1).l.length (.i 0))) (.p (.i 0) (.p (.i 0) (.p (.i 0) (.p (.i 0) (.i 0)))))):=by unfold lx; rw [af hz]; rfl
   rw [et];simp only [PM,zz,c1,c2,w,ct ep,I0,c3,c4,bI,bd,bM]
theorem K9 (d1:D) (U:Wd (.sl 4) d1) (hlen:d1.l.length<=16) (s:D):L 1451 [enc d1,(d1.l.length:Int),enc s]=some [enc s,enc (ph d1),0]:=by
 by_cases hn:d1.l.length=0
 ·have c1: ¬(0:Int)<(d1.l.length:Int):=J
  have e:ph d1= .i 1:=by unfold ph; rw [ah hn]
  rw [bQ,Zi,e];simp only [PN,zz,c1,bV]
 ·have hp:0<d1.l.length:=J
  have c1:(0:Int)<(d1.l.length:Int):=J
  have e:ph d1=dL (d1.l.map lx):=by unfold ph; rw [af hn]
  have ih:=BQ d1 U hlen s (d1.l.length-1) 1 [lx (d1.l[0]'hp)] J rfl
  have e1:[lx (d1.l[0]'hp)]++(d1.l.drop 1).map lx=d1.l.map lx:=by
   conv=>rhs; rw [<- am0 (l:=d1.l),bo hp]
   rfl
  rw [e1,<- e] at ih;have a0:d1.at 0=d1.l[0]'hp:=ct (i:=0) hp;have hb:=xR U _ (az hp);have c4:((((d1.l[0]'hp).hd 1).l.length:Nat):Int)<17592186044416:=J
  rw [<- ih,bQ,Zi];by_cases hz:((d1.l[0]'hp).hd 1).l.length=0
  ·have I0:((((d1.l[0]'hp).hd 1).l.length:Nat):Int)=0:=J
   have et:dL [lx (d1.l[0]'hp)]= .p (.p (.i 0) (.p (.i 2) (.p (.i 0) (.p (.i 0) (.p (.i 0) (.p (.i 0) (.i 0))))))) (.i 0):=by unfold lx; rw [ah hz]; rfl
   rw [et];simp only [PN,zz,c1,a0,I0,rj,aA,iG,ku,bM,bj]
  ·have I0: ¬((((d1.l[0]'hp).hd 1).l.length:Nat):Int)=0:=J
   have et:dL [lx (d1.l[0]'hp)]= .p (.p (.i 0) (.p (dL (List.replicate ((d1.l[0]'hp).hd 1).l.length (.i 0))) (.p (.i 0) (.p (.i 0) (.p (.i 0) (.p (.i 0) (.i 0))))))) (.i 0):=by unfold lx; rw [af hz]; rfl
   rw [et];simp only [PN,zz,c1,a0,I0,c4,rj,aA,iG,ku,bd,bM,bj]
theorem TU {d0 d1:D} (U:Wd (.sl 4) d1) (hc:L 450 [enc d0,enc d1]=some [0]) (ok:uY d0 d1):L 1450 [enc d0,enc d1]=some [enc (nu d0),enc (ph d1),0]:=by
 have h3:L 300 [enc d0,enc d1]=some [enc (nu d0)]:=by
  by_cases hn:d0.l.length=0
  ·have e:nu d0= .i 1:=by unfold nu; rw [ah hn]
   rw [e];exact e_ hc (.inr hn)
  ·have e:nu d0=dL (d0.l.map jZ):=by unfold nu; rw [af hn]
   rw [e];exact e! hc ok.1 J
 have K:eu (cV L (low [enc d0,enc d1])) Wh= .jump 1451 [enc d1,(d1.l.length:Int),enc (nu d0)]:=by refine eb [Qfg,Qfh,.eq (a0 300 Dc) Q0] [] (ju 1451 [Qb,Qc,rr 300 Dc 0]) (by simp only [zz,hc,h3]<;>omega) aa ?_;simp only [zz,h3]
 rw [bQ,Zk];exact (congrArg (fin L) K).trans (K9 d1 U ok.2.1 _)
theorem TS {d0 d1:D} {c:Int} (hc:L 450 [enc d0,enc d1]=some [c]) (h:c≠0):L 1450 [enc d0,enc d1]=some [enc (.i 1),enc (.i 1),c]:=by
 have K:eu (cV L (low [enc d0,enc d1])) Wh= .out [enc (.i 1),enc (.i 1),c]:=by refine eb [Qfg] [Qfh] (ou [Qh,Qh,rr 450 Dc 0]) (by simp only [zz,hc]<;>omega) aa ?_;simp only [zz,hc]
 rw [bQ,Zk];exact congrArg (fin L) K
theorem K! {k:D} {t:Int} (t0:0<=t) (ht:t<(k.l.length:Int)) (x:KT):(mX k t x).at t=x.d:=by obtain⟨i,rfl⟩ : ∃i:Nat,t=(i:Int):=⟨t.toNat,J⟩;rw [og,bI,vu J];rfl
theorem pw (k:D) (t:Int) (x:KT):(mX k t x).l.length=k.l.length:=by rw [bI,fB]
theorem GM {d1:D} {t:Int} {x:KT} (ho: ¬iB d1 t x=1) (h: ¬low (jq d1 t x) 4=0): ∃op obj arg tr,jq d1 t x= [op,obj,arg,tr,1]:=by
 unfold iB at ho;unfold jq at h ⊢;by_cases w0:x.w=0
 ·rw [ah w0] at ho h ⊢;by_cases a0:x.a=(Nc d1 t:Int)
  ·rw [ah a0] at ho;omega
  ·rw [af a0] at h ⊢;by_cases U:((Ins d1 t x).hd 0).n=1
   ·rw [ah U];exact⟨_,_,_,_,rfl⟩
   ·rw [af U] at h ⊢;by_cases Z:((Ins d1 t x).hd 0).n=2
    ·rw [ah Z];exact⟨_,_,_,_,rfl⟩
    ·rw [af Z] at h;exact absurd rfl h
 ·rw [af w0];exact⟨_,_,_,_,rfl⟩
theorem CI (d1:D) (t:Int) (x:KT):iB d1 t x=0\/iB d1 t x=1:=by
 unfold iB;split
 ·split
  ·exact .inr rfl
  ·exact .inl rfl
 ·exact .inl rfl
theorem QC {d0 d1:D} {t:Int} {x:KT} (C:Cd d0 d1) (R:Rt d0 d1 t x) (hd0:d0.l.length<=64) {op obj arg tr b:Int} (hn:jq d1 t x= [op,obj,arg,tr,b]):gq .u8 op/\gq .i64 obj/\gq .i64 arg:=by
 have z8:gq .u8 0:=⟨J,J⟩;have z:gq .i64 0:=⟨J,J⟩;have ok:=R.ok;unfold jq at hn;by_cases w0:x.w=0
 ·rw [ah w0] at hn;by_cases a0:x.a=(Nc d1 t:Int)
  ·rw [ah a0] at hn;simp only [List.cons.injEq] at hn;obtain⟨rfl,rfl,rfl,_⟩:=hn;exact⟨z8,z,z⟩
  ·have fD:x.a<(Nc d1 t:Int):=by have:=ok.2.1; unfold Nc at a0 ⊢; omega
   have F:=C.inf R fD;rw [af a0] at hn;by_cases U:((Ins d1 t x).hd 0).n=1
   ·rw [ah U] at hn;simp only [List.cons.injEq] at hn;obtain⟨rfl,rfl,rfl,_⟩:=hn;exact⟨F.op,F.ob,aaP F.ar R.ints⟩
   ·rw [af U] at hn;by_cases Z:((Ins d1 t x).hd 0).n=2
    ·rw [ah Z] at hn;simp only [List.cons.injEq] at hn;obtain⟨rfl,rfl,rfl,_⟩:=hn;exact⟨⟨J,J⟩,F.ob,z⟩
    ·rw [af Z] at hn;simp only [List.cons.injEq] at hn;obtain⟨rfl,rfl,rfl,_⟩:=hn;exact⟨z8,z,z⟩
 ·rw [af w0] at hn;simp only [List.cons.injEq] at hn;obtain⟨rfl,rfl,rfl,_⟩:=hn;obtain⟨_,_,_,_,_,hw⟩:=ok;exact⟨⟨J,J⟩,⟨J,J⟩,R.hg⟩
theorem C! {lc:D} (h:Wd (.sl 0) lc) {z v:Int} (h0:0<=z) (U:z<(lc.l.length:Int)) (hv:gq .i64 v):Wd (.sl 0) (dL (fb lc.l z (.i v))):=by
 have:=h.room;have h3:su 0=8:=rfl;rw [h3] at this;have hs:=fB lc.l z (.i v);refine vW (fun y hy=>?_) (fun he=>?_) (by rw [hs]; omega)
 ·rcases u6 hy with h'|rfl
  ·exact (h.el1 rfl y h').i
  grind
 grind
theorem Pz {k:D} (hk:Wd (.sl 8) k) {t:Int} {x:KT} (h: ∃a lc w o g tr,Kt x.d a lc w o g tr) (hp:0<k.l.length):Wd (.sl 8) (mX k t x):=by
 have hf:=hk.room;have h3:su 8=64:=rfl;rw [h3] at hf;have hs:=fB k.l t x.d;refine Kq (fun y hy=>?_) (fun he=>?_) (by rw [hs]; omega)
 ·rcases u6 hy with h'|rfl
  ·exact iQ hk y h'
  grind
 grind
section
variable {d0 d1 s k:D} {t:Int} {n:Nat} {x:KT}
theorem Lg {x:KT} (ha:gq .i64 x.a) (Y:Wd (.sl 0) x.lc) (hw:gq .u8 x.w) (ho:gq .i64 x.o) (hg:gq .i64 x.g) (ht:gq .i64 x.tr): ∃a lc w o g tr,Kt x.d a lc w o g tr:=⟨_,_,_,_,_,_,rfl,ha,Y,hw,ho,hg,ht⟩
theorem Rt.kt (C:Cd d0 d1) (R:Rt d0 d1 t x): ∃a lc w o g tr,Kt x.d a lc w o g tr:=by obtain⟨a0,a1,_,t0,t1,hw⟩:=R.ok;have hd:=C.ok.1;have hnc:=(C.code R.t0 R.t1).len;exact Lg ⟨J,J⟩ R.Y ⟨J,J⟩ ⟨J,J⟩ R.hg ⟨J,J⟩
theorem VL (C:Cd d0 d1) (R:Rt d0 d1 t x) (hx:x.w=0->x.a<(Nc d1 t:Int)) {op e2 e3 e4 oc:Int} (h3:gq .i64 e3) (h4:gq .i64 e4): ∃a lc w o g tr,Kt (oL (Ins d1 t x) x op e2 e3 e4 oc).d a lc w o g tr:=by
 obtain⟨a0,a1,Om,t0,t1,hw⟩:=R.ok;have hd:=C.ok.1;have hnc:=(C.code R.t0 R.t1).len;have ka:gq .i64 x.a:=⟨J,J⟩;have kw:gq .u8 x.w:=⟨J,J⟩;have ko:gq .i64 x.o:=⟨J,J⟩;have kt:gq .i64 x.tr:=⟨J,J⟩;have z:gq .i64 0:=⟨J,J⟩;have z8: ∀v:Int,v=0\/v=24\/v=25->gq .u8 v:=fun v h=> ⟨J,J⟩;unfold oL;split
 ·split
  ·exact Lg ka R.Y kw ko R.hg (by
    show gq .i64 (if 4611686018427387904<x.tr+1 then 4611686018427387904 else x.tr+1)
    split<;>exact⟨J,J⟩)
  ·exact Lg ka R.Y kw ko R.hg kt
 ·split
  ·rename_i w0;have F:=C.inf R (hx w0);have ok:=F.ok;have U:=hx w0;unfold Nc at U;unfold B! at ok;have k1:gq .i64 (x.a+1):=⟨J,J⟩;refine Lg ?_ ?_ ?_ ?_ ?_ z
   ·show gq .i64 (if _ then _ else _);split
    ·exact F.to
    grind
   ·show Wd (.sl 0) (if _ then _ else _);split
    ·rename_i hc;refine C! R.Y J ?_ h4
     grind
    ·exact R.Y
   all_goals grind
  ·exact Lg ka R.Y (z8 _ (.inl rfl)) z z z
theorem PV {k:D} (hp:0<k.l.length) (t:Int) (x:KT):mX k t x≠.i 2:=fun he=>by have:=pw k t x;rw [he] at this;have e:(D.i 2).l.length=0:=rfl;omega
theorem VK (S:Sx s k n) (C:Cd d0 d1) (R:Rt d0 d1 t x) (ht:t<(k.l.length:Int)) (hx:x.w=0->x.a<(Nc d1 t:Int)) {op obj arg tries e1 e2 e3 e4 e5 oc:Int} {s':D} (A:HR d0 d1 s t op obj arg tries n s' e1 e2 e3 e4 e5 oc) :
 Sx s' (mX k t (oL (Ins d1 t x) x op e2 e3 e4 oc)) (n+1):=by
 have hp:0<k.l.length:=by have:=R.t0; omega
 exact⟨A.gs,Pz S.wk (VL C R hx A.e3 A.e4) hp,A.n2 S.n2s,PV hp _ _⟩
theorem f_ (R:Rt d0 d1 t x) (ho:iB d1 t x=0):x.w=0->x.a<(Nc d1 t:Int):=fun w0=>by unfold iB at ho;rw [ah w0] at ho;have:=R.ok.2.1;unfold Nc at ho ⊢;split at ho<;>omega
end
theorem AY: ∀(l:List D) (k v k':D),gv (lP l k v) k'=if k=k' then some v else gv l k'
 |[],k,v,k'=>by
  simp only [lP,gv];by_cases h:k=k'
  ·rw [ah h]; exact ah h
  ·rw [af h]; exact af h
 |d::l,k,v,k'=>by
  simp only [lP];by_cases h:ji d=k
  ·rw [ah h];simp only [gv];by_cases Z:k=k'
   ·rw [ah Z]; exact ah Z
   ·rw [af Z,af (fun h3=>Z (h.symm.trans h3))]; exact af Z
  ·rw [af h];simp only [gv,AY l k v k']
   grind
def oJ (m:Int) (l:List D):Prop:=(∀x∈l,0<=x.n/\x.n<m)/\(l.map D.n).Nodup
def Ck (N o dn:Int) (rl vl:Nat):Prop:=(N<0->(vl:Int)=0)/\(0<=N->(vl:Int)<=N)/\(o<0\/(rl:Int)=0/\dn=0)
def Pq (s:D) (l:List D):Prop:= ∀n:Int,(gv s.l (.i n)=none/\n∉l.map D.n)\/(gv s.l (.i n)=some (.i 1)/\n∈l.map D.n)
theorem WZ {s x:D} {l:List D} (h:Pq s l):Pq (dL (lP s.l (.i x.n) (.i 1))) (l++ [x]):=fun n=>by
 rw [bI,AY,amT];by_cases hn:x.n=n
 ·rw [ah (by rw [hn])];exact .inr ⟨rfl,an6 _ (by simp [hn])⟩
 ·rw [af (fun h=>hn (by simpa using h))];rcases h n with ⟨U,Z⟩|⟨U,Z⟩
  ·refine .inl ⟨U,fun h3=>?_⟩;rcases amC.1 h3 with h3|h3
   ·exact Z h3
   ·simp only [List.map,aw,amI,or_false] at h3;exact hn h3.symm
  ·exact .inr ⟨U,an7 _ Z⟩
theorem CR {P Q:Prop} {ys:List Int} (h:P) (hQ:Rg Q ys):Rg (P/\Q) ys:=by
 grind
theorem sZ {P Q:Prop} (h: ¬P):Rg (P/\Q) [0]:=xi fun q=>h q.1
theorem KH (m:Int) (r:D) (Y:r.l.length<=140737488351232) (k xg N x7 x8 o c dn g:Int) (v:D): ∀(j i:Nat) (seen:D),i+j=r.l.length->Pq seen (r.l.take i)->oJ m (r.l.take i)->
 dN 501 [m,enc r,(r.l.length:Int),(i:Int),k,xg,N,x7,x8,o,c,dn,g,enc v,enc seen] (Rg (oJ m r.l/\Ck N o dn r.l.length v.l.length))
 |0,i,seen,hi,_,hR=>by
  have c1: ¬(i:Int)<(r.l.length:Int):=J
  rw [ans J] at hR;refine dN.of ?_;unfold Ck;rw [Y6];simp only [S8,zz,c1]
  repeat' first
   |exact .out (CR hR (xi J))
   |exact .out (CR hR (Lo J))
   |refine .ite (fun _=>?_) (fun _=>?_)
 |j+1,i,seen,hi,hS,hR=>by
  have ep:i<r.l.length:=J
  have c1:(i:Int)<(r.l.length:Int):=J
  have c2: ¬((i:Int)<0):=J
  have w:=bU (n:=i) J;have ht:r.l.take (i+1)=r.l.take i++ [r.l[i]]:=by rw [List.take_add_one,aM ep]; rfl
  have rq:r.l[i]∈r.l:=az ep;have ih:=fun h=>KH m r Y k xg N x7 x8 o c dn g v j (i+1) (dL (lP seen.l (.i (r.l[i]).n) (.i 1))) J (by rw [ht]; exact WZ hS) h;refine dN.of ?_;rw [Y6];rcases hS (r.l[i]).n with ⟨U,Z⟩|⟨U,Z⟩
  ·simp only [S8,zz,c1,c2,w,ct ep,U,Option.isSome_none,aQ];refine .ite (fun q=> .out (sZ fun R=>?_)) (fun q=> .ite (fun q2=>?_) (fun q2=> .out (sZ fun R=>?_)))
   ·have:=R.1 _ rq;omega
   ·refine .jump (ih ?_);rw [ht];refine⟨fun x hx=>?_,?_⟩
    ·rcases amC.1 hx with hx|hx
     ·exact hR.1 x hx
     ·simp only [aw,amI,or_false] at hx;subst hx;exact⟨J,q2⟩
    ·rw [amT,anK];refine⟨hR.2,ad,fun a ha b hb=>?_⟩;simp only [List.map,aw,amI,or_false] at hb;subst hb;intro he;subst he;exact Z ha
   ·have:=R.1 _ rq;omega
  ·simp only [S8,zz,c1,c2,w,ct ep,U,bF]
   have nd: ¬oJ m r.l:=fun R=>by
    have hn:=R.2;have e:r.l=r.l.take i++r.l[i]::r.l.drop (i+1):=by rw [<- bo ep,amR]
    rw [e,amT,anK] at hn;exact hn.2.2 _ Z _ (by rw [ax]; exact anz) rfl
   refine .ite (fun q=> .out (sZ nd)) (fun q=> .ite (fun q2=> .out (sZ nd)) (fun q2=> .out (sZ nd)))
theorem To (m:Int) (r:D) (Y:r.l.length<=140737488351232) (k xg N x7 x8 o c dn g:Int) (v:D) :
 dN 501 [m,enc r,(r.l.length:Int),0,k,xg,N,x7,x8,o,c,dn,g,enc v,enc (.i 0)] (Rg (oJ m r.l/\Ck N o dn r.l.length v.l.length)):=
 KH m r Y k xg N x7 x8 o c dn g v r.l.length 0 (.i 0) J (fun n=> .inl ⟨rfl,ad⟩) ⟨ad,ad⟩
def qi (k N c:Int):Prop:=k=9\/(k=3/\0<=c/\c<=N)\/(k=5/\0<=c/\c<=IntKind.i64.wrap (N-1))\/(k=7/\0<=c/\c<=1099511627776)\/(k≠3/\k≠5/\k≠7/\k≠9/\c=0)
theorem U_ (k x1 N x3 x4 c:Int): ∃a b:Int,L 650 [k,x1,N,x3,x4]=some [a,b]/\(b=0/\qi k N c\/b=1/\(qi k N c↔0<=c/\c<=a)):=by
 have:dN 650 [k,x1,N,x3,x4] (fun ys=> ∃a b:Int,ys= [a,b]/\(b=0/\qi k N c\/b=1/\(qi k N c↔0<=c/\c<=a))):=by
  unfold qi;refine dN.of ?_;rw [afl];simp only [adU,zz]
  repeat' first
   |exact .out ⟨_,_,rfl,J⟩
   |refine .ite (fun _=>?_) (fun _=>?_)
 obtain⟨ys,h,a,b,rfl,Z⟩:=this
 grind
def HW (k N m o c dn g:Int) (rl vl:Nat):Prop:=
 qi k N c/\-1<=o/\o<m/\0<=g/\g<=4611686018427387904/\(0<=o->k=1\/k=2\/k=6)/\(0<(rl:Int)->k=4\/k=2)/\(0<(vl:Int)->k=8)/\(dn≠0->k=6)/\(0<g->k=5)
def Pp (k N m o c dn g:Int) (r v:D):Prop:=HW k N m o c dn g r.l.length v.l.length/\oJ m r.l/\Ck N o dn r.l.length v.l.length
set_option maxHeartbeats 4000000 in
theorem WR (k x1 N x3 x4 m o c dn g:Int) (r v:D) (Y:r.l.length<=140737488351232):dN 500 [k,x1,N,x3,x4,o,c,dn,g,enc r,enc v,m] (Rg (Pp k N m o c dn g r v)):=by
 unfold Pp HW;obtain⟨a,b,hM,hb⟩:=U_ k x1 N x3 x4 c;have ih:=To m r Y k x1 N x3 x4 o c dn g v;refine dN.of ?_;rw [afn];generalize qi k N c=H at *;by_cases b0:b=0
 ·subst b0
  have hH:H:=by
   grind
  simp only [H!,zz,hM]
  repeat' first
   |exact .out (sZ J)
   |exact .jump (let ⟨ys,hL,hB⟩:=ih; ⟨ys,hL,CR ⟨hH,J,J,J,J,J,J,J,J,J⟩ hB⟩)
   |refine .ite (fun _=>?_) (fun _=>?_)
 ·have hH:H↔0<=c/\c<=a:=by
   grind
  simp only [H!,zz,hM,af b0]
  repeat' first
   |exact .out (sZ fun h=>by first |omega|(have:=hH.1 h.1; omega))
   |exact .jump (let ⟨ys,hL,hB⟩:=ih; ⟨ys,hL,CR ⟨hH.2 ⟨J,J⟩,J,J,J,J,J,J,J,J,J⟩ hB⟩)
   |refine .ite (fun _=>?_) (fun _=>?_)
theorem W! {P:Prop} {j:Nat} {xs:List Int} (h:dN j xs (Rg P)):L j xs=some [1]↔P:=by
 obtain⟨ys,hL,b,rfl,hb⟩:=h
 grind
theorem WT {d x:D} {m:Nat} {o c dn g:Int} {r v:D} (T:Tg x o c dn g r v) (Y:r.l.length<=140737488351232):Snd d x m↔Pp (d.hd 0).n (d.hd 2).n (m:Int) o c dn g r v:=by
 have h:=W! (WR (d.hd 0).n (enc (d.hd 1)) (d.hd 2).n (enc (d.hd 3)) (d.hd 4).n (m:Int) o c dn g r v Y)
 have e:(if dn=0 then (0:Int) else 1)=dn:=by rcases T.hd with rfl|rfl<;>rfl
 unfold Snd J';rw [T.is];simp only [zg,aC,UU,e];exact h
theorem CE {m:Int} {l l':List D} (h:oJ m l) (hs:l'.Sublist l):oJ m l':=⟨fun x hx=>h.1 x (hs.subset hx),h.2.sublist (hs.map _)⟩
theorem M! (m:Int):oJ m []:=⟨ad,ad⟩
theorem KG {m t:Int} {l:List D} (h:oJ m l) (hn: ∀x∈l,x.n≠t) (t0:0<=t) (t1:t<m):oJ m (l++ [.i t]):=by
 refine⟨fun x hx=>?_,?_⟩
 ·rcases amC.1 hx with hx|hx
  ·exact h.1 x hx
  ·simp only [aw,amI,or_false] at hx;subst hx;exact⟨t0,t1⟩
 ·rw [amT,anK];refine⟨h.2,ad,fun a ha b hb=>?_⟩;simp only [List.map,aw,amI,or_false,UU] at hb
  grind
theorem aed {m t:Int} {l:List D} (h:oJ m l) (t0:0<=t) (t1:t<m):oJ m (wo t l++ [.i t]):=
 KG (CE h List.filter_sublist) (fun x hx=>by simpa using (amL.1 hx).2) t0 t1
theorem M? {m:Int} {l:List D} (h:oJ m l) (k:Nat):oJ m (l.take k++l.drop (k+1)):=by rw [<- aoK];exact CE h (aoL _ _)
theorem KP {r:D} {t:Int} (h:place r t<0): ∀x∈r.l,x.n≠t:=by
 rcases jd r t with ⟨_,Z⟩|⟨k,_,U,_⟩
 all_goals grind
def UM (k N m:Int):Act->Prop
 | .res o c dn g r v _ _ _=>Pp k N m o c dn g r v
 |_=>True
theorem UM.ite {k N m:Int} {p:Prop} [Decidable p] {a b:Act} (ha:p->UM k N m a) (hb: ¬p->UM k N m b):UM k N m (if p then a else b):=by
 grind
theorem D4 {op k:Int} (h0:0<=op) (hk:kindOf op=k) (U:1<=k) :
 (op=1\/op=2\/op=3\/op=4)/\k=1\/(op=5\/op=6\/op=7\/op=8)/\k=2\/(op=9\/op=10\/op=11)/\k=3\/(op=12\/op=13\/op=14\/op=24)/\k=4\/(op=15\/op=25)/\k=5\/(op=16\/op=26)/\k=6\/(op=17\/op=18\/op=19)/\k=7\/(op=20\/op=21)/\k=8\/(op=22\/op=23)/\k=9:=by
 unfold kindOf at hk;by_cases h27:op<27
 ·have:op=0\/op=1\/op=2\/op=3\/op=4\/op=5\/op=6\/op=7\/op=8\/op=9\/op=10\/op=11\/op=12\/op=13\/op=14\/op=15\/op=16\/op=17\/op=18\/op=19\/op=20\/op=21\/op=22\/op=23\/op=24\/op=25\/op=26:=J
  rcases this with rfl|rfl|rfl|rfl|rfl|rfl|rfl|rfl|rfl|rfl|rfl|rfl|rfl|rfl|rfl|rfl|rfl|rfl|rfl|rfl|rfl|rfl|rfl|rfl|rfl|rfl|rfl
  all_goals simp at hk
  all_goals subst hk
  all_goals first |omega|simp
 grind
section
variable {d0 x:D} {k N m mo th op arg tries o c dn g:Int} {r v:D}
set_option maxHeartbeats 8000000 in
theorem aaT (T:Tg x o c dn g r v) (S:Pp k N m o c dn g r v) (tY:0<=op) (hk:kindOf op=k) (hO:OkO d0 k N) (t0:0<=th) (t1:th<m) (hm:m<=16):UM k N m (act N mo th op arg tries o c dn g r v):=by
 obtain⟨P,R,E⟩:=S;have hc1:=T.hc.1;have hc2:=T.hc.2;have hg1:=T.hg.1;have hd:=T.hd;have pr:=gk r th;have pn:=fun h=>KP (r:=r) (t:=th) h;have rs:=fun h=>KG R (KP (r:=r) (t:=th) h) t0 t1;have rw':=aed R t0 t1
 have rd:=M? R (place r th).toNat
 have r1:=CE R (List.drop_sublist 1 r.l);obtain⟨k1,k2,_,kn,k5,_⟩:=hO;unfold HW qi at P;unfold Ck at E;have MV:=D4 tY hk k1;rcases MV with ⟨h|h|h|h,uC⟩|⟨h|h|h|h,uC⟩|⟨h|h|h,uC⟩|⟨h|h|h|h,uC⟩|⟨h|h,uC⟩|⟨h|h,uC⟩|⟨h|h|h,uC⟩|⟨h|h,uC⟩|⟨h|h,uC⟩
 all_goals
  subst h;subst uC;simp only [act,Int.reduceEq,if_true,if_false,reduceIte]
  repeat' first
   |exact trivial
   |refine UM.ite (fun _=>?_) (fun _=>?_)
 all_goals
  refine⟨?_,?_,?_⟩
  ·clear rs rw' rd r1 pn;unfold HW qi
   try simp only [bI,fc,rj,aZ,aL,bg,br,IntKind.wrap_i64,true_or,or_true,true_and,and_true,implies_true,true_implies] at *
   omega
  ·try simp only [bI,fc,rj]
   first
    |exact R
    |exact rs J
    |exact rw'
    |exact rd
    |exact r1
    |exact M! _
  ·unfold Ck
   try simp only [bI,fc,rj,aZ,aL,bg,br,a8,IntKind.wrap_i64,true_or,or_true,true_and,and_true,implies_true,true_implies] at *
   omega
end
structure afO (d0 d1 s k:D) (t:Int) (n:Nat) (s' k':D) (e1 e2 e3 e4 e5 oc:Int):Prop where
 eq:L 1850 [enc d0,enc d1,enc s,enc k,t]=some [enc s',enc k',e1,e2,e3,e4,e5,oc]
 sx:Sx s' k' (n+1)
 ls:s'.l.length=s.l.length
 lk:k'.l.length=k.l.length
section
variable {d0 d1 s k:D} {n:Nat} (S:Sx s k n) (hn:n<17592186043904) (h0:Wd (.sl 3) d0) (U:Wd (.sl 4) d1)
include S hn h0 U
theorem XE {t:Int} {x:KT} (R:Rs d0 d1 s k t x) (ho:iB d1 t x=0) (ha:low (jq d1 t x) 4=0):Sx s (mX k t (uA (Ins d1 t x) x)) n:=by
 have hp:0<k.l.length:=by have:=R.r.t0; have:=R.ht; omega
 exact⟨S.g,Pz S.wk ((La R.c R.ht R.r (N2 R.r ho ha)).1.kt R.c) hp,S.n2s,PV hp _ _⟩
theorem Kz (t:Int): ∃s' k' e1 e2 e3 e4 e5 oc,afO d0 d1 s k t n s' k' e1 e2 e3 e4 e5 oc:=by
 rcases P0 (t:=t) S hn h0 U with h|⟨x,R⟩
 ·exact⟨s,k,0,0,0,0,0,0,PR S h,S.mono (am3 n),rfl,rfl⟩
 ·rcases CI d1 t x with ho|ho
  ·by_cases ha:low (jq d1 t x) 4=0
   ·exact⟨_,_,0,0,0,0,0,1,Dw S R ho ha,(XE S hn h0 U R ho ha).mono (am3 n),rfl,pw _ _ _⟩
   ·obtain⟨op,obj,arg,tr,hq⟩:=GM J ha;obtain⟨k1,k2,k3⟩:=QC R.c R.r R.c.ok.1 hq
    have fN:gq .i64 t:=by have:=R.r.t0;have:=R.r.t1;have:=U.len;exact⟨J,J⟩
    obtain⟨s',e1,e2,e3,e4,e5,oc,A⟩:=PG (tries:=tr) h0 U S.g hn fN k1 k2 k3;exact⟨s',_,e1,e2,e3,e4,e5,oc,Dv S R ho hq A,VK S R.c R.r R.ht (f_ R.r ho) A,A.len,pw _ _ _⟩
  ·exact⟨s,k,0,0,0,0,0,4,Ga S R ho,S.mono (am3 n),rfl,rfl⟩
end
def pB (x n:Int):Int:=if x.tmod n<0 then x.tmod n+n else x.tmod n
theorem Dg {x n:Int} (h:0<n): -n<x.tmod n/\x.tmod n<n:=by have U:=anE x h;have Z:=anE (-x) h;rw [Int.neg_tmod] at Z;omega
theorem Gv {x n:Int} (h:0<n):0<=pB x n/\pB x n<n:=by
 have:=Dg (x:=x) h;unfold pB
 grind
theorem TA {x n:Int} (h:0<n) (hb:n<=140737488351232):(IntKind.i64.wrap (x.tmod n+n)).tmod n=pB x n:=by
 have U:=Dg (x:=x) h;rw [lU J J];unfold pB;split
 ·exact Int.tmod_eq_of_lt J J
 ·rw [Int.tmod_eq_emod_of_nonneg J,Int.add_emod_right];exact Int.emod_eq_of_lt J J
inductive UB (d0 d1 s:D) (t op obj arg tries:Int):D->Int->Int->Int->Int->Int->Int->Prop
 |no:UB d0 d1 s t op obj arg tries s 0 0 0 0 0 0
 |xN (A:Acc d0 d1 s t op obj):UB d0 d1 s t op obj arg tries s t 27 obj (IntKind.i64.wrap op) 0 2
 |res (A:Acc d0 d1 s t op obj) (o c dn g:Int) (r v:D) (o' c' pb g':Int) (r' v':D) (m:Option Int) (a oc:Int) (T:Tg (s.at obj) o c dn g r v)
  (h:act (Mx d0 obj) (Mo d0 s obj) t op arg tries o c dn g r v= .res o' c' pb g' r' v' m a oc):UB d0 d1 s t op obj arg tries (rW s obj (Mx d0 obj) (.res o' c' pb g' r' v' m a oc)) t op obj a 0 oc
section
variable {d0 d1 s s':D} {t op obj arg tries e1 e2 e3 e4 e5 oc:Int} {n:Nat}
theorem Ng (h0:Wd (.sl 3) d0) (U:Wd (.sl 4) d1) (G:Gs s n) (hn:n<17592186043904) (tY:gq .u8 op) (A:HR d0 d1 s t op obj arg tries n s' e1 e2 e3 e4 e5 oc):UB d0 d1 s t op obj arg tries s' e1 e2 e3 e4 e5 oc:=by
 have hf:=G.mI (by omega:n<17592186044415);have hA:=A.eq;by_cases h:Acc d0 d1 s t op obj
 ·obtain⟨_,o,c,dn,g,r,v,T,hL⟩:=H6 (arg:=arg) (tries:=tries) h0 U G.wd hf tY h;rw [IC] at hL;rw [hA] at hL
  cases hB:act (Mx d0 obj) (Mo d0 s obj) t op arg tries o c dn g r v with
  |kE=> rw [hB] at hL;simp only [evA,ag,List.cons.injEq,and_true] at hL;obtain⟨q,rfl,rfl,rfl,rfl,rfl,rfl⟩:=hL;have q:=gZ q;subst q;exact .no
  |xN=> rw [hB] at hL;simp only [evA,ag,List.cons.injEq,and_true] at hL;obtain⟨q,rfl,rfl,rfl,rfl,rfl,rfl⟩:=hL;have q:=gZ q;subst q;exact .xN h
  |res o' c' pb g' r' v' m a oc'=> rw [hB] at hL;simp only [evA,ag,List.cons.injEq,and_true] at hL;obtain⟨q,rfl,rfl,rfl,rfl,rfl,rfl⟩:=hL;have q:=gZ q;subst q;exact .res h o c dn g r v o' c' pb g' r' v' m _ _ T hB
 ·have hL:=Nf (arg:=arg) (tries:=tries) h0 U G.wd hf tY h;rw [hA] at hL;simp only [ag,List.cons.injEq,and_true] at hL;obtain⟨q,rfl,rfl,rfl,rfl,rfl,rfl⟩:=hL;have q:=gZ q;subst q;exact .no
end
section
variable {d0 d1 s:D} {n:Nat} (h0:Wd (.sl 3) d0) (U:Wd (.sl 4) d1) (G:Gs s n) (hn:n<17592186044000)
include h0 U G hn
theorem sQ (R:L 350 [enc d0,enc d1,enc s]=some [1]):L 450 [enc d0,enc d1]=some [0]/\uY d0 d1/\s.l.length=d0.l.length:=by obtain⟨b,hb,_,hi⟩:=lO h0 U (G.mI J).rows;rw [R] at hb;simp only [ag,List.cons.injEq,and_true] at hb;obtain⟨hC,hle,_⟩:=hi.1 hb.symm;exact⟨hC,DD h0 U (G.mI J) R⟩
theorem Ir (R:L 350 [enc d0,enc d1,enc s]=some [1]) {i:Int} (i0:0<=i) (i1:i<(s.l.length:Int)) {o c dn g:Int} {r v:D} (T:Tg (s.at i) o c dn g r v):Pp ((d0.at i).hd 0).n ((d0.at i).hd 2).n (d1.l.length:Int) o c dn g r v:=by
 obtain⟨b,hb,_,hi⟩:=lO h0 U (G.mI J).rows;rw [R] at hb;simp only [ag,List.cons.injEq,and_true] at hb;obtain⟨_,hle,hs⟩:=hi.1 hb.symm;obtain⟨k,rfl⟩ : ∃k:Nat,i=(k:Int):=⟨i.toNat,J⟩;have hk:k<s.l.length:=J
 have h:=hs k hk;rw [ct hk] at T;have ij:=G.rows _ (az hk);rw [T.is] at ij;have Y:r.l.length<=140737488351232:=by have:=ij.1; have:r.l.length<=n:=this; omega
 rw [WT T Y] at h;rw [ct (by omega:k<d0.l.length)];exact h
theorem ah2 (hC:L 450 [enc d0,enc d1]=some [0]) (hle:s.l.length=d0.l.length) (h: ∀i:Nat,i<s.l.length->∃o c dn g r v,Tg (s.at (i:Int)) o c dn g r v/\Pp ((d0.at (i:Int)).hd 0).n ((d0.at (i:Int)).hd 2).n (d1.l.length:Int) o c dn g r v):L 350 [enc d0,enc d1,enc s]=some [1]:=by
 obtain⟨b,hb,_,hi⟩:=lO h0 U (G.mI J).rows;rw [hb,hi.2 ⟨hC,hle,fun k hk=>?_⟩];obtain⟨o,c,dn,g,r,v,T,P⟩:=h k hk;rw [ct hk] at T;rw [ct (by omega:k<d0.l.length)] at P;have ij:=G.rows _ (az hk);rw [T.is] at ij;have Y:r.l.length<=140737488351232:=by have:=ij.1; have:r.l.length<=n:=this; omega
 exact (WT T Y).2 P
end
theorem LJ {s:D} {n:Nat} (G:Gs s n) {i:Int} (i0:0<=i) (i1:i<(s.l.length:Int)): ∃o c dn g r v,Tg (s.at i) o c dn g r v/\r.l.length<=n/\v.l.length<=n:=by
 obtain⟨k,rfl⟩ : ∃k:Nat,i=(k:Int):=⟨i.toNat,J⟩;have hk:k<s.l.length:=J
 obtain⟨o,c,dn,g,r,v,T⟩:=Di (G.wd.nG _ (az hk));have ij:=G.rows _ (az hk);rw [T.is] at ij;exact⟨o,c,dn,g,r,v,by rw [ct hk]; exact T,ij.1,ij.2⟩
def UN (th:Int):Act->Prop
 | .res _ _ _ _ _ _ m _ _=> ∀q,m=some q->q= -1\/q=th
 |_=>True
theorem UN.ite {th:Int} {p:Prop} [Decidable p] {a b:Act} (ha:UN th a) (hb:UN th b):UN th (if p then a else b):=by
 grind
theorem akq {M mo th op arg tries o c dn g:Int} {r v:D}:UN th (act M mo th op arg tries o c dn g r v):=by
 have e1: ∀q:Int,(none:Option Int)=some q->q= -1\/q=th:=fun q h=>by simp at h
 have e2: ∀q:Int,some (-1:Int)=some q->q= -1\/q=th:=fun q h=>by simp only [ag] at h; exact .inl h.symm
 have e3: ∀q:Int,some th=some q->q= -1\/q=th:=fun q h=>by simp only [ag] at h; exact .inr h.symm
 unfold act
 repeat' refine UN.ite ?_ ?_
 all_goals first
  |trivial
  |exact e1
  |exact e2
  |exact e3
theorem JY {s:D} {i:Nat} {x:D} (h:s.l[i]?=some x):s.at (i:Int)=x:=by rw [og,h]; rfl
section
variable {d0 d1 s:D} {t op obj arg tries:Int} {n:Nat} (h0:Wd (.sl 3) d0) (U:Wd (.sl 4) d1) (G:Gs s n) (hn:n<17592186043904) (tY:gq .u8 op) (ht:gq .i64 t) (ha:gq .i64 arg)
include h0 U G hn tY ht ha
theorem Tp (A:Acc d0 d1 s t op obj) {o c dn g:Int} {r v:D} (T:Tg (s.at obj) o c dn g r v) {o' c' pb g':Int} {r' v':D} {m:Option Int} {a oc:Int}
 (h:act (Mx d0 obj) (Mo d0 s obj) t op arg tries o c dn g r v= .res o' c' pb g' r' v' m a oc):L 350 [enc d0,enc d1,enc (rW s obj (Mx d0 obj) (.res o' c' pb g' r' v' m a oc))]=some [1]:=by
 obtain⟨hC,ok,hle⟩:=sQ h0 U G J A.r;have a0:=A.o0;have a1:=A.o1;obtain⟨i,rfl⟩ : ∃i:Nat,obj=(i:Int):=⟨obj.toNat,J⟩;have hi:i<s.l.length:=J
 have hO:=ok.2.2 _ (xO (d:=d0) a0 J)
 have hrv:r.l.length<=n/\v.l.length<=n:=by
  have ij:=G.rows _ (az hi);have e:s.l[i]=dL [.i o,.i c,.i dn,.i g,r,v]:=by rw [<- ct hi]; exact T.is
  rw [e] at ij;exact ij
 have hS:=Ir h0 U G J A.r a0 a1 T;have hS':=aaT (d0:=d0) (mo:=Mo d0 s (i:Int)) (tries:=tries) (arg:=arg) (th:=t) T hS tY.1 A.k hO A.t0 A.t1 (by have:=ok.2.1; omega);have hK:=i! (M:=Mx d0 (i:Int)) (mo:=Mo d0 s (i:Int)) (op:=op) (tries:=tries) T (n:=n) hrv.1 hrv.2 J ht ha;have hQ:=akq (M:=Mx d0 (i:Int)) (mo:=Mo d0 s (i:Int)) (th:=t) (op:=op) (arg:=arg) (tries:=tries) (o:=o) (c:=c) (dn:=dn) (g:=g) (r:=r) (v:=v)
 have hN:m=none\/op=12\/op=24:=by
  by_cases Z:op=12\/op=24
  ·grind
  ·have:=HO (M:=Mx d0 (i:Int)) (mo:=Mo d0 s (i:Int)) (th:=t) (op:=op) (arg:=arg) (tries:=tries) (o:=o) (c:=c) (dn:=dn) (g:=g) (r:=r) (v:=v) J J;rw [h] at this;exact .inl this
 rw [h] at hS' hK hQ
 have hM:UJ (.res o' c' pb g' r' v' m a oc)\/0<=Mx d0 (i:Int)/\Mx d0 (i:Int)<(s.l.length:Int)/\Mx d0 (i:Int)≠(i:Int):=by
  rcases hN with Z|Z
  ·exact .inl Z
  ·exact .inr (Ft h0 U G.wd (G.mI J) tY A Z)
 have G':=P3 G hK a0 a1 (hM.imp id fun h=> ⟨h.1,h.2.1⟩);have Y:=KL s (i:Int) (Mx d0 (i:Int)) (.res o' c' pb g' r' v' m a oc)
 have hd:(if pb=0 then (0:Int) else 1)=pb:=by rcases hK.2.2.1 with rfl|rfl<;>rfl
 refine ah2 h0 U G' J hC (by rw [Y]; exact hle) fun j hj=>?_;rw [Y] at hj;by_cases hji:j=i
 ·subst hji
  have e:(rW s (j:Int) (Mx d0 (j:Int)) (.res o' c' pb g' r' v' m a oc)).at (j:Int)=dL [.i o',.i c',.i pb,.i g',r',v']:=by refine JY ?_;unfold rW;rw [bI,hd];exact vu (by cases m with |none=>exact hj|some q=>rw [fB]; exact hj)
  exact⟨o',c',pb,g',r',v',⟨e,hK.1,hK.2.1,hK.2.2.1,hK.2.2.2.1,hK.2.2.2.2.1,hK.2.2.2.2.2.2.1⟩,hS'⟩
 ·by_cases hjm:UJ (.res o' c' pb g' r' v' m a oc)\/(j:Int)≠Mx d0 (i:Int)
  ·have e:(rW s (i:Int) (Mx d0 (i:Int)) (.res o' c' pb g' r' v' m a oc)).at (j:Int)=s.at (j:Int):=by
    rw [og,og,DM J hjm]
   obtain⟨o2,c2,w!,g2,r2,v2,T2,_,_⟩:=LJ G (i:=(j:Int)) J J;exact⟨o2,c2,w!,g2,r2,v2,by rw [e]; exact T2,Ir h0 U G J A.r J J T2⟩
  ·have hj1:(j:Int)=Mx d0 (i:Int):=Decidable.byContradiction fun gn=>hjm (.inr gn)
   cases m with
   |none=>exact absurd (.inl rfl) hjm
   |some q=>
    obtain⟨o2,c2,w!,g2,r2,v2,T2,_,_⟩:=LJ G (i:=(j:Int)) J J;have P2:=Ir h0 U G J A.r J J T2
    have hk1:((d0.at (j:Int)).hd 0).n=1:=by
     have h4:((d0.at (i:Int)).hd 0).n=4:=by
      rw [<- A.k];rcases hN with Z|Z|Z
      ·grind
      ·rw [Z]; rfl
      ·rw [Z]; rfl
     obtain⟨_,_,m3⟩:=hO.2.2.2.2.2 h4
     grind
    have e:(rW s (i:Int) (Mx d0 (i:Int)) (.res o' c' pb g' r' v' (some q) a oc)).at (j:Int)=dL [.i q,.i c2,.i w!,.i g2,r2,v2]:=by refine JY ?_;unfold rW;rw [bI,l9 J,<- hj1,vu J,T2.is];rfl
    refine⟨q,c2,w!,g2,r2,v2,⟨e,hK.2.2.2.2.2.2.2.2.1 q rfl,T2.hc,T2.hd,T2.hg,T2.hr,T2.hv⟩,?_⟩;have t0:=A.t0;have t1:=A.t1;have hq:=hQ q rfl;rw [hk1] at P2 ⊢;obtain⟨p,q2,q3⟩:=P2;unfold HW qi at p;unfold Ck at q3;refine⟨?_,q2,?_⟩
    ·unfold HW qi;omega
    ·unfold Ck;omega
end
def UL (op:Int):Act->Prop
 | .res _ _ _ _ _ _ _ _ oc=>oc=2\/oc=3/\(op=12\/op=15)
 |_=>True
theorem UL.ite {op:Int} {p:Prop} [Decidable p] {a b:Act} (ha:p->UL op a) (hb: ¬p->UL op b):UL op (if p then a else b):=by
 grind
theorem ac2 {M mo th op arg tries o c dn g:Int} {r v:D}:UL op (act M mo th op arg tries o c dn g r v):=by
 unfold act
 repeat' first
  |trivial
  |exact .inl rfl
  |exact .inr ⟨rfl,.inl (by assumption)⟩
  |exact .inr ⟨rfl,.inr (by assumption)⟩
  |refine UL.ite (fun _=>?_) (fun _=>?_)
section
variable {d0 d1 s s' k:D} {t op obj arg tries e1 e2 e3 e4 e5 oc:Int} {n:Nat} {x:KT}
theorem adR (C:Cd d0 d1) (R:Rt d0 d1 t x) (hx:x.w=0->x.a<(Nc d1 t:Int)) (hle:s.l.length=d0.l.length) (h3:gq .i64 e3) (h4:gq .i64 e4) (T:UB d0 d1 s t op obj arg tries s' e1 e2 e3 e4 e5 oc):Rt d0 d1 t (oL (Ins d1 t x) x op e2 e3 e4 oc):=by
 obtain⟨a',lc',w',o',g',tr',hK⟩:=VL (op:=op) (e2:=e2) (oc:=oc) C R hx h3 h4;have hd:=hK.is;simp only [KT.d,iG,ku,D.p.injEq,D.i.injEq,and_true] at hd;obtain⟨e_a,e_l,e_w,e_o,e_g,e_t⟩:=hd
 have hw3:oc=3->0<=e3/\e3<(d0.l.length:Int)/\(e2=15/\((d0.at e3).hd 0).n=5\/e2≠15/\((d0.at e3).hd 0).n=4):=by
  intro ho
  cases T with
  |no=>omega
  |xN A=>omega
  |res A o c dn g r v o' c' pb g' r' v' m a oc T h=>
   have hW:=ac2 (M:=Mx d0 obj) (mo:=Mo d0 s obj) (th:=t) (op:=op) (arg:=arg) (tries:=tries) (o:=o) (c:=c) (dn:=dn) (g:=g) (r:=r) (v:=v);rw [h] at hW;have hk:=A.k;have:=A.o0;have:=A.o1;refine⟨A.o0,J,?_⟩;rcases hW with hW|⟨_,hW|hW⟩
   ·omega
   ·subst hW;exact .inr ⟨J,by rw [<- hk]; rfl⟩
   ·subst hW;exact .inl ⟨rfl,by rw [<- hk]; rfl⟩
 refine⟨R.t0,R.t1,?_,by rw [e_l]; exact hK.Y,by rw [e_g]; exact hK.hg⟩;obtain⟨a0,a1,Om,tr0,tr1,hw⟩:=R.ok;unfold oL;by_cases o0:oc=0
 ·rw [ah o0];split
  ·refine⟨a0,a1,Om,?_,?_,hw⟩
   all_goals grind
  ·exact⟨a0,a1,Om,tr0,tr1,hw⟩
 ·rw [af o0];by_cases w0:x.w=0
  ·rw [ah w0];have c4:=hx w0;have F:=C.inf R c4;have ok:=F.ok;unfold B! at ok;unfold Nc at c4;have hxo:x.o=0/\x.g=0:=J
   refine⟨?_,?_,?_,Int.le_refl _,by show (0:Int)<=4611686018427387904; omega,?_⟩
   ·grind
   ·grind
   ·show ((if ((Ins d1 t x).hd 0).n=1/\¬((Ins d1 t x).hd 3).n<0 then dL (fb x.lc.l ((Ins d1 t x).hd 3).n (.i e4)) else x.lc).l.length:Int)=_;split
    ·rw [bI,fB]; exact Om
    grind
   grind
  ·rw [af w0];exact⟨a0,a1,Om,Int.le_refl _,by show (0:Int)<=4611686018427387904; omega,.inl ⟨rfl,rfl,rfl⟩⟩
end
inductive vQ (d0 d1 s k:D) (t:Int) (n:Nat):D->D->Int->Int->Int->Int->Int->Int->Prop
 |no (h:L 1550 [enc d0,enc d1,enc s,enc k,t]=some [0]):vQ d0 d1 s k t n s k 0 0 0 0 0 0
 |over (x:KT) (R:Rs d0 d1 s k t x) (ho:iB d1 t x=1):vQ d0 d1 s k t n s k 0 0 0 0 0 4
 |loc (x:KT) (R:Rs d0 d1 s k t x) (ho:iB d1 t x=0) (ha:low (jq d1 t x) 4=0):vQ d0 d1 s k t n s (mX k t (uA (Ins d1 t x) x)) 0 0 0 0 0 1
 |tri (x:KT) (R:Rs d0 d1 s k t x) (ho:iB d1 t x=0) (op obj arg tr:Int) (hq:jq d1 t x= [op,obj,arg,tr,1]) (k1:gq .u8 op) (k2:gq .i64 obj) (k3:gq .i64 arg) (fN:gq .i64 t) (s':D) (e1 e2 e3 e4 e5 oc:Int)
  (A:HR d0 d1 s t op obj arg tr n s' e1 e2 e3 e4 e5 oc) (T:UB d0 d1 s t op obj arg tr s' e1 e2 e3 e4 e5 oc):vQ d0 d1 s k t n s' (mX k t (oL (Ins d1 t x) x op e2 e3 e4 oc)) e1 e2 e3 e4 e5 oc
section
variable {d0 d1 s k:D} {n:Nat} (S:Sx s k n) (hn:n<17592186043904) (h0:Wd (.sl 3) d0) (U:Wd (.sl 4) d1)
include S hn h0 U
theorem Dx (t:Int): ∃s' k' e1 e2 e3 e4 e5 oc,L 1850 [enc d0,enc d1,enc s,enc k,t]=some [enc s',enc k',e1,e2,e3,e4,e5,oc]/\vQ d0 d1 s k t n s' k' e1 e2 e3 e4 e5 oc:=by
 rcases P0 (t:=t) S hn h0 U with h|⟨x,R⟩
 ·exact⟨s,k,0,0,0,0,0,0,PR S h,.no h⟩
 ·rcases CI d1 t x with ho|ho
  ·by_cases ha:low (jq d1 t x) 4=0
   ·exact⟨_,_,0,0,0,0,0,1,Dw S R ho ha,.loc x R ho ha⟩
   ·obtain⟨op,obj,arg,tr,hq⟩:=GM J ha;obtain⟨k1,k2,k3⟩:=QC R.c R.r R.c.ok.1 hq
    have fN:gq .i64 t:=by have:=R.r.t0;have:=R.r.t1;have:=U.len;exact⟨J,J⟩
    obtain⟨s',e1,e2,e3,e4,e5,oc,A⟩:=PG (tries:=tr) h0 U S.g hn fN k1 k2 k3;exact⟨s',_,e1,e2,e3,e4,e5,oc,Dv S R ho hq A,.tri x R ho op obj arg tr hq k1 k2 k3 fN s' e1 e2 e3 e4 e5 oc A (Ng h0 U S.g hn k1 A)⟩
  ·exact⟨s,k,0,0,0,0,0,4,Ga S R ho,.over x R ho⟩
theorem yD {t:Int} {s' k':D} {e1 e2 e3 e4 e5 oc:Int} (H:vQ d0 d1 s k t n s' k' e1 e2 e3 e4 e5 oc):Sx s' k' (n+1)/\s'.l.length=s.l.length/\k'.l.length=k.l.length:=by
 cases H with
 |no h=>exact⟨S.mono (am3 n),rfl,rfl⟩
 |over x R ho=>exact⟨S.mono (am3 n),rfl,rfl⟩
 |loc x R ho ha=>exact⟨(XE S hn h0 U R ho ha).mono (am3 n),rfl,pw _ _ _⟩
 |tri x R ho op obj arg tr hq k1 k2 k3 fN s' e1 e2 e3 e4 e5 oc A T=>exact⟨VK S R.c R.r R.ht (f_ R.r ho) A,A.len,pw _ _ _⟩
omit h0 U in
theorem Xv {t:Int} {x:KT} {s':D} (M:MR d0 d1 s k) (R:Rt d0 d1 t x) (ht:t<(k.l.length:Int)) (hs:L 350 [enc d0,enc d1,enc s']=some [1]):MR d0 d1 s' (mX k t x):=by
 obtain⟨_,hle,hO⟩:=M;refine⟨hs,(pw k t x).trans hle,fun i hi=>?_⟩;have hi':i<k.l.length:=by rw [pw] at hi; exact hi
 have t0:=R.t0;obtain⟨j,rfl⟩ : ∃j:Nat,t=(j:Int):=⟨t.toNat,J⟩;by_cases hij:i=j
 ·subst hij
  have e:(mX k (i:Int) x).l[i]=x.d:=by rw [<- ct hi];exact K! J ht x
  have ok:=R.ok;rw [ct (by omega:i<d1.l.length)] at ok;unfold OkK;rw [e];simp only [KT.d,zg,aC,UU];exact ok
 ·have e:(mX k (j:Int) x).l[i]=k.l[i]:=by
   have h:=l9 (l:=k.l) (z:=(j:Int)) (y:=x.d) (k:=i) J
   have Z:(mX k (j:Int) x).l[i]?=k.l[i]?:=by show (dL (fb k.l (j:Int) x.d)).l[i]?=_;rw [bI];exact h
   grind
  grind
theorem KA {t:Int} {s' k':D} {e1 e2 e3 e4 e5 oc:Int} (M:MR d0 d1 s k) (H:vQ d0 d1 s k t n s' k' e1 e2 e3 e4 e5 oc):MR d0 d1 s' k':=by
 cases H with
 |no h=>exact M
 |over x R ho=>exact M
 |loc x R ho ha=>exact Xv S hn M (La R.c R.ht R.r (N2 R.r ho ha)).1 R.ht M.1
 |tri x R ho op obj arg tr hq k1 k2 k3 fN s' e1 e2 e3 e4 e5 oc A T=>
  have hle:=(sQ h0 U S.g J M.1).2.2;have hR:=adR R.c R.r (f_ R.r ho) hle A.e3 A.e4 T;refine Xv S hn M hR R.ht ?_
  cases T with
  |no=>exact M.1
  |xN A'=>exact M.1
  |res A' o c dn g r v o' c' pb g' r' v' m a oc T' h=>exact Tp h0 U S.g hn k1 fN k3 A' T' h
end
theorem MR.thr {d0 d1 s k:D} {n:Nat} (S:Sx s k n) (hn:n<17592186043904) (h0:Wd (.sl 3) d0) (U:Wd (.sl 4) d1) (M:MR d0 d1 s k) {t:Int} (t0:0<=t) (t1:t<(d1.l.length:Int)): ∃x,Rs d0 d1 s k t x:=by
 obtain⟨ys,hL,b,rfl,hb⟩:=KI (k:=k) h0 U (S.g.mI J).rows U.len t;rcases hb with ⟨_,hb⟩|⟨rfl,_⟩
 ·grind
 ·rcases P0 (t:=t) S hn h0 U with h|h
  all_goals grind
def EqN (a b:D):Prop:=a.l.length=b.l.length/\∀(i:Nat),(a.at (i:Int)).n=(b.at (i:Int)).n
structure KEq (x y:D):Prop where
 c0:(x.hd 0).n=(y.hd 0).n
 c1:EqN (x.hd 1) (y.hd 1)
 c2:(x.hd 2).n=(y.hd 2).n
 c3:(x.hd 3).n=(y.hd 3).n
 c4:(x.hd 4).n=(y.hd 4).n
 c5:(x.hd 5).n=(y.hd 5).n
def aew (k:D):Prop:=k.l.length<=140737488351232/\∀i:Nat,((k.at (i:Int)).hd 1).l.length<=140737488351232
section
variable {s k s' k':D} (Y:k.l.length=k'.l.length) (hq: ∀i:Nat,KEq (k.at (i:Int)) (k'.at (i:Int))) (hb:aew k)
include Y hq hb
end
abbrev evD (e1 e2 e3 e4 e5:Int):D:=dL [.i e1,.i e2,.i e3,.i e4,.i e5]
structure PS where
 s:D
 k:D
 l:List D
noncomputable def s_ (d0 d1 s k:D) (t:Int):List Int:=(L 1850 [enc d0,enc d1,enc s,enc k,t]).getD []
noncomputable def stP (d0 d1:D) (p:PS) (t:Int):PS:=
 ⟨dec (low (s_ d0 d1 p.s p.k t) 0),dec (low (s_ d0 d1 p.s p.k t) 1),if low (s_ d0 d1 p.s p.k t) 7=2\/low (s_ d0 d1 p.s p.k t) 7=3 then p.l++ [evD (low (s_ d0 d1 p.s p.k t) 2) (low (s_ d0 d1 p.s p.k t) 3) (low (s_ d0 d1 p.s p.k t) 4) (low (s_ d0 d1 p.s p.k t) 5) (low (s_ d0 d1 p.s p.k t) 6)] else p.l⟩
noncomputable def FM (d0 d1:D):PS->List Int->PS
 |p,[]=>p
 |p,t::ts=>FM d0 d1 (stP d0 d1 p t) ts
structure POk (d1:D) (p:PS) (n:Nat):Prop where
 sx:Sx p.s p.k n
 lk:p.k.l.length=d1.l.length
 ll:p.l.length<=n
theorem WQ {d0 d1:D} {p:PS} {t:Int} {n:Nat} {s' k':D} {e1 e2 e3 e4 e5 oc:Int} (A:afO d0 d1 p.s p.k t n s' k' e1 e2 e3 e4 e5 oc):stP d0 d1 p t=⟨s',k',if oc=2\/oc=3 then p.l++ [evD e1 e2 e3 e4 e5] else p.l⟩:=by unfold stP s_;rw [A.eq];simp only [aC,bK,bL,bB]<;>rfl
theorem WO {d0 d1:D} {p:PS} {t:Int} {n:Nat} (P:POk d1 p n) {s' k':D} {e1 e2 e3 e4 e5 oc:Int} (A:afO d0 d1 p.s p.k t n s' k' e1 e2 e3 e4 e5 oc):POk d1 (stP d0 d1 p t) (n+1):=by
 rw [WQ A];refine⟨A.sx,A.lk.trans P.lk,?_⟩;have:=P.ll;show (if oc=2\/oc=3 then p.l++ [evD e1 e2 e3 e4 e5] else p.l).length<=n+1;split
 ·rw [aZ]; exact Nat.succ_le_succ this
 ·omega
def pkD (d1:D) (x:D):Int:=pB x.n (d1.l.length:Int)
theorem dr {ρ:Nat->Int} (a b:V):(V.rem a b).den ρ=(a.den ρ).tmod (b.den ρ):=rfl
theorem aio:((3:Int)=2)=False:=ad
theorem aiq:((1:Int)=2)=False:=ad
theorem aip:((1:Int)=3)=False:=ad
section
variable {d0 d1:D} (h0:Wd (.sl 3) d0) (U:Wd (.sl 4) d1)
include h0 U
theorem PY: ∀(ts:List Int) (p:PS) (n:Nat),POk d1 p n->n+ts.length<17592186043904->POk d1 (FM d0 d1 p ts) (n+ts.length)
 |[],p,n,P,_=>P
 |t::ts,p,n,P,hn=>by
  simp only [aL] at hn;obtain⟨s',k',e1,e2,e3,e4,e5,oc,A⟩:=Kz P.sx J h0 U t;have h:=PY ts _ (n+1) (WO P A) J;have e:n+1+ts.length=n+(t::ts).length:=by rw [aL]; omega
  rw [e] at h;exact h
end
theorem Nj (d1:D):(ph d1).l.length=d1.l.length:=by
 unfold ph;split
 ·rename_i h; rw [h]; rfl
 ·rw [bI,aP]
section
variable {d0 d1:D} (h0:Wd (.sl 3) d0) (U:Wd (.sl 4) d1)
include h0 U
theorem d?:(∃s k:D,L 1450 [enc d0,enc d1]=some [enc s,enc k,0]/\POk d1 ⟨s,k,[]⟩ 0)\/(∃c:Int,c≠0/\L 1450 [enc d0,enc d1]=some [enc (.i 1),enc (.i 1),c]):=by
 obtain⟨ys,hC,c,rfl,_,oP⟩:=wS h0 U;by_cases hc:c=0
 ·subst hc;have ok:=(oP rfl).1;exact .inl ⟨_,_,TU U hC ok,WK h0 U ok,Nj d1,au _⟩
 ·exact .inr ⟨c,hc,TS hC hc⟩
end
theorem WJ:Sx (.i 1) (.i 1) 0:=⟨⟨.nil 7,fun x hx=>by simp [D.l] at hx⟩,.nil 8,ad,ad⟩
theorem N5 {x y:KT} (h:x.d=y.d):x=y:=by
 simp only [KT.d,iG,ku,D.p.injEq,D.i.injEq,and_true] at h;obtain⟨U,Z,h3,h4,h5,h6⟩:=h;cases x; cases y
 grind
structure One (d0 d1 s k:D) (t:Int) (s' k':D) (e1 e2 e3 e4 e5 oc:Int) (x y:KT):Prop where
 hk:k.at t=x.d
 uC:k'=mX k t y
 how:(oc=0/\s'=s/\e1=0/\e2=0/\e3=0/\e4=0/\e5=0/\y= { x with tr:=y.tr }/\L 1700 [enc d0,enc d1,enc s,enc k,t]=some [0])\/
  (oc=4/\s'=s/\e1=0/\e2=0/\e3=0/\e4=0/\e5=0/\y=x/\L 1700 [enc d0,enc d1,enc s,enc k,t]=some [1])\/
  (oc=1/\s'=s/\e1=0/\e2=0/\e3=0/\e4=0/\e5=0/\L 1700 [enc d0,enc d1,enc s,enc k,t]=some [0])\/
  ((oc=2\/oc=3)/\e2≠0/\L 1700 [enc d0,enc d1,enc s,enc k,t]=some [0])
section
variable {d0 d1 s k:D} {n:Nat} (S:Sx s k n) (hn:n<17592186043904) (h0:Wd (.sl 3) d0) (U:Wd (.sl 4) d1)
include S hn h0 U
omit S h0 U in
theorem afc {t:Int} (h:L 1550 [enc d0,enc d1,enc s,enc k,t]=some [0]):L 1700 [enc d0,enc d1,enc s,enc k,t]=some [0]:=by rw [bQ,Ze];simp only [PL,zz,h,bV]
omit S h0 U in
theorem afd {t:Int} {x:KT} (R:Rs d0 d1 s k t x):L 1700 [enc d0,enc d1,enc s,enc k,t]=some [iB d1 t x]:=by
 have hO:=yW (s:=s) R.hk R.ht R.r;have h:=R.yes;rw [bQ,Ze];rcases CI d1 t x with ho|ho
 ·rw [ho] at hO ⊢;simp only [PL,zz,h,hO,bF,bV]
 ·rw [ho] at hO ⊢;simp only [PL,zz,h,hO,bF,bV]
end
section
variable {d0 d1 s k:D} {n:Nat} (S:Sx s k n) (hn:n<17592186043900) (h0:Wd (.sl 3) d0) (U:Wd (.sl 4) d1)
include S hn h0 U
end
theorem Xt (d1:D) (t:Int) (x:KT): ∃a b c d e,jq d1 t x= [a,b,c,d,e]/\(e=0\/e=1):=by
 unfold jq;split
 ·split
  ·exact⟨_,_,_,_,_,rfl,.inl rfl⟩
  ·split
   ·exact⟨_,_,_,_,_,rfl,.inr rfl⟩
   ·split
    ·exact⟨_,_,_,_,_,rfl,.inr rfl⟩
    ·exact⟨_,_,_,_,_,rfl,.inl rfl⟩
 ·exact⟨_,_,_,_,_,rfl,.inr rfl⟩
theorem Xu {d0 d1 s k:D} {t:Int} {x:KT} (R:Rs d0 d1 s k t x):L 1800 [enc d0,enc d1,enc s,enc k,t]=some (jq d1 t x):=by
 obtain⟨a,b,c,d,e,hq,he⟩:=Xt d1 t x;have hN:=IH (s:=s) R.c R.hk R.ht R.r;have h:=R.yes;rw [hq] at hN ⊢;rw [bQ,acG];rcases he with rfl|rfl
 ·simp only [We,zz,h,hN,bF,bV]
 ·simp only [We,zz,h,hN,bF,bV]
section
variable {d0 d1 s k:D} {n:Nat} (S:Sx s k n) (hn:n<17592186043800) (h0:Wd (.sl 3) d0) (U:Wd (.sl 4) d1)
include S hn h0 U
end
end Go.As.Try
end
section
namespace Go.As.Try
open Go hiding Stat Spec shape
open Go.As
set_option maxRecDepth 100000
set_option linter.unusedSimpArgs false
set_option linter.unusedVariables false
structure Kp (x k o dn:Int) (r:D) (o' pb:Int) (r':D):Prop where
 own: ∀u,u≠x->0<=u->o=u->o'=u
 row:k≠4->∀u,u≠x->u∈r.l.map D.n->u∈r'.l.map D.n
 nor: ∀t,t≠x->t∉r.l.map D.n->t∉r'.l.map D.n
 dn: ∀u,u≠x->0<=u->o=u->dn=0->pb=0
 ot: ∀t,t≠x->0<=t->o'=t->o=t
theorem Kp.same (x k o dn:Int) (r:D):Kp x k o dn r o dn r:=⟨fun _ _ _ h=>h,fun _ _ _ h=>h,fun _ _ h=>h,fun _ _ _ _ h=>h,fun _ _ _ h=>h⟩
def UO (x k mo o dn:Int) (r:D):Act->Prop
 | .res o' _ pb _ r' _ m _ _=>Kp x k o dn r o' pb r'/\(∀q,m=some q->(q=x\/q<0)/\∀u,u≠x->0<=u->mo≠u)
 |_=>True
theorem UO.ite {x k mo o dn:Int} {r:D} {p:Prop} [Decidable p] {a b:Act} (ha:p->UO x k mo o dn r a) (hb: ¬p->UO x k mo o dn r b):UO x k mo o dn r (if p then a else b):=by
 grind
theorem adQ {t u:Int} {l:List D} (h:u≠t):u∈(wo t l).map D.n↔u∈l.map D.n:=by
 unfold wo;simp only [aK,amL,decide_eq_true_eq];constructor
 ·rintro⟨x,⟨U,_⟩,Z⟩; exact⟨x,U,Z⟩
 ·rintro⟨x,U,Z⟩; exact⟨x,⟨U,by rw [Z]; exact h⟩,Z⟩
theorem aaH {r:D} {t u:Int} (h:u≠t) (hp: ¬place r t<0) (hm:u∈r.l.map D.n):u∈(r.l.take (place r t).toNat++r.l.drop ((place r t).toNat+1)).map D.n:=by
 rcases jd r t with ⟨U,_⟩|⟨k,hk,U,Z,_⟩
 ·omega
 ·rw [U,bd];obtain⟨x,hx,rfl⟩:=aK.1 hm;have e:r.l=r.l.take k++r.l[k]::r.l.drop (k+1):=by rw [<- bo hk,amR]
  rw [e] at hx;refine aK.2 ⟨x,?_,rfl⟩;rcases amC.1 hx with hx|hx
  ·exact an7 _ hx
  ·rcases aw.1 hx with rfl|hx
   ·exact absurd Z h
   ·exact an6 _ hx
theorem aaG {r:D} {t u:Int} (hm:u∈(r.l.take (place r t).toNat++r.l.drop ((place r t).toNat+1)).map D.n):u∈r.l.map D.n:=by rw [<- aoK] at hm;exact ((aoL _ _).map _).subset hm
theorem yE {l:List D} {t u:Int}:u∈(l++ [D.i t]).map D.n↔u∈l.map D.n\/u=t:=by simp [amT,D.n]
section
variable {x k M mo th op arg tries o c dn g:Int} {r v:D}
set_option maxHeartbeats 4000000 in
theorem akr (tY:0<=op) (hk:kindOf op=k) (k1:1<=k):UO th k mo o dn r (act M mo th op arg tries o c dn g r v):=by
 have nn: ∀q,(none:Option Int)=some q->(q=th\/q<0)/\∀u,u≠th->0<=u->mo≠u:=fun q h=>by simp at h
 have sm:=Kp.same th k o dn r
 have snoc:Kp th k o dn r o dn (dL (r.l++ [.i th])):=⟨fun _ _ _ h=>h,fun _ u _ h=>by rw [bI]; exact yE.2 (.inl h),fun t ht h h'=>by
  rw [bI] at h';rcases yE.1 h' with h'|h'
  ·exact h h'
  ·exact ht h',fun _ _ _ _ h=>h,fun _ _ _ h=>h⟩
 have own: ∀o' pb:Int,(o<0\/o=th)->(o'<0\/o'=th)->Kp th k o dn r o' pb r:=fun o' pb ho wB=> ⟨fun u U Z h3=>by omega,fun _ _ _ h=>h,fun _ _ h=>h,fun u U Z h3=>by omega,fun t U Z h3=>by omega⟩;have MV:=D4 tY hk k1;rcases MV with ⟨h|h|h|h,uC⟩|⟨h|h|h|h,uC⟩|⟨h|h|h,uC⟩|⟨h|h|h|h,uC⟩|⟨h|h,uC⟩|⟨h|h,uC⟩|⟨h|h|h,uC⟩|⟨h|h,uC⟩|⟨h|h,uC⟩
 all_goals
  subst h;simp only [act,Int.reduceEq,if_true,if_false,reduceIte]
  repeat' first
   |exact trivial
   |exact⟨sm,nn⟩
   |refine UO.ite (fun _=>?_) (fun _=>?_)
 all_goals
  first
  |exact⟨own _ _ J J,nn⟩
  |exact⟨snoc,nn⟩
  |exact⟨⟨fun _ _ _ h=>h,fun _ u hu h=>by rw [fc]; exact aaH hu J h,fun t _ h h'=>by rw [fc] at h'; exact h (aaG h'),fun _ _ _ _ h=>h,fun _ _ _ h=>h⟩,nn⟩
  |exact⟨⟨fun _ _ _ h=>h,fun h4=>absurd uC h4,fun t ht h h'=>by
   rw [bI] at h';rcases yE.1 h' with h'|h'
   ·exact h ((adQ ht).1 h')
   ·exact ht h',fun _ _ _ _ h=>h,fun _ _ _ h=>h⟩,fun q hq=> ⟨by simp only [ag] at hq; omega,fun u hu h0=>by omega⟩⟩
  |exact⟨⟨fun _ _ _ h=>h,fun h4=>absurd uC h4,fun t _ h h'=>by rw [fc] at h'; exact h (((List.drop_sublist 1 r.l).map _).subset h'),fun _ _ _ _ h=>h,fun _ _ _ h=>h⟩,nn⟩
  |exact⟨⟨fun _ _ _ h=>h,fun h4=>absurd uC h4,fun t _ h h'=>by simp [D.l] at h',fun _ _ _ _ h=>h,fun _ _ _ h=>h⟩,nn⟩
  |exact⟨sm,fun q hq=> ⟨by simp only [ag] at hq; omega,fun u hu h0=>by omega⟩⟩
end
end Go.As.Try
end
section
namespace Go.As.Try
open Go hiding Stat Spec shape
open Go.As
set_option maxRecDepth 100000
set_option linter.unusedSimpArgs false
set_option linter.unusedVariables false
set_option linter.unusedSectionVars false
theorem uM {o c dn g o' c' pb g':Int} {r v r' v':D} (h:dL [.i o,.i c,.i dn,.i g,r,v]=dL [.i o',.i c',.i pb,.i g',r',v']):o=o'/\c=c'/\dn=pb/\g=g'/\r=r'/\v=v':=by simp only [iG,ku,D.p.injEq,D.i.injEq,and_true] at h;exact h
section
variable {d0 d1 s k:D} {n:Nat} (S:Sx s k n) (hn:n<17592186043800) (h0:Wd (.sl 3) d0) (U:Wd (.sl 4) d1) (M:MR d0 d1 s k)
include S hn h0 U M
theorem PU {x:Int} {s' k':D} {e1 e2 e3 e4 e5 oc:Int} (H:vQ d0 d1 s k x n s' k' e1 e2 e3 e4 e5 oc) {i:Int} (i0:0<=i) (i1:i<(s.l.length:Int)) {o c dn g:Int} {r v:D} (T:Tg (s.at i) o c dn g r v) :
 ∃o' c' pb g' r' v',Tg (s'.at i) o' c' pb g' r' v'/\Kp x ((d0.at i).hd 0).n o dn r o' pb r':=by
 have hS:=yD S J h0 U H;have same:s'=s->∃o' c' pb g' r' v',Tg (s'.at i) o' c' pb g' r' v'/\Kp x ((d0.at i).hd 0).n o dn r o' pb r':=fun h=> ⟨o,c,dn,g,r,v,by rw [h]; exact T,Kp.same _ _ _ _ _⟩
 cases H with
 |no h=>exact same rfl
 |over y R ho=>exact same rfl
 |loc y R ho ha=>exact same rfl
 |tri y R ho op obj arg tr hq k1 k2 k3 fN s' e1 e2 e3 e4 e5 oc A T'=>
  cases T' with
  |no=>exact same rfl
  |xN A'=>exact same rfl
  |res A' o2 c2 w! g2 r2 v2 o' c' pb g' r' v' m a oc T2 hB=>
   obtain⟨hC,ok,hle⟩:=sQ h0 U S.g J A'.r;have a0:=A'.o0;have a1:=A'.o1;obtain⟨j,rfl⟩ : ∃j:Nat,e3=(j:Int):=⟨e3.toNat,J⟩;obtain⟨i,rfl⟩ : ∃j:Nat,i=(j:Int):=⟨i.toNat,J⟩;have hj:j<s.l.length:=J
   have hi:i<s.l.length:=J
   have hO:=ok.2.2 _ (xO (d:=d0) a0 J);have K:=akr (M:=Mx d0 (j:Int)) (mo:=Mo d0 s (j:Int)) (th:=x) (arg:=arg) (tries:=tr) (o:=o2) (c:=c2) (dn:=w!) (g:=g2) (r:=r2) (v:=v2) k1.1 A'.k hO.1;rw [hB] at K;obtain⟨K,hm⟩:=K;obtain⟨ox,cx,dx,gx,rx,vx,Tx,_⟩:=LJ hS.1.g i0 (by omega:(i:Int)<(((rW s (j:Int) (Mx d0 (j:Int)) (.res o' c' pb g' r' v' m e4 oc)).l.length:Nat):Int));refine⟨ox,cx,dx,gx,rx,vx,Tx,?_⟩;have ex:=Tx.is;by_cases hij:i=j
   ·subst hij;obtain⟨rfl,rfl,rfl,rfl,rfl,rfl⟩:=uM (T.is.symm.trans T2.is)
    have:(rW s (i:Int) (Mx d0 (i:Int)) (.res o' c' pb g' r' v' m e4 oc)).l[i]?=some (dL [.i o',.i c',.i (if pb=0 then 0 else 1),.i g',r',v']):=by
     unfold rW;rw [bI];refine vu ?_
     cases m with
     |none=>exact hi
     |some q=>rw [fB]; exact hi
    rw [JY this] at ex;obtain⟨q1,q2,q3,q4,q5,q6⟩:=uM ex;subst q1 q5;refine⟨K.own,K.row,K.nor,fun u U Z h3 h4=>?_,K.ot⟩;rw [<- q3,K.dn u U Z h3 h4];rfl
   ·cases m with
    |none=> have:=DM (s:=s) (obj:=(j:Int)) (M:=Mx d0 (j:Int)) (A:=.res o' c' pb g' r' v' none e4 oc) (k:=i) J (.inl rfl);rw [og,this,<- og,T.is] at ex;obtain⟨rfl,rfl,rfl,rfl,rfl,rfl⟩:=uM ex;exact Kp.same _ _ _ _ _
    |some q=>
     by_cases hM:(i:Int)=Mx d0 (j:Int)
     ·have e:(rW s (j:Int) (Mx d0 (j:Int)) (.res o' c' pb g' r' v' (some q) e4 oc)).l[i]?=some (dL (fb (s.at (Mx d0 (j:Int))).l 0 (.i q))):=by
       unfold rW;rw [bI,l9 J,<- hM,vu hi]
      rw [JY e,<- hM,T.is] at ex;have e2:dL (fb (dL [.i o,.i c,.i dn,.i g,r,v]).l 0 (.i q))=dL [.i q,.i c,.i dn,.i g,r,v]:=rfl;rw [e2] at ex;obtain⟨rfl,rfl,rfl,rfl,rfl,rfl⟩:=uM ex
      have hmo:Mo d0 s (j:Int)=o:=by show ((s.at (Mx d0 (j:Int))).hd 0).n=o;rw [<- hM,T.is];rfl
      obtain⟨Oi,nev⟩:=hm q rfl;rw [hmo] at nev;exact⟨fun u U Z h3=>absurd h3 (nev u U Z),fun _ _ _ h=>h,fun _ _ h=>h,fun _ _ _ _ h=>h,fun t U Z h3=>by omega⟩
     ·have:=DM (s:=s) (obj:=(j:Int)) (M:=Mx d0 (j:Int)) (A:=.res o' c' pb g' r' v' (some q) e4 oc) (k:=i) J (.inr hM);rw [og,this,<- og,T.is] at ex;obtain⟨rfl,rfl,rfl,rfl,rfl,rfl⟩:=uM ex;exact Kp.same _ _ _ _ _
end
def Hld (d0 s:D) (t op obj u:Int):Prop:=0<=u/\∃o c dn g r v,Tg (s.at obj) o c dn g r v/\
 ((op=1\/op=4)/\o≠t/\o=u\/(op=5\/op=16)/\o=u\/op=7/\(o=u\/u∈r.l.map D.n)\/op=24/\t∉r.l.map D.n/\Mo d0 s obj=u)
def Bl (d0 d1 s:D) (t op obj arg tr:Int):Prop:= ¬Acc d0 d1 s t op obj\/∃o c dn g r v,Tg (s.at obj) o c dn g r v/\act (Mx d0 obj) (Mo d0 s obj) t op arg tr o c dn g r v= .kE
theorem pA {r:D} {t:Int}:place r t<0↔t∉r.l.map D.n:=by
 rcases jd r t with ⟨U,Z⟩|⟨k,hk,U,Z,_⟩
 ·exact⟨fun _ h=>by obtain⟨x,hx,e⟩:=aK.1 h; exact Z x hx e,fun _=>by omega⟩
 ·exact⟨fun h=>by omega,fun h=>absurd (aK.2 ⟨_,az hk,Z⟩) h⟩
structure afQ (d0 d1:D) (op obj:Int):Prop where
 o0:0<=obj
 o1:obj<(d0.l.length:Int)
 h7:op=7->((d0.at obj).hd 0).n≠4
 h4:op=4->((d0.at obj).hd 0).n=1
 h24:op=24->((d0.at obj).hd 0).n=4
section
variable {d0 d1 s k:D} {n:Nat} (S:Sx s k n) (hn:n<17592186043800) (h0:Wd (.sl 3) d0) (U:Wd (.sl 4) d1) (M:MR d0 d1 s k)
include S hn h0 U M
theorem Yd {x:Int} {s' k':D} {e1 e2 e3 e4 e5 oc:Int} (H:vQ d0 d1 s k x n s' k' e1 e2 e3 e4 e5 oc) {t u op obj arg tr:Int} (tx:t≠x) (ux:u≠x) (t0:0<=t) (Q:afQ d0 d1 op obj) (Y:Hld d0 s t op obj u) (bl:Bl d0 d1 s t op obj arg tr) (h4:op≠4) :
 Hld d0 s' t op obj u/\Bl d0 d1 s' t op obj arg tr:=by
 have hS:=yD S J h0 U H;obtain⟨hC,ok,hle⟩:=sQ h0 U S.g J M.1;have q0:=Q.o0;have q1:=Q.o1;obtain⟨u0,o,c,dn,g,r,v,T,hc⟩:=Y;obtain⟨o',c',pb,g',r',v',T',K⟩:=PU S hn h0 U M H q0 J T
 have mo:op=24->Mo d0 s obj=u->Mo d0 s' obj=u:=fun h24 hm=>by
  have hO:=ok.2.2 _ (xO (d:=d0) q0 q1);obtain⟨m0,m1,_⟩:=hO.2.2.2.2.2 (Q.h24 h24);obtain⟨om,cm,dm,gm,rm,vm,Tm,_⟩:=LJ S.g m0 (by omega:((d0.at obj).hd 2).n<(s.l.length:Int));obtain⟨om',cm',dm',gm',rm',vm',Tm',Km⟩:=PU S hn h0 U M H m0 J Tm;have e1:Mo d0 s obj=om:=by show ((s.at ((d0.at obj).hd 2).n).hd 0).n=om; rw [Tm.is]; rfl
  have e2:Mo d0 s' obj=om':=by show ((s'.at ((d0.at obj).hd 2).n).hd 0).n=om'; rw [Tm'.is]; rfl
  rw [e2];exact Km.own u ux u0 (e1.symm.trans hm)
 refine⟨⟨u0,o',c',pb,g',r',v',T',?_⟩,?_⟩
 ·rcases hc with ⟨a,b,hh⟩|⟨a,hh⟩|⟨a,hh⟩|⟨a,b,hh⟩
  ·have:=K.own u ux u0 hh;exact .inl ⟨a,J,this⟩
  ·exact .inr (.inl ⟨a,K.own u ux u0 hh⟩)
  ·refine .inr (.inr (.inl ⟨a,?_⟩));rcases hh with hh|hh
   ·exact .inl (K.own u ux u0 hh)
   ·exact .inr (K.row (Q.h7 a) u ux hh)
  ·exact .inr (.inr (.inr ⟨a,K.nor t tx b,mo a hh⟩))
 ·by_cases hA:Acc d0 d1 s' t op obj
  ·have A:Acc d0 d1 s t op obj:=⟨M.1,hA.t0,hA.t1,hA.o0,by have:=hA.o1; omega,hA.k⟩;obtain⟨o2,c2,w!,g2,r2,v2,T2,hB⟩:=bl.resolve_left (fun h=>h A);obtain⟨rfl,rfl,rfl,rfl,rfl,rfl⟩:=uM (T.is.symm.trans T2.is);refine .inr ⟨o',c',pb,g',r',v',T',?_⟩;have nor:=fun h=>pA.2 (K.nor t tx (pA.1 h));rcases hc with ⟨a,b,hh⟩|⟨a,hh⟩|⟨a,hh⟩|⟨a,b,hh⟩
   ·have a:op=1:=J
    subst a;have ow:=K.own u ux u0 hh;simp only [act,Int.reduceEq,if_true,if_false,reduceIte] at hB ⊢
    have:place r t<0:=by
     by_cases hp:place r t<0
     ·exact hp
     ·rw [af b,af hp] at hB; simp at hB
    rw [af J,ah (nor this),af J]
   ·have ow:=K.own u ux u0 hh;rcases a with rfl|rfl
    ·simp only [act,Int.reduceEq,if_true,if_false,reduceIte] at hB ⊢;by_cases b:o=t
     ·rw [ah b] at hB; simp at hB
     rw [af b] at hB
     have:place r t<0:=by
      by_cases hp:place r t<0
      ·exact hp
      ·rw [af hp] at hB; simp at hB
     rw [af J,ah (nor this),af J]
    ·simp only [act,Int.reduceEq,if_true,if_false,reduceIte] at hB ⊢;by_cases hd:dn=0
     ·rw [ah hd] at hB;by_cases b:o=t
      ·rw [ah b] at hB; simp at hB
      rw [ah (K.dn u ux u0 hh hd),af J,af J]
     ·rw [af hd] at hB; simp at hB
   ·subst a;simp only [act,Int.reduceEq,if_true,if_false,reduceIte] at hB ⊢;by_cases b:o=t
    ·rw [ah b] at hB; simp at hB
    rw [af b] at hB
    have:place r t<0:=by
     by_cases hp:place r t<0
     ·exact hp
     ·rw [af hp] at hB; simp at hB
    rw [af (fun h=>b (K.ot t tx t0 h)),ah (nor this)];rcases hh with hh|hh
    ·have ow:=K.own u ux u0 hh;split
     ·rw [af J]
     ·rfl
    ·have hr:=K.row (Q.h7 rfl) u ux hh
     have: ¬(r'.l.length:Int)=0:=fun h=>by have:r'.l= []:=amJ J;rw [this] at hr;simp at hr
     rw [af this]
   ·subst a;simp only [act,Int.reduceEq,if_true,if_false,reduceIte];have:=mo rfl hh;rw [ah (pA.2 (K.nor t tx b)),af J]
  ·exact .inl hA
end
theorem ab5: ∀(m:Nat) (l:List D),oJ (m:Int) l->l.length<=m
 |0,l,h=>by
  cases l with
  |nil=>simp
  |cons a l=>have:=h.1 a (anz ..); omega
 |m+1,l,h=>by
  have hw:oJ (m:Int) (wo (m:Int) l):=by
   refine⟨fun x hx=>?_,(CE h List.filter_sublist).2⟩;obtain⟨a,b⟩:=amL.1 hx;have:=h.1 x a;have:x.n≠(m:Int):=by simpa using b
   omega
  have ih:=ab5 m _ hw;rcases jd (dL l) (m:Int) with ⟨_,Ar⟩|⟨k,hk,_,Z,_⟩
  ·rw [bI] at Ar;rw [sF Ar] at ih;omega
  ·simp only [bI] at hk Z
   have hle:l.length<=(wo (m:Int) l).length+1:=by
    have e:l=l.take k++l[k]::l.drop (k+1):=by rw [<- bo hk,amR]
    have nd:=h.2;rw [e,amT,ax,anK] at nd;obtain⟨_,n2,n3⟩:=nd;rw [amX] at n2;have w1:wo (m:Int) (l.take k)=l.take k:=sF fun x hx hq=>n3 x.n (aK.2 ⟨x,hx,rfl⟩) (l[k]).n (anz ..) (hq.trans Z.symm);have w2:wo (m:Int) (l.drop (k+1))=l.drop (k+1):=sF fun x hx hq=>n2.1 (aK.2 ⟨x,hx,hq.trans Z.symm⟩)
    have w3:wo (m:Int) l=wo (m:Int) (l.take k)++(wo (m:Int) (l.drop (k+1))):=by
     have:wo (m:Int) l=wo (m:Int) (l.take k++l[k]::l.drop (k+1)):=by rw [<- e]
     rw [this];unfold wo;rw [aoy,List.filter_cons_of_neg (by simpa using Z)]
    rw [w3,w1,w2,aZ,a8,br];omega
   omega
def MT (P:Int->Prop) (ys:List Int):Prop:= ∃l:D,ys= [enc l]/\(∀u,u∈l.l.map D.n↔P u)/\l.l.length<1000000
theorem lK {P:Int->Prop} (h: ∀u,¬P u):MT P [enc (.i 1)]:=⟨.i 1,rfl,fun u=> ⟨fun q=>by simp [D.l] at q,fun q=>absurd q (h u)⟩,by simp [D.l]⟩
theorem IT {P:Int->Prop} {d x:D} (hd:d.l.length<1000000) (h: ∀u,u∈d.l.map D.n↔P u):MT P [enc (eW x ((gg (eN d.l)++List.replicate ((eN d.l).length-(gg (eN d.l)).length) (D.i 0)).take (((gg (eN d.l)).length:Int)).toNat))]:=by
 refine⟨_,rfl,fun u=>?_,?_⟩
 ·rw [fc,bd,List.take_left,TR,TQ];exact h u
 ·rw [fc,bd,List.take_left];have:=Z3 (eN d.l);rw [Ad] at this;omega
theorem AG {d:D} (hd:d.l.length<1000000):((d.l.length:Int)<1000000)/\(((eN d.l).length:Int)<1000000)/\¬(((gg (eN d.l)).length:Int)<0)/\¬(((gg (eN d.l)++List.replicate ((eN d.l).length-(gg (eN d.l)).length) (D.i 0)).length:Int)<((gg (eN d.l)).length:Int)):=by refine⟨J,by rw [Ad]; omega,J,?_⟩;rw [aZ];omega
def HP (op t o mo:Int) (r:D) (u:Int):Prop:=0<=u/\((op=1\/op=4)/\o≠t/\o=u\/(op=5\/op=16)/\o=u\/op=7/\(o=u\/u∈r.l.map D.n)\/op=24/\t∉r.l.map D.n/\mo=u)
section
variable {d0 s:D} {obj o c dn g:Int} {r v:D} (x1 k t a tr:Int) (o0:0<=obj) (o1:obj<(s.l.length:Int)) (T:Tg (s.at obj) o c dn g r v) (hr:r.l.length<=16) (ah3: ∀x∈r.l,0<=x.n)
include o0 o1 T hr ah3
theorem S? {op:Int} (h:op=1\/op=4\/op=5\/op=16):dN 23450 [enc d0,x1,enc s,k,t,op,obj,a,tr] (MT (HP op t o (Mo d0 s obj) r)):=by
 have eo:((s.at obj).hd 0).n=o:=by rw [T.is]; rfl
 have c1: ¬obj<0:=J
 have hs:=AG (d:=dL [D.i o]) (by simp [bI]);rw [bI] at hs;obtain⟨f1,f2,f3,f4⟩:=hs
 have hw: ∀(x:D) (P:Int->Prop),(∀u,u=o↔P u)->MT P [enc (eW x ((gg (eN [D.i o])++List.replicate ((eN [D.i o]).length-(gg (eN [D.i o])).length) (D.i 0)).take (((gg (eN [D.i o])).length:Int)).toNat))]:=fun x P h=>by have:=IT (d:=dL [D.i o]) (x:=x) (P:=P) (by simp [bI]) (fun u=>by rw [bI]; simpa [D.n] using h u);rw [bI] at this;exact this
 have step: ∀Q:Int->Prop,(∀u,HP op t o (Mo d0 s obj) r u↔Q u)->dN 23450 [enc d0,x1,enc s,k,t,op,obj,a,tr] (MT Q)->dN 23450 [enc d0,x1,enc s,k,t,op,obj,a,tr] (MT (HP op t o (Mo d0 s obj) r)):=fun Q hQ h=>h.mono fun ys ⟨l,e,hm,Y⟩=> ⟨l,e,fun u=>(hm u).trans (hQ u).symm,Y⟩;rcases h with rfl|rfl|rfl|rfl
 ·refine step (fun u=>0<=u/\o≠t/\o=u) (fun u=>by simp [HP]) (dN.of ?_);rw [vE];simp only [sK,zz,c1,o1,eo,pW,pX,pY,bI,rj,aA,f1,f2,f3,f4,Int.reduceEq];exact .ite (fun _=> .out (lK fun u=>by omega)) fun _=> .ite (fun _=> .out (lK fun u=>by omega)) fun _=> .out (hw _ _ fun u=>by omega)
 ·refine step (fun u=>0<=u/\o≠t/\o=u) (fun u=>by simp [HP]) (dN.of ?_);rw [vE];simp only [sK,zz,c1,o1,eo,pW,pX,pY,bI,rj,aA,f1,f2,f3,f4,Int.reduceEq];exact .ite (fun _=> .out (lK fun u=>by omega)) fun _=> .ite (fun _=> .out (lK fun u=>by omega)) fun _=> .out (hw _ _ fun u=>by omega)
 ·refine step (fun u=>0<=u/\o=u) (fun u=>by simp [HP]) (dN.of ?_);rw [vE];simp only [sK,zz,c1,o1,eo,pW,pX,pY,bI,rj,aA,f1,f2,f3,f4,Int.reduceEq];exact .ite (fun _=> .out (lK fun u=>by omega)) fun _=> .out (hw _ _ fun u=>by omega)
 ·refine step (fun u=>0<=u/\o=u) (fun u=>by simp [HP]) (dN.of ?_);rw [vE];simp only [sK,zz,c1,o1,eo,pW,pX,pY,bI,rj,aA,f1,f2,f3,f4,Int.reduceEq];exact .ite (fun _=> .out (lK fun u=>by omega)) fun _=> .out (hw _ _ fun u=>by omega)
theorem aii:dN 23450 [enc d0,x1,enc s,k,t,7,obj,a,tr] (MT (HP 7 t o (Mo d0 s obj) r)):=by
 have eo:((s.at obj).hd 0).n=o:=by rw [T.is]; rfl
 have er:(s.at obj).hd 4=r:=by rw [T.is]; rfl
 have c1: ¬obj<0:=J
 have sf: ∀l:List D,l.length<1000000->((l.length:Int)<1000000)/\(((eN l).length:Int)<1000000)/\¬(((gg (eN l)).length:Int)<0)/\¬(((gg (eN l)++List.replicate ((eN l).length-(gg (eN l)).length) (D.i 0)).length:Int)<((gg (eN l)).length:Int)):=fun l h=>by have:=AG (d:=dL l) (by rw [bI]; exact h);rw [bI] at this;exact this
 have hw: ∀(l:List D) (x:D) (P:Int->Prop),l.length<1000000->(∀u,u∈l.map D.n↔P u)->MT P [enc (eW x ((gg (eN l)++List.replicate ((eN l).length-(gg (eN l)).length) (D.i 0)).take (((gg (eN l)).length:Int)).toNat))]:=fun l x P Y h=>by have:=IT (d:=dL l) (x:=x) (P:=P) (by rw [bI]; exact Y) (fun u=>by rw [bI]; exact h u);rw [bI] at this;exact this
 have l1:[D.i o].length<1000000:=ad
 have l2:r.l.length<1000000:=J
 have l3:([D.i o]++r.l).length<1000000:=by simp; omega
 obtain⟨f1,f2,f3,f4⟩:=sf _ l1;obtain⟨g1,g2,g3,g4⟩:=sf _ l2;obtain⟨U,Z,h3,h4⟩:=sf _ l3;have b1:(r.l.length:Int)<17592186044416:=J
 have b2:(r.l.length:Int)<17592185044416:=J
 have rp: ∀u,u∈r.l.map D.n->0<=u:=fun u hu=>by obtain⟨y,hy,rfl⟩:=aK.1 hu;exact ah3 y hy
 refine dN.mono (p:=MT fun u=>0<=u/\(o=u\/u∈r.l.map D.n)) (dN.of ?_) fun ys ⟨l,e,hm,Y⟩=> ⟨l,e,fun u=>(hm u).trans (by simp [HP]),Y⟩;rw [vE];simp only [sK,zz,c1,o1,eo,er,pW,pX,pY,bI,rj,aA,f1,f2,f3,f4,g1,g2,g3,g4,U,Z,h3,h4,b1,b2,Int.reduceEq]
 have r0:(r.l.length:Int)=0->∀u,u∉r.l.map D.n:=fun h u hu=>by rw [amJ (by omega:r.l.length=0)] at hu;simp at hu
 refine .ite (fun ho=> .ite (fun hz=> .out (lK fun u h=>?_)) fun hz=> .out (hw _ _ _ l2 fun u=>?_)) fun ho=> .ite (fun hz=> .out (hw _ _ _ l1 fun u=>?_)) fun hz=> .out (hw _ _ _ l3 fun u=>?_)
 ·rcases h.2 with h'|h'
  ·omega
  ·exact r0 hz u h'
 ·refine⟨fun h=> ⟨rp u h,.inr h⟩,fun h=>?_⟩;rcases h.2 with h'|h'
  ·omega
  ·exact h'
 ·refine⟨fun h=>?_,fun h=>?_⟩
  ·have:u=o:=by simpa [D.n] using h
   exact⟨J,.inl this.symm⟩
  ·rcases h.2 with h'|h'
   ·simp [D.n,h']
   ·exact absurd h' (r0 hz u)
 ·rw [amT];refine⟨fun h=>?_,fun h=>?_⟩
  ·rcases amC.1 h with h|h
   ·have:u=o:=by simpa [D.n] using h
    exact⟨J,.inl this.symm⟩
   ·exact⟨rp u h,.inr h⟩
  ·rcases h.2 with h'|h'
   ·exact an7 _ (by simp [D.n,h'])
   ·exact an6 _ h'
theorem aik (hm:0<=((d0.at obj).hd 2).n/\((d0.at obj).hd 2).n<(s.l.length:Int)) (hd:obj<(d0.l.length:Int)):dN 23450 [enc d0,x1,enc s,k,t,24,obj,a,tr] (MT (HP 24 t o (Mo d0 s obj) r)):=by
 have er:(s.at obj).hd 4=r:=by rw [T.is]; rfl
 have c1: ¬obj<0:=J
 obtain⟨m0,m1⟩:=hm;have c2: ¬((d0.at obj).hd 2).n<0:=J
 have hP:=dK r t J;generalize hmo:Mo d0 s obj=mo;have ai2:((s.at ((d0.at obj).hd 2).n).hd 0).n=mo:=hmo;have hs:=AG (d:=dL [D.i mo]) (by simp [bI]);rw [bI] at hs;obtain⟨f1,f2,f3,f4⟩:=hs
 have hw: ∀(x:D) (P:Int->Prop),(∀u,u=mo↔P u)->MT P [enc (eW x ((gg (eN [D.i mo])++List.replicate ((eN [D.i mo]).length-(gg (eN [D.i mo])).length) (D.i 0)).take (((gg (eN [D.i mo])).length:Int)).toNat))]:=fun x P h=>by have:=IT (d:=dL [D.i mo]) (x:=x) (P:=P) (by simp [bI]) (fun u=>by rw [bI]; simpa [D.n] using h u);rw [bI] at this;exact this
 refine dN.mono (p:=MT fun u=>0<=u/\t∉r.l.map D.n/\mo=u) (dN.of ?_) fun ys ⟨l,e,hm,Y⟩=> ⟨l,e,fun u=>(hm u).trans (by simp [HP]),Y⟩;rw [vE];by_cases hp:place r t<0
 ·rw [ah hp] at hP;simp only [sK,zz,c1,c2,o1,er,hd,m1,hP,ai2,pW,pX,pY,bI,rj,aA,f1,f2,f3,f4,Int.reduceEq];have:=pA.1 hp;exact .ite (fun _=> .out (lK fun u h=>by have:=h.1; have:=h.2.2; omega)) fun _=> .out (hw _ _ fun u=> ⟨fun h=> ⟨J,this,h.symm⟩,fun h=>h.2.2.symm⟩)
 ·rw [af hp] at hP;simp only [sK,zz,c1,c2,o1,er,hd,m1,hP,ai2,pW,pX,pY,bI,rj,aA,f1,f2,f3,f4,Int.reduceEq,bF];exact .out (lK fun u h=>hp (pA.2 h.2.1))
theorem aij {op:Int} (h:op≠1/\op≠4/\op≠5/\op≠16/\op≠7/\op≠24):dN 23450 [enc d0,x1,enc s,k,t,op,obj,a,tr] (MT (HP op t o (Mo d0 s obj) r)):=by
 have c1: ¬obj<0:=J
 obtain⟨a1,a2,a3,a4,a5,a6⟩:=h;refine dN.of ?_;rw [vE];simp only [sK,zz,c1,o1,a1,a2,a3,a4,a5,a6];exact .out (lK fun u h=>by simp [HP,a1,a2,a3,a4,a5,a6] at h)
end
theorem SA {d0 d1:D} {t:Int} {x:KT} (C:Cd d0 d1) (Z?: ∀y∈d1.l,Ea d0 y) (R:Rt d0 d1 t x) (ho:iB d1 t x=0) {op obj arg tr:Int} (hq:jq d1 t x= [op,obj,arg,tr,1]):afQ d0 d1 op obj:=by
 have ok:=R.ok;unfold iB at ho;unfold jq at hq;by_cases w0:x.w=0
 ·rw [ah w0] at ho hq;by_cases a0:x.a=(Nc d1 t:Int)
  ·rw [ah a0] at ho; omega
  rw [af a0] at ho hq;have ha:x.a<(Nc d1 t:Int):=by have:=ok.1; have:=ok.2.1; unfold Nc at a0 ⊢; omega
  have I:=(C.inf R ha).ok;have mem:Ins d1 t x∈((d1.at t).hd 2).l:=xO ok.1 ha;have hJ:=Z? _ (xO R.t0 R.t1) _ mem;by_cases d1':((Ins d1 t x).hd 0).n=1
  ·rw [ah d1'] at hq;simp only [List.cons.injEq,and_true] at hq;obtain⟨rfl,rfl,_,_⟩:=hq;obtain⟨j1,j2,j3⟩:=hJ.2 d1';have:0<=((Ins d1 t x).hd 2).n/\((Ins d1 t x).hd 2).n<(d0.l.length:Int):=by unfold B! at I; omega
   exact⟨this.1,this.2,j2,j3,fun h=>by omega⟩
  ·rw [af d1'] at hq;by_cases d2':((Ins d1 t x).hd 0).n=2
   ·rw [ah d2'] at hq;simp only [List.cons.injEq,and_true] at hq;obtain⟨rfl,rfl,_,_⟩:=hq;have:0<=((Ins d1 t x).hd 2).n/\((Ins d1 t x).hd 2).n<(d0.l.length:Int):=by unfold B! at I; omega
    exact⟨this.1,this.2,fun h=>by omega,fun h=>by omega,fun h=>by omega⟩
   ·rw [af d2'] at hq;simp at hq
 ·rw [af w0] at hq;simp only [List.cons.injEq,and_true] at hq;obtain⟨rfl,rfl,_,_⟩:=hq;have hw:=ok.2.2.2.2.2;rcases hw with h|⟨h,a,b,c⟩|⟨h,a,b,c⟩
  ·omega
  ·exact⟨a,b,fun h'=>by omega,fun h'=>by omega,fun _=>c⟩
  ·exact⟨a,b,fun h'=>by omega,fun h'=>by omega,fun h'=>by omega⟩
theorem acZ {d0 d1 s s':D} {t op obj arg tr e1 e2 e3 e4 e5 oc:Int} {n:Nat} (h0:Wd (.sl 3) d0) (U:Wd (.sl 4) d1) (G:Gs s n) (hn:n<17592186043904) (tY:gq .u8 op) (A:HR d0 d1 s t op obj arg tr n s' e1 e2 e3 e4 e5 oc):oc=0↔Bl d0 d1 s t op obj arg tr:=by
 have hf:=G.mI (by omega:n<17592186044415);have hA:=A.eq;by_cases h:Acc d0 d1 s t op obj
 ·obtain⟨_,o,c,dn,g,r,v,T,hL⟩:=H6 (arg:=arg) (tries:=tr) h0 U G.wd hf tY h;rw [IC] at hL;rw [hA] at hL;have w:=ac2 (M:=Mx d0 obj) (mo:=Mo d0 s obj) (th:=t) (op:=op) (arg:=arg) (tries:=tr) (o:=o) (c:=c) (dn:=dn) (g:=g) (r:=r) (v:=v)
  have hb:oc=0↔act (Mx d0 obj) (Mo d0 s obj) t op arg tr o c dn g r v= .kE:=by
   cases hB:act (Mx d0 obj) (Mo d0 s obj) t op arg tr o c dn g r v with
   |kE=> rw [hB] at hL;simp only [evA,ag,List.cons.injEq,and_true] at hL;exact⟨fun _=>rfl,fun _=>hL.2.2.2.2.2.2⟩
   |xN=> rw [hB] at hL;simp only [evA,ag,List.cons.injEq,and_true] at hL;exact⟨fun h=>by omega,fun h=>by simp at h⟩
   |res o' c' pb g' r' v' m a oc'=>
    rw [hB] at hL w;simp only [evA,ag,List.cons.injEq,and_true] at hL
    have:oc'=2\/oc'=3:=by rcases w with w|w; exact .inl w; exact .inr w.1
    exact⟨fun h=>by omega,fun h=>by simp at h⟩
  refine hb.trans ⟨fun q=> .inr ⟨o,c,dn,g,r,v,T,q⟩,fun q=>?_⟩;obtain⟨o2,c2,w!,g2,r2,v2,T2,hB⟩:=q.resolve_left (fun q=>q h);obtain⟨rfl,rfl,rfl,rfl,rfl,rfl⟩:=uM (T.is.symm.trans T2.is);exact hB
 ·have hL:=Nf (arg:=arg) (tries:=tr) h0 U G.wd hf tY h;rw [hA] at hL;simp only [ag,List.cons.injEq,and_true] at hL;exact⟨fun _=> .inl h,fun _=>hL.2.2.2.2.2.2⟩
def Wts (d0 d1 s k:D) (t u:Int):Prop:= ∃x op obj arg tr,Rs d0 d1 s k t x/\iB d1 t x=0/\jq d1 t x= [op,obj,arg,tr,1]/\Bl d0 d1 s t op obj arg tr/\Hld d0 s t op obj u
theorem aiu {d0 d1 s k:D} {n:Nat} (S:Sx s k n) (hn:n<17592186043800) (h0:Wd (.sl 3) d0) (U:Wd (.sl 4) d1) (M:MR d0 d1 s k): ∀y∈d1.l,Ea d0 y:=by obtain⟨hC,_,_⟩:=sQ h0 U S.g J M.1;obtain⟨ys,hC',c,rfl,_,oP⟩:=Fh h0 U;rw [hC] at hC';simp only [ag,List.cons.injEq,and_true] at hC';exact (oP hC'.symm).2
section
variable {d0 d1 s k:D} {n:Nat} (S:Sx s k n) (hn:n<17592186043800) (h0:Wd (.sl 3) d0) (U:Wd (.sl 4) d1) (M:MR d0 d1 s k)
include S hn h0 U M
theorem Y! {t op obj:Int} (k4 a tr:Int) (Q:afQ d0 d1 op obj):dN 23450 [enc d0,enc d1,enc s,enc k,t,op,obj,a,tr] (MT (Hld d0 s t op obj)):=by
 obtain⟨hC,ok,hle⟩:=sQ h0 U S.g J M.1;have q0:=Q.o0;have q1:=Q.o1;obtain⟨o,c,dn,g,r,v,T,_⟩:=LJ S.g q0 (by omega:obj<(s.l.length:Int));have hS:=Ir h0 U S.g J M.1 q0 J T;have hr:r.l.length<=16:=by have:=ab5 _ _ hS.2.1; have:=ok.2.1; omega
 have rp: ∀x∈r.l,0<=x.n:=fun x hx=>(hS.2.1.1 x hx).1
 have key:dN 23450 [enc d0,enc d1,enc s,enc k,t,op,obj,a,tr] (MT (HP op t o (Mo d0 s obj) r)):=by
  by_cases a1:op=1\/op=4\/op=5\/op=16
  ·exact S? _ _ t a tr q0 J T hr rp a1
  by_cases a2:op=7
  ·subst a2;exact aii _ _ t a tr q0 J T hr rp
  by_cases a3:op=24
  ·subst a3;have hO:=ok.2.2 _ (xO (d:=d0) q0 q1);obtain⟨m0,m1,_⟩:=hO.2.2.2.2.2 (Q.h24 rfl);exact aik _ _ t a tr q0 J T hr rp ⟨m0,J⟩ q1
  exact aij _ _ t a tr q0 J T hr rp J
 refine key.mono fun ys ⟨l,e,hm,Y⟩=> ⟨l,e,fun u=>(hm u).trans ⟨fun h=> ⟨h.1,o,c,dn,g,r,v,T,h.2⟩,fun h=>?_⟩,Y⟩;obtain⟨u0,o2,c2,w!,g2,r2,v2,T2,hc⟩:=h;obtain⟨rfl,rfl,rfl,rfl,rfl,rfl⟩:=uM (T.is.symm.trans T2.is);exact⟨u0,hc⟩
theorem mB {t:Int} {x y:KT} (R:Rs d0 d1 s k t x) (R':Rs d0 d1 s k t y):x=y:=N5 (R.hk.symm.trans R'.hk)
theorem afa {t:Int} (t0:0<=t) (t1:t<(d1.l.length:Int)):dN 23400 [enc d0,enc d1,enc s,enc k,t] (MT (Wts d0 d1 s k t)):=by
 obtain⟨x,R⟩:=M.thr S J h0 U t0 t1;have h18:=Xu R;obtain⟨s',k',e1,e2,e3,e4,e5,oc,hL,H⟩:=Dx S J h0 U t;have Z?:=aiu S hn h0 U M
 have no:low (jq d1 t x) 4=0->∀u,¬Wts d0 d1 s k t u:=fun h u ⟨y,op,obj,arg,tr,Ry,_,hq,_⟩=>by rw [mB S hn h0 U M R Ry,hq] at h;simp [low] at h
 obtain⟨a,b,c,d,e,hq,he⟩:=Xt d1 t x;rw [hq] at h18 no;refine dN.of ?_;rw [Zc];rcases he with rfl|rfl
 ·simp only [Ib,zz,h18];exact .out (lK (no rfl))
 ·cases H with
  |no h=>rw [R.yes] at h; simp at h
  |over y Ry ho=>
   have e:=mB S hn h0 U M R Ry;subst e;unfold iB at ho;unfold jq at hq;by_cases w0:x.w=0
   ·rw [ah w0] at ho hq;by_cases a0:x.a=(Nc d1 t:Int)
    ·rw [ah a0] at hq; simp at hq
    ·rw [af a0] at ho; omega
   ·rw [af w0] at ho; omega
  |loc y Ry ho ha=> have e:=mB S hn h0 U M R Ry;subst e;rw [hq] at ha;simp [low] at ha
  |tri y Ry ho op obj arg tr Oi k1 k2 k3 fN s' e1 e2 e3 e4 e5 oc A T=>
   have e:=mB S hn h0 U M R Ry;subst e;rw [hq] at Oi;simp only [List.cons.injEq,and_true] at Oi;obtain⟨rfl,rfl,rfl,rfl⟩:=Oi;have B:=acZ h0 U S.g J k1 A;have Q:=SA R.c Z? R.r ho hq;by_cases o0:oc=0
   ·obtain⟨ys,hH,l,rfl,hm,Y⟩:=Y! S hn h0 U M (t:=t) 0 c d Q;subst o0;simp only [Ib,zz,h18,hL,hH,bF];refine .out ⟨l,rfl,fun u=>(hm u).trans ⟨fun h=> ⟨x,a,b,c,d,R,ho,hq,B.1 rfl,h⟩,fun⟨y,op,obj,arg,tr,Ry',_,X0,_,hH⟩=>?_⟩,Y⟩;have e:=mB S hn h0 U M R Ry';subst e;rw [hq] at X0;simp only [List.cons.injEq,and_true] at X0;obtain⟨rfl,rfl,rfl,rfl⟩:=X0;exact hH
   ·simp only [Ib,zz,h18,hL,af o0,bF];refine .out (lK fun u ⟨y,op,obj,arg,tr,Ry',_,X0,hB,_⟩=>?_);have e:=mB S hn h0 U M R Ry';subst e;rw [hq] at X0;simp only [List.cons.injEq,and_true] at X0;obtain⟨rfl,rfl,rfl,rfl⟩:=X0;exact o0 (B.2 hB)
end
def MK (d0 d1 s k:D) (u:Int):Prop:= ∃x,Rs d0 d1 s k u x/\iB d1 u x=1
def XO (l:D):Prop:= ∀x∈l.l,x= .i x.n
def Kpt (d0 d1 s k left:D) (t:Int):Prop:= ∃u,Wts d0 d1 s k t u/\(u∈left.l.map D.n\/MK d0 d1 s k u)
def Pu (d0 d1 s k mp:D) (i:Int):Prop:= ∀t,0<=t->t<i->∃w:D,gv mp.l (.i t)=some w/\(∀u,u∈w.l.map D.n↔Wts d0 d1 s k t u)/\w.l.length<1000000
section
variable {d0 d1 s k:D} {n:Nat} (S:Sx s k n) (hn:n<17592186043800) (h0:Wd (.sl 3) d0) (U:Wd (.sl 4) d1)
include S hn h0 U
open Classical in
theorem aal (u:Int):L 1700 [enc d0,enc d1,enc s,enc k,u]=some [if MK d0 d1 s k u then 1 else 0]:=by
 rcases P0 (t:=u) S J h0 U with h|⟨x,R⟩
 ·rw [afc (n:=n) J h,af (fun⟨x,R,_⟩=>by rw [R.yes] at h; simp at h)]
 ·rw [afd (n:=n) J R];rcases CI d1 u x with ho|ho
  ·rw [ho,af (fun⟨y,Ry,hy⟩=>by rw [N5 (Ry.hk.symm.trans R.hk),ho] at hy; omega)]
  ·rw [ho,ah ⟨x,R,ho⟩]
theorem GV (w left:D) (hw:w.l.length<1000000) (Y:left.l.length<=1000): ∀(j i:Nat),i+j=w.l.length->dN 13301 [enc w,enc left,enc d0,enc d1,enc s,enc k,(w.l.length:Int),(i:Int)]
 (fun ys=> ∃z:Int,ys= [0,enc w,enc left,enc d0,enc d1,enc s,enc k,z]/\(z<0↔∀u∈(w.l.drop i).map D.n,¬(u∈left.l.map D.n\/MK d0 d1 s k u)))
 |0,i,hi=>by
  have c1: ¬(i:Int)<(w.l.length:Int):=J
  refine dN.of ?_;rw [O4];simp only [Dq,zz,c1];exact .out ⟨-1,rfl,fun _ u hu=>by rw [anw J] at hu; simp at hu,fun _=>by omega⟩
 |j+1,i,hi=>by
  have ep:i<w.l.length:=J
  have c1:(i:Int)<(w.l.length:Int):=J
  have c2: ¬((i:Int)<0):=J
  have wr:=bU (n:=i) J;have ih:=GV w left hw Y j (i+1) J;have hp:=dK left (w.l[i]).n J;have hf:=aal S hn h0 U (w.l[i]).n;have ed:(w.l.drop i).map D.n=(w.l[i]).n::(w.l.drop (i+1)).map D.n:=by rw [bo ep,ax]
  refine dN.of ?_;rw [O4];by_cases uH:place left (w.l[i]).n<0
  ·rw [ah uH] at hp;by_cases hF:MK d0 d1 s k (w.l[i]).n
   ·rw [ah hF] at hf;simp only [Dq,zz,c1,c2,ct ep,hp,hf,bF];exact .out ⟨(i:Int),rfl,fun h=>by omega,fun h=>absurd (Or.inr hF) (h _ (by rw [ed]; exact anz ..))⟩
   ·rw [af hF] at hf;simp only [Dq,zz,c1,c2,ct ep,hp,hf,wr];obtain⟨ys,hL,z,rfl,hz⟩:=ih;refine .jump ⟨_,hL,z,rfl,hz.trans ⟨fun h u hu=>?_,fun h u hu=>h u (by rw [ed]; exact anv _ hu)⟩⟩;rw [ed] at hu;rcases aw.1 hu with rfl|hu
    ·exact fun q=>q.elim (pA.1 uH) hF
    ·exact h u hu
  ·rw [af uH] at hp;simp only [Dq,zz,c1,c2,ct ep,hp,bF];refine .out ⟨(i:Int),rfl,fun h=>by omega,fun h=>?_⟩;have:(w.l[i]).n∈left.l.map D.n:=Classical.byContradiction fun q=>uH (pA.2 q);exact absurd (Or.inl this) (h _ (by rw [ed]; exact anz ..))
theorem U! (w left:D) (hw:w.l.length<1000000) (Y:left.l.length<=1000):dN 26750 [enc w,enc left,enc d0,enc d1,enc s,enc k]
 (fun ys=> ∃b:Int,ys= [enc left,enc d0,enc d1,enc s,enc k,b]/\(b=0/\(¬∃u∈w.l.map D.n,(u∈left.l.map D.n\/MK d0 d1 s k u))\/b=1/\∃u∈w.l.map D.n,(u∈left.l.map D.n\/MK d0 d1 s k u))):=by
 obtain⟨ys,hL,z,rfl,hz⟩:=GV S hn h0 U w left hw Y w.l.length 0 J
 have alK:L 13300 [enc w,enc left,enc d0,enc d1,enc s,enc k]=some [0,enc w,enc left,enc d0,enc d1,enc s,enc k,z]:=by rw [amO] at hL;rw [bQ,Zn];simp only [Wi,zz,bM];exact hL
 rw [am0] at hz;refine dN.of ?_;rw [Y7];simp only [V9,zz,alK];refine .ite (fun h=> .out ⟨0,rfl,.inl ⟨rfl,fun⟨u,hu,q⟩=>hz.1 h u hu q⟩⟩) (fun h=> .out ⟨1,rfl,.inr ⟨rfl,?_⟩⟩);exact Classical.byContradiction fun q=>h (hz.2 fun u hu hq=>q ⟨u,hu,hq⟩)
theorem Rf {mp left:D} (Y:left.l.length<=1000) {i t:Int} (hm:Pu d0 d1 s k mp i) (t0:0<=t) (t1:t<i): ∃w:D,gv mp.l (.i t)=some w/\∃b:Int,L 26750 [enc w,enc left,enc d0,enc d1,enc s,enc k]=some [enc left,enc d0,enc d1,enc s,enc k,b]/\
 (b=0/\¬Kpt d0 d1 s k left t\/b=1/\Kpt d0 d1 s k left t):=by
 obtain⟨w,hf,hu,hw⟩:=hm t t0 t1;obtain⟨ys,hL,b,rfl,hb⟩:=U! S hn h0 U w left hw Y;refine⟨w,hf,b,hL,hb.imp (fun⟨q,h⟩=> ⟨q,fun⟨u,U,Z⟩=>h ⟨u,(hu u).2 U,Z⟩⟩) (fun⟨q,u,U,Z⟩=> ⟨q,u,(hu u).1 U,Z⟩)⟩
theorem Lm {mp left:D} (Y:left.l.length<=1000) {m:Int} (hm:Pu d0 d1 s k mp m) (hr: ∀x∈left.l,0<=x.n/\x.n<m): ∀(j i:Nat),i+j=left.l.length->
 dN 12951 [enc left,enc mp,enc d0,enc d1,enc s,enc k,(left.l.length:Int),(i:Int),enc left,enc d0,enc d1,enc s,enc k]
 (fun ys=> ∃z:Int,ys= [0,enc left,enc mp,enc d0,enc d1,enc s,enc k,z,enc left,enc d0,enc d1,enc s,enc k]/\((z= -1/\∀(q:Nat) (h:q<left.l.length),i<=q->Kpt d0 d1 s k left (left.l[q]).n)\/∃(q:Nat) (h:q<left.l.length),z=(q:Int)/\i<=q/\¬Kpt d0 d1 s k left (left.l[q]).n/\∀(p:Nat) (hp:p<q),i<=p->Kpt d0 d1 s k left (left.l[p]).n))
 |0,i,hi=>by
  have c1: ¬(i:Int)<(left.l.length:Int):=J
  refine dN.of ?_;rw [O5];simp only [Ie,zz,c1];exact .out ⟨-1,rfl,.inl ⟨rfl,fun q h hq=>by omega⟩⟩
 |j+1,i,hi=>by
  have ep:i<left.l.length:=J
  have c1:(i:Int)<(left.l.length:Int):=J
  have c2: ¬((i:Int)<0):=J
  have wr:=bU (n:=i) J;obtain⟨r0,r1⟩:=hr _ (az ep);obtain⟨w,hf,b,hb,hc⟩:=Rf S hn h0 U (left:=left) Y hm r0 r1;have ih:=Lm Y hm hr j (i+1) J;refine dN.of ?_;rw [O5];rcases hc with ⟨rfl,hk⟩|⟨rfl,hk⟩
  ·simp only [Ie,zz,c1,c2,ct ep,hf,hb,bu,aC,bF];exact .out ⟨(i:Int),rfl,.inr ⟨i,ep,rfl,au _,hk,fun p hp hip=>by omega⟩⟩
  ·simp only [Ie,zz,c1,c2,ct ep,hf,hb,bu,aC,bF,wr];obtain⟨ys,hL,z,rfl,hz⟩:=ih;refine .jump ⟨_,hL,z,rfl,?_⟩;rcases hz with ⟨e,hz⟩|⟨q,h,e,hiq,hnk,hz⟩
   ·refine .inl ⟨e,fun q h hq=>?_⟩;by_cases hqi:q=i
    ·subst hqi; exact hk
    ·exact hz q h J
   ·refine .inr ⟨q,h,e,J,hnk,fun p hp hip=>?_⟩;by_cases hpi:p=i
    ·subst hpi; exact hk
    ·exact hz p hp J
open Classical in
noncomputable def Cp (d0 d1 s k left:D) (l:List D):List D:=l.filter fun x=>decide (Kpt d0 d1 s k left x.n)
omit S hn h0 U in
open Classical in
theorem Be {left:D} {l:List D} {j:Nat} (h:j<l.length):Cp d0 d1 s k left (l.take (j+1))=if Kpt d0 d1 s k left (l[j]).n then Cp d0 d1 s k left (l.take j)++ [l[j]] else Cp d0 d1 s k left (l.take j):=by
 unfold Cp;rw [anR h,aoy];by_cases he:Kpt d0 d1 s k left (l[j]).n
 ·simp [he]
 ·simp [he]
open Classical in
theorem EZ {mp left:D} (Y:left.l.length<=1000) (uG:XO left) {z:Int} (hm:Pu d0 d1 s k mp z) (hr: ∀x∈left.l,0<=x.n/\x.n<z): ∀(m i j:Nat) (r:D),r.l.length=left.l.length->i<j->j+m=left.l.length->r.l.drop j=left.l.drop j->r.l.take i=Cp d0 d1 s k left (left.l.take j)->
 ∃(q:Nat) (r':D),q<left.l.length/\r'.l.length=left.l.length/\r'.l.take q=Cp d0 d1 s k left left.l/\
  L 12901 [enc left,enc mp,enc d0,enc d1,enc s,enc k,enc r,(i:Int),(j:Int),enc left,enc d0,enc d1,enc s,enc k]=some [1,enc left,enc mp,enc d0,enc d1,enc s,enc k,(q:Int),enc r',enc left,enc d0,enc d1,enc s,enc k]
 |0,i,j,r,FO,RH,Z,h3,h4=>by
  have c1: ¬(j:Int)<(left.l.length:Int):=J
  have c2: ¬((i:Int)<0):=J
  have c3: ¬((left.l.length:Int)<(i:Int)):=J
  have c4: ¬((left.l.length:Int)-(i:Int)<0):=J
  have c5:(i:Int)+((left.l.length:Int)-(i:Int))=(left.l.length:Int):=J
  refine⟨i,dL (r.l.take i++List.replicate (r.l.length-i) (.i 0)),J,by rw [bI]; simp only [aZ,a8,am1]; omega,?_,?_⟩
  ·rw [bI,List.take_append_of_le_length (by rw [a8]; omega),List.take_take,Nat.min_self,h4,ans J]
  ·rw [bQ,JJ];simp only [Ig,zz,FO,c1,c2,c3,c4,c5,bd,fin,hr]
 |m+1,i,j,r,FO,RH,Z,h3,h4=>by
  have Ke:j<left.l.length:=J
  have hj:j<r.l.length:=J
  have c1:(j:Int)<(left.l.length:Int):=J
  have c2: ¬((j:Int)<0):=J
  have w:=bU (n:=j) J
  have hx:r.at (j:Int)=left.l[j]:=by
   rw [ct hj];rw [bo hj,bo Ke] at h3
   grind
  have h3':r.l.drop (j+1)=left.l.drop (j+1):=by
   rw [bo hj,bo Ke] at h3
   grind
  obtain⟨r0,r1⟩:=hr _ (az Ke);obtain⟨wl,hf,b,hb,hc⟩:=Rf S hn h0 U (left:=left) Y hm r0 r1;rcases hc with ⟨rfl,hk⟩|⟨rfl,hk⟩
  ·obtain⟨q,r',q1,q2,q3,ih⟩:=EZ Y uG hm hr m i (j+1) r FO J J h3' (by rw [Be Ke,af hk,h4]);refine⟨q,r',q1,q2,q3,?_⟩;rw [bQ,JJ];simp only [Ig,zz,FO,c1,c2,hx,hf,hb,bu,aC,bF,w,fin,ih]
  ·have c3: ¬((i:Int)<0):=J
   have c4:(i:Int)<(left.l.length:Int):=J
   have w2:=bU (n:=i) J;have hs:fb r.l (i:Int) (.i (left.l[j]).n)=r.l.set i left.l[j]:=by rw [pq,<- uG _ (az Ke)]
   obtain⟨q,r',q1,q2,q3,ih⟩:=EZ Y uG hm hr m (i+1) (j+1) (dL (fb r.l (i:Int) (.i (left.l[j]).n))) (by rw [bI,fB,FO]) J J
    (by rw [bI,hs,anZ J,h3'])
    (by rw [bI,hs,anR (by rw [anp]; omega),anY (au _),aoz,h4,Be Ke,ah hk])
   refine⟨q,r',q1,q2,q3,?_⟩;rw [bQ,JJ];simp only [Ig,zz,FO,c1,c2,c3,c4,hx,hf,hb,bu,aC,bF,w,w2,fin,ih]
open Classical in
theorem afG {mp left:D} (Y:left.l.length<=1000) (uG:XO left) {m:Int} (hm:Pu d0 d1 s k mp m) (hr: ∀x∈left.l,0<=x.n/\x.n<m) :
 ((∀x∈left.l,Kpt d0 d1 s k left x.n)/\L 12900 [enc left,enc mp,enc d0,enc d1,enc s,enc k]=some [0,enc left,enc mp,enc d0,enc d1,enc s,enc k,enc left,enc d0,enc d1,enc s,enc k])\/
 ∃(q:Nat) (r':D),q<left.l.length/\r'.l.length=left.l.length/\r'.l.take q=Cp d0 d1 s k left left.l/\L 12900 [enc left,enc mp,enc d0,enc d1,enc s,enc k]=some [1,enc left,enc mp,enc d0,enc d1,enc s,enc k,(q:Int),enc r',enc left,enc d0,enc d1,enc s,enc k]:=by
 obtain⟨ys,hL,z,rfl,hz⟩:=Lm S hn h0 U Y hm hr left.l.length 0 J
 have ajm:L 12950 [enc left,enc mp,enc d0,enc d1,enc s,enc k]=some [0,enc left,enc mp,enc d0,enc d1,enc s,enc k,z,enc left,enc d0,enc d1,enc s,enc k]:=by rw [amO] at hL;rw [bQ,Zv];simp only [Wq,zz,bM];exact hL
 rcases hz with ⟨rfl,tg⟩|⟨q,hq,rfl,_,hnk,tg⟩
 ·refine .inl ⟨fun x hx=>?_,?_⟩
  ·obtain⟨p,hp,rfl⟩:=am2 hx;exact tg p hp J
  ·rw [bQ,O6];simp only [Nq,zz,ajm,bV]
 ·right;have c1: ¬(q:Int)= -1:=J
  have w:=bU (n:=q) J
  have h4:left.l.take q=Cp d0 d1 s k left (left.l.take (q+1)):=by rw [Be hq,af hnk];unfold Cp;refine (List.filter_eq_self.2 fun x hx=>?_).symm;obtain⟨p,hp,rfl⟩:=am2 hx;rw [a8] at hp;rw [List.getElem_take];exact decide_eq_true (tg p J J)
  obtain⟨q',r',q1,q2,q3,ih⟩:=EZ S hn h0 U Y uG hm hr (left.l.length-(q+1)) q (q+1) left rfl J J rfl h4;refine⟨q',r',q1,q2,q3,?_⟩;rw [bQ,O6];simp only [Nq,zz,ajm,af c1,w,bM];exact ih
end
def No4 (d0 d1 s k:D) (t:Int):Prop:= ∃x,Rs d0 d1 s k t x/\low (jq d1 t x) 0≠4
def PF (d0 d1 s k:D) (X:Int->Prop):Prop:= ∀t,X t->(0<=t/\t<(d1.l.length:Int))/\No4 d0 d1 s k t/\∃u,Wts d0 d1 s k t u/\(X u\/MK d0 d1 s k u)
structure akx (d0 d1 s k l:D):Prop where
 ns:XO l
 len:l.l.length<=1000
 pf:PF d0 d1 s k (fun t=>t∈l.l.map D.n)
 top: ∀X,PF d0 d1 s k X->∀t,X t->t∈l.l.map D.n
def D8 (d0 d1 s k:D) (ys:List Int):Prop:= ∃l:D,ys= [enc l]/\akx d0 d1 s k l
section
variable {d0 d1 s k:D} {n:Nat} (S:Sx s k n) (hn:n<17592186043800) (h0:Wd (.sl 3) d0) (U:Wd (.sl 4) d1)
include S hn h0 U
omit S hn h0 U in
theorem Mj {l:D} (Y:l.l= []) (hx: ∀X,PF d0 d1 s k X->∀t,X t->t∈l.l.map D.n):D8 d0 d1 s k [enc (.i 1)]:=
 ⟨.i 1,rfl,fun x hx=>by simp [D.l] at hx,by simp [D.l],fun t ht=>by simp [D.l] at ht,fun X hX t ht=>by have:=hx X hX t ht; rw [Y] at this; simp at this⟩
theorem HC {mp:D} (hd:d1.l.length<=16) (hm:Pu d0 d1 s k mp (d1.l.length:Int)): ∀(m:Nat) (left:D),left.l.length<=m->XO left->left.l.length<=16->(∀x∈left.l,(0<=x.n/\x.n<(d1.l.length:Int))/\No4 d0 d1 s k x.n)->
 (∀X,PF d0 d1 s k X->∀t,X t->t∈left.l.map D.n)->(left= .i 1\/left= .i 2\/left.l≠[])->dN 23503 [enc left,enc mp,enc d0,enc d1,enc s,enc k] (D8 d0 d1 s k):=by
 intro m
 induction m with
 |zero=>
  intro left hlm uG Y hr hx hf;have hz:left.l= []:=amJ J;have c1: ¬(0:Int)<(left.l.length:Int):=J
  refine dN.of ?_;rw [JI];rcases hf with rfl|rfl|hf
  ·have h13:L 13000 [enc mp,enc (.i 1),enc d0,enc d1,enc s,enc k]=some [0,enc mp,enc (.i 1),enc d0,enc d1,enc s,enc k]:=by
    have Z:L 13050 [enc mp,enc (.i 1),enc d0,enc d1,enc s,enc k]=some [0,enc mp,enc (.i 1),enc d0,enc d1,enc s,enc k]:=by rw [bQ,Zt];simp only [Wo,zz,bM];rw [bQ,Zs];simp only [Wn,zz,bV]
    rw [bQ,Zu];simp only [Wp,zz,Z,bV]
   simp only [Dp,zz,c1,h13];exact .out (Mj hz hx)
  ·have h13:L 13100 [enc mp,enc (.i 2),enc d0,enc d1,enc s,enc k]=some [0,enc mp,enc (.i 2),enc d0,enc d1,enc s,enc k]:=by
    have Z:L 13150 [enc mp,enc (.i 2),enc d0,enc d1,enc s,enc k]=some [0,enc mp,enc (.i 2),enc d0,enc d1,enc s,enc k]:=by rw [bQ,Zq];simp only [Wl,zz,bM];rw [bQ,Zp];simp only [Wk,zz,bV]
    rw [bQ,Zr];simp only [Wm,zz,Z,bV]
   have ne: ¬enc (.i 2)=enc (.i 1):=fun h=>by have:=gZ h; simp at this
   simp only [Dp,zz,c1,af ne,h13];exact .out (Mj hz hx)
  ·exact absurd hz hf
 |succ m ih=>
  intro left hlm uG Y hr hx hf;by_cases hz:left.l= []
  ·exact ih left (by rw [hz]; simp) uG Y hr hx hf
  have c1:(0:Int)<(left.l.length:Int):=by have:=amV.2 hz; omega
  have c2:(left.l.length:Int)<17592186044416:=J
  rcases afG S hn h0 U (left:=left) J uG hm (fun x I1=>(hr x I1).1) with ⟨tg,hL⟩|⟨q,r',q1,q2,q3,hL⟩
  ·refine dN.of ?_;rw [JI];simp only [Dp,zz,c1,c2,hL];refine .out ⟨left,rfl,uG,J,fun t ht=>?_,hx⟩;obtain⟨x,I1,rfl⟩:=aK.1 ht;obtain⟨a,b⟩:=hr x I1;exact⟨a,b,tg x I1⟩
  ·have c3: ¬((q:Int)<0):=J
   have c4: ¬((left.l.length:Int)<(q:Int)):=J
   have hlen:(Cp d0 d1 s k left left.l).length=q:=by rw [<- q3,a8]; omega
   have c5: ¬((q:Int)=(left.l.length:Int)):=J
   have FP:(eW r' (r'.l.take q)).l=Cp d0 d1 s k left left.l:=by rw [fc,q3]
   have sub: ∀x∈Cp d0 d1 s k left left.l,x∈left.l:=fun x hx=>(amL.1 hx).1
   have ih':=ih (eW r' (r'.l.take q)) (by rw [FP]; omega) (fun x hx=>by rw [FP] at hx; exact uG x (sub x hx)) (by rw [FP]; omega) (fun x hx=>by rw [FP] at hx; exact hr x (sub x hx))
    (fun X hX t ht=>by
     rw [FP];obtain⟨x,hxl,rfl⟩:=aK.1 (hx X hX t ht);obtain⟨_,_,u,hu,hc⟩:=hX _ ht;refine aK.2 ⟨x,amL.2 ⟨hxl,?_⟩,rfl⟩
     exact (@decide_eq_true_iff _ (Classical.propDecidable _)).2 ⟨u,hu,hc.imp (fun h=>hx X hX u h) id⟩)
    (by
     unfold eW;split
     ·split
      ·exact .inl rfl
      ·exact .inr (.inl rfl)
     ·rename_i h
      exact .inr (.inr (by rw [bI]; exact fun e=>h e)))
   refine dN.of ?_;rw [JI];simp only [Dp,zz,c1,c2,hL,bF,c3,q2,c4,fc,bd,q3,hlen,af c5];rw [<- q3];exact .jump ih'
theorem Fk (M:MR d0 d1 s k) (hd:d1.l.length<=16): ∀(j i:Nat) (mp:D),i+j=d1.l.length->Pu d0 d1 s k mp (i:Int)->
 ((∀t:Int,0<=t->t<(i:Int)->¬No4 d0 d1 s k t)->dN 23501 [(d1.l.length:Int),(i:Int),enc d0,enc d1,enc s,enc k,enc mp] (D8 d0 d1 s k))/\
 (∀left:D,XO left->left.l≠[]->left.l.length<=i->(∀t,t∈left.l.map D.n↔(0<=t/\t<(i:Int))/\No4 d0 d1 s k t)->dN 23502 [(d1.l.length:Int),(i:Int),enc d0,enc d1,enc s,enc k,enc left,enc mp] (D8 d0 d1 s k))
 |0,i,mp,hi,hm=>by
  have c1: ¬(i:Int)<(d1.l.length:Int):=J
  have hi':i=d1.l.length:=J
  rw [hi'] at hm;refine⟨fun Ar=>?_,fun left uG gn Y rq=>?_⟩
  ·refine dN.of ?_;rw [O3];simp only [Np,zz,c1];refine .jump (HC S hn h0 U hd hm 0 (.i 1) (by simp [D.l]) (fun x hx=>by simp [D.l] at hx) (by simp [D.l]) (fun x hx=>by simp [D.l] at hx) (fun X hX t ht=>?_) (.inl rfl));obtain⟨a,b,_⟩:=hX t ht;exact absurd b (Ar t a.1 J)
  ·refine dN.of ?_;rw [O2];simp only [Nn,zz,c1];refine .jump (HC S hn h0 U hd hm left.l.length left (au _) uG J (fun x hx=>?_) (fun X hX t ht=>?_) (.inr (.inr gn)))
   ·obtain⟨a,b⟩:=(rq x.n).1 (aK.2 ⟨x,hx,rfl⟩);exact⟨⟨a.1,J⟩,b⟩
   ·obtain⟨a,b,_⟩:=hX t ht;exact (rq t).2 ⟨⟨a.1,J⟩,b⟩
 |j+1,i,mp,hi,hm=>by
  have c1:(i:Int)<(d1.l.length:Int):=J
  have w:=bU (n:=i) J;obtain⟨x,R⟩:=M.thr S J h0 U (by omega:(0:Int)<=(i:Int)) c1;obtain⟨a,b,c,d,e,hq,_⟩:=Xt d1 (i:Int) x;have h18:=Xu R;rw [hq] at h18
  have n4:No4 d0 d1 s k (i:Int)↔a≠4:=by refine⟨fun⟨y,Ry,h⟩=>?_,fun h=> ⟨x,R,by rw [hq]; exact h⟩⟩;rw [mB S hn h0 U M Ry R,hq] at h;exact h
  obtain⟨ys,hF,wl,rfl,hu,hwl⟩:=afa S hn h0 U M (by omega:(0:Int)<=(i:Int)) c1
  have hm':Pu d0 d1 s k (dL (lP mp.l (.i (i:Int)) wl)) ((i+1:Nat):Int):=fun t t0 t1=>by
   rw [bI,AY];by_cases h:(i:Int)=t
   ·subst h;rw [ah rfl];exact⟨wl,rfl,hu,hwl⟩
   ·rw [af (fun h'=>h (by simpa using h'))];exact hm t t0 J
  obtain⟨Kd,tX⟩:=Fk M hd j (i+1) _ J hm';refine⟨fun Ar=>?_,fun left uG gn Y rq=>?_⟩
  ·refine dN.of ?_;rw [O3];simp only [Np,zz,c1,hF,h18,w];refine .ite (fun h4=> .jump (Kd fun t t0 t1=>?_)) (fun h4=> .jump (tX (dL [D.i (i:Int)]) (fun x hx=>?_) (by simp [bI]) (by rw [bI]; simp) fun t=>?_))
   ·by_cases h:t=(i:Int)
    ·subst h;exact fun q=>n4.1 q h4
    ·exact Ar t t0 J
   ·rw [bI] at hx;simp only [aw,amI,or_false] at hx;subst hx;rfl
   ·rw [bI];simp only [ax,anr,aw,amI,or_false,UU];refine⟨fun h=>?_,fun h=>?_⟩
    ·subst h;exact⟨⟨J,J⟩,n4.2 h4⟩
    ·by_cases ht:t=(i:Int)
     ·exact ht
     ·exact absurd h.2 (Ar t h.1.1 (by have:=h.1.2; omega))
  ·have c2:(left.l.length:Int)<17592186044415:=J
   refine dN.of ?_;rw [O2];simp only [Nn,zz,c1,hF,h18,w,c2];refine .ite (fun h4=> .jump (tX left uG gn J fun t=>?_)) (fun h4=> .jump (tX (dL (left.l++ [D.i (i:Int)])) (fun x hx=>?_) (by simp [bI]) (by rw [bI]; simp; omega) fun t=>?_))
   ·rw [rq t];refine⟨fun h=> ⟨⟨h.1.1,by have:=h.1.2; omega⟩,h.2⟩,fun h=> ⟨⟨h.1.1,?_⟩,h.2⟩⟩;by_cases ht:t=(i:Int)
    ·subst ht;exact absurd h4 (n4.1 h.2)
    ·have:=h.1.2; omega
   ·rw [bI] at hx;rcases amC.1 hx with hx|hx
    ·exact uG x hx
    ·simp only [aw,amI,or_false] at hx;subst hx;rfl
   ·rw [bI,yE,rq t];refine⟨fun h=>?_,fun h=>?_⟩
    ·rcases h with h|rfl
     ·exact⟨⟨h.1.1,by have:=h.1.2; omega⟩,h.2⟩
     ·exact⟨⟨J,J⟩,n4.2 h4⟩
    ·by_cases ht:t=(i:Int)
     ·exact .inr ht
     ·exact .inl ⟨⟨h.1.1,by have:=h.1.2; omega⟩,h.2⟩
theorem R3 (M:MR d0 d1 s k):dN 23500 [enc d0,enc d1,enc s,enc k] (D8 d0 d1 s k):=by
 obtain⟨ys,hM,b,rfl,hb⟩:=AU h0 U (S.g.mI J).rows U.len (k:=k)
 have hb:b=1:=by
  rcases hb with ⟨_,h⟩|⟨h,_⟩
  ·exact absurd M h
  ·exact h
 subst hb;obtain⟨hC,ok,hle⟩:=sQ h0 U S.g J M.1;have ih:=(Fk S hn h0 U M ok.2.1 d1.l.length 0 (.i 0) J (fun t t0 t1=>by omega)).1 (fun t t0 t1=>by omega);rw [amO] at ih;refine dN.of ?_;rw [Zb];simp only [Wb,zz,hM,bF];exact .jump ih
end
end Go.As.Try
end
section
namespace Go.As.Try
open Go hiding Stat Spec shape
open Go.As
set_option maxRecDepth 100000
def g! (q:PS):List Int:=[enc (if q.l= [] then .i 1 else dL q.l),enc q.s,enc q.k]
section
variable {d0 d1:D} (h0:Wd (.sl 3) d0) (U:Wd (.sl 4) d1) (hn:0<d1.l.length)
include h0 U hn
theorem Xe (d:D) (hd:d.l.length<=40000000): ∀(j i:Nat) (p:PS),i+j=d.l.length->POk d1 p i->
 (p.l= []->L 2401 [enc d,(d1.l.length:Int),(i:Int),enc d0,enc d1,enc p.s,enc p.k]=some (g! (FM d0 d1 p ((d.l.drop i).map (pkD d1)))))/\
 (p.l≠[]->L 2402 [enc d,(d1.l.length:Int),(i:Int),enc (dL p.l),enc d0,enc d1,enc p.s,enc p.k]=some (g! (FM d0 d1 p ((d.l.drop i).map (pkD d1)))))
 |0,i,p,hi,P=>by
  have c1: ¬(i:Int)<(d.l.length:Int):=J
  rw [anw J];simp only [anr,FM];refine⟨fun hp=>?_,fun hp=>?_⟩
  ·rw [bQ,RW];simp only [By,zz,c1,bV,g!,hp,if_true]
  ·rw [bQ,Y8];simp only [F6,zz,c1,bV,g!,af hp]
 |j+1,i,p,hi,P=>by
  have ep:i<d.l.length:=J
  have c1:(i:Int)<(d.l.length:Int):=J
  have c2:(0:Int)<(d1.l.length:Int):=J
  have c3: ¬((i:Int)<0):=J
  have w:=bU (n:=i) J;have hb:=U.len;have pk:=TA (x:=(d.at (i:Int)).n) c2 J;obtain⟨r1,r2⟩:=Gv (x:=(d.at (i:Int)).n) c2;have c4: ¬(pB (d.at (i:Int)).n (d1.l.length:Int)<0):=J
  have c5:pB (d.at (i:Int)).n (d1.l.length:Int)<(p.k.l.length:Int):=by have:=P.lk; omega
  obtain⟨s',k',e1,e2,e3,e4,e5,oc,A⟩:=Kz P.sx J h0 U (pB (d.at (i:Int)).n (d1.l.length:Int));have hA:=A.eq;have c6:pB (d.at (i:Int)).n (d1.l.length:Int)<(k'.l.length:Int):=by have:=P.lk; have:=A.lk; omega
  have P':=WO P A;have ih:=Xe d hd j (i+1) _ J P'
  have FQ:FM d0 d1 p ((d.l.drop i).map (pkD d1))=FM d0 d1 (stP d0 d1 p (pB (d.at (i:Int)).n (d1.l.length:Int))) ((d.l.drop (i+1)).map (pkD d1)):=by rw [bo ep,ax,FM,pkD,ct ep]
  have Y:=P.ll;have c7:(p.l.length:Int)<3518437208882:=J
  rw [FQ];generalize FM d0 d1 (stP d0 d1 p (pB (d.at (i:Int)).n (d1.l.length:Int))) ((d.l.drop (i+1)).map (pkD d1))=Q at *;rw [WQ A] at ih;obtain⟨Kd,tX⟩:=ih;refine⟨fun hp=>?_,fun hp=>?_⟩
  ·rw [bQ,RW];by_cases o2:oc=2
   ·simp only [o2,true_or,if_true,hp,aA,evD,iG,ku] at tX;simp only [By,zz,dr,c1,c2,c3,c4,c5,pk,hA,o2,w,bM,rj,aA,iG,ku];exact tX ad
   ·by_cases o3:oc=3
    ·simp only [o3,or_true,if_true,hp,aA,evD,iG,ku] at tX;simp only [By,zz,dr,c1,c2,c3,c4,c5,pk,hA,o3,w,bM,rj,aA,iG,ku,aio];exact tX ad
    ·simp only [o2,o3,or_self,if_false] at Kd;by_cases o1:oc=1
     ·simp only [By,zz,dr,c1,c2,c3,c4,c5,pk,hA,o1,w,bM,aiq,aip];exact Kd hp
     ·simp only [By,zz,dr,c1,c2,c3,c4,c5,c6,pk,hA,o1,o2,o3,w,bM];exact Kd hp
  ·rw [bQ,Y8];by_cases o2:oc=2
   ·simp only [o2,true_or,if_true,evD,iG,ku] at tX;simp only [F6,zz,dr,c1,c2,c3,c4,c5,c7,pk,hA,o2,w,bM,bI];exact tX ad
   ·by_cases o3:oc=3
    ·simp only [o3,or_true,if_true,evD,iG,ku] at tX;simp only [F6,zz,dr,c1,c2,c3,c4,c5,c7,pk,hA,o3,w,bM,bI,aio];exact tX ad
    ·simp only [o2,o3,or_self,if_false] at tX;by_cases o1:oc=1
     ·simp only [F6,zz,dr,c1,c2,c3,c4,c5,pk,hA,o1,w,bM,aiq,aip];exact tX hp
     ·simp only [F6,zz,dr,c1,c2,c3,c4,c5,c6,pk,hA,o1,o2,o3,w,bM];exact tX hp
theorem O_ {s k:D} (hB:L 1450 [enc d0,enc d1]=some [enc s,enc k,0]) (P:POk d1 ⟨s,k,[]⟩ 0) (d:D) (hd:d.l.length<=40000000):L 2400 [enc d0,enc d1,enc d]=some (g! (FM d0 d1 ⟨s,k,[]⟩ (d.l.map (pkD d1)))):=by have h:=(Xe h0 U hn d hd d.l.length 0 ⟨s,k,[]⟩ J P).1 rfl;rw [am0,amO] at h;rw [bQ,RX];simp only [PJ,zz,hB,bM];exact h
omit h0 U hn in
theorem RP {c:Int} (hc:c≠0) (hB:L 1450 [enc d0,enc d1]=some [enc (.i 1),enc (.i 1),c]) (d:D):L 2400 [enc d0,enc d1,enc d]=some [enc (.i 1),enc (.i 1),enc (.i 1)]:=by rw [bQ,RX];simp only [PJ,zz,hB,af hc,bV]
end
theorem Ty {d0 d1:D} (h0:Wd (.sl 3) d0) (U:Wd (.sl 4) d1) (hn:0<d1.l.length) (d:D) (hd:d.l.length<=40000000): ∃l s k,L 2400 [enc d0,enc d1,enc d]=some [enc l,enc s,enc k]/\Sx s k d.l.length:=by
 rcases d? h0 U with ⟨s,k,hB,P⟩|⟨z,hz,hB⟩
 ·have hQ:=PY h0 U (d.l.map (pkD d1)) _ 0 P (by rw [aP]; omega);rw [aP,ay] at hQ;exact⟨_,_,_,O_ h0 U hn hB P d hd,hQ.sx⟩
 ·exact⟨_,_,_,RP hz hB d,WJ.mono (amS _)⟩
theorem O! {x n:Int} (h:0<n) (hb:n<=140737488351232):L 2100 [x,n]=some [pB x n]:=by
 have U:=Dg (x:=x) h;have c1: ¬n<1:=J
 have w:IntKind.i64.wrap (x.tmod n+n)=x.tmod n+n:=lU J J;rw [bQ,acF];unfold pB;have dr: ∀{ρ:Nat->Int} (a b:V),(V.rem a b).den ρ=(a.den ρ).tmod (b.den ρ):=fun _ _=>rfl;by_cases hz:x.tmod n<0
 ·simp only [Wc,zz,c1,dr,hz,w,bV,if_true]
 ·simp only [Wc,zz,c1,dr,hz,bV,if_false]
end Go.As.Try
end
section
namespace Go.As.Try
open Go hiding Stat Spec shape
open Go.As
set_option maxRecDepth 100000
set_option linter.unusedSimpArgs false
set_option linter.unusedVariables false
set_option linter.unusedSectionVars false
theorem WW {k:D} {t y:Int} {x:KT} (t0:0<=t) (y0:0<=y) (h:y≠t):(mX k t x).at y=k.at y:=by obtain⟨i,rfl⟩ : ∃i:Nat,y=(i:Int):=⟨y.toNat,J⟩;show (dL (fb k.l t x.d)).at (i:Int)=k.at (i:Int);rw [og,og,bI,l9 h]
section
variable {d0 d1 s k:D} {n:Nat} (S:Sx s k n) (hn:n<17592186043800) (h0:Wd (.sl 3) d0) (U:Wd (.sl 4) d1) (M:MR d0 d1 s k)
include S hn h0 U M
theorem Mk {t:Int} {s' k':D} {e1 e2 e3 e4 e5 oc:Int} (H:vQ d0 d1 s k t n s' k' e1 e2 e3 e4 e5 oc) (N4:No4 d0 d1 s k t) {u:Int} (Z':Wts d0 d1 s k t u):s'=s/\k'=k/\e1=0/\e2=0/\e3=0/\e4=0/\e5=0/\oc=0:=by
 obtain⟨x,op,obj,arg,tr,R,ho,hq,hB,_⟩:=Z';obtain⟨z,Rz,n4⟩:=N4;have e:=mB S hn h0 U M Rz R;subst e;rw [hq] at n4
 cases H with
 |no h=>rw [R.yes] at h; simp at h
 |over y Ry wB=> have e:=mB S hn h0 U M Ry R;subst e;omega
 |loc y Ry wB ha=> have e:=mB S hn h0 U M Ry R;subst e;rw [hq] at ha;simp [low] at ha
 |tri y Ry wB op' ak5 alZ tr' Oi k1 k2 k3 fN s' e1 e2 e3 e4 e5 oc A T=>
  have e:=mB S hn h0 U M Ry R;subst e;rw [hq] at Oi;simp only [List.cons.injEq,and_true] at Oi;obtain⟨rfl,rfl,rfl,rfl⟩:=Oi;have o0:=(acZ h0 U S.g J k1 A).2 hB;obtain⟨q,q1,q2,q3,q4,q5⟩:=A.no o0;refine⟨q,?_,q1,q2,q3,q4,q5,o0⟩;have n4': ¬op=4:=n4
  have:oL (Ins d1 t y) y op e2 e3 e4 oc=y:=by unfold oL;rw [ah o0,af n4']
  rw [this];have ht:=Ry.ht;exact ND (Dh S.wk (by have:=R.r.t0; omega)).sh Ry.r.t0 ht Ry.hk
theorem O? {t:Int} {s' k':D} {e1 e2 e3 e4 e5 oc:Int} (H:vQ d0 d1 s k t n s' k' e1 e2 e3 e4 e5 oc) {X:Int->Prop} (P:PF d0 d1 s k X):PF d0 d1 s' k' X:=by
 have M':=KA S J h0 U M H;have S':=(yD S J h0 U H).1;by_cases ht:X t
 ·obtain⟨_,N4,u,Z',_⟩:=P t ht;obtain⟨rfl,rfl,_⟩:=Mk S hn h0 U M H N4 Z';exact P
 have main:(s'=s/\k'=k)\/(¬MK d0 d1 s k t/\0<=t/\∃z,k'=mX k t z):=by
  cases H with
  |no h=>exact .inl ⟨rfl,rfl⟩
  |over y Ry wB=>exact .inl ⟨rfl,rfl⟩
  |loc y Ry wB ha=>exact .inr ⟨fun⟨z,Rz,hz⟩=>by rw [mB S hn h0 U M Rz Ry] at hz; omega,Ry.r.t0,_,rfl⟩
  |tri y Ry wB op' ak5 alZ tr' Oi k1 k2 k3 fN s' e1 e2 e3 e4 e5 oc A T=>exact .inr ⟨fun⟨z,Rz,hz⟩=>by rw [mB S hn h0 U M Rz Ry] at hz; omega,Ry.r.t0,_,rfl⟩
 rcases main with ⟨rfl,rfl⟩|⟨hF,t0,z,hk⟩
 ·exact P
 have same: ∀{y:Int} {x:KT},y≠t->Rs d0 d1 s k y x->Rs d0 d1 s' k' y x:=fun {y x} hy R=>by
  obtain⟨x',R'⟩:=M'.thr S' J h0 U R.r.t0 R.r.t1;have e:k'.at y=k.at y:=by rw [hk]; exact WW t0 R.r.t0 hy
  have:=N5 (R'.hk.symm.trans (e.trans R.hk));subst this;exact R'
 intro y hy;obtain⟨rg,N4,u,Z',hc⟩:=P y hy;have yt:y≠t:=fun h=>ht (h▸hy);have ut:u≠t:=fun h=>hc.elim (fun q=>ht (h▸q)) (fun q=>hF (h▸q));obtain⟨x,Rx,n4⟩:=N4;refine⟨rg,⟨x,same yt Rx,n4⟩,u,?_,hc.imp id fun⟨w,Rw,hw⟩=> ⟨w,same ut Rw,hw⟩⟩;obtain⟨x2,op,obj,arg,tr,R,ho,hq,hB,hH⟩:=Z';have e:=mB S hn h0 U M Rx R;subst e;rw [hq] at n4;have Q:=SA R.c (aiu S hn h0 U M) R.r ho hq;obtain⟨hH',hB'⟩:=Yd S hn h0 U M H yt ut rg.1 Q hH hB n4;exact⟨x,op,obj,arg,tr,same yt Rx,ho,hq,hB',hH'⟩
end
theorem LH (l:D) (Y:l.l.length<=1000) (t:Int): ∀(j i:Nat),i+j=l.l.length->dN 23551 [t,enc l,(l.l.length:Int),(i:Int)] (Rg (t∈(l.l.drop i).map D.n))
 |0,i,hi=>by
  have c1: ¬(i:Int)<(l.l.length:Int):=J
  refine dN.of ?_;rw [O1];simp only [Nl,zz,c1];exact .out (xi fun h=>by rw [anw J] at h; simp at h)
 |j+1,i,hi=>by
  have ep:i<l.l.length:=J
  have c1:(i:Int)<(l.l.length:Int):=J
  have c2: ¬((i:Int)<0):=J
  have w:=bU (n:=i) J;have ed:(l.l.drop i).map D.n=(l.l[i]).n::(l.l.drop (i+1)).map D.n:=by rw [bo ep,ax]
  obtain⟨ys,hL,b,rfl,hb⟩:=LH l Y t j (i+1) J;refine dN.of ?_;rw [O1,ed];simp only [Nl,zz,c1,c2,ct ep,w];refine .ite (fun h=> .out (Lo (by rw [h]; exact anz ..))) (fun h=> .jump ⟨_,hL,b,rfl,hb.imp (fun q=> ⟨q.1,fun g=>?_⟩) (fun q=> ⟨q.1,anv _ q.2⟩)⟩);rcases aw.1 g with g|g
  ·exact h g.symm
  ·exact q.2 g
theorem RF (l:D) (Y:l.l.length<=1000) (t:Int): ∃b:Int,L 23550 [enc l,t]=some [b]/\(b=0/\t∉l.l.map D.n\/b=1/\t∈l.l.map D.n):=by obtain⟨ys,hL,b,rfl,hb⟩:=LH l Y t l.l.length 0 J;rw [amO,am0] at *;refine⟨b,?_,hb⟩;rw [bQ,Za];simp only [Wa,zz,bM];exact hL
def SX (d0 d1 s k dl:D):Prop:=PF d0 d1 s k (fun t=>t∈dl.l.map D.n)
section
variable {d0 d1:D} (h0:Wd (.sl 3) d0) (U:Wd (.sl 4) d1) (hd:0<d1.l.length)
include h0 U hd
theorem MD {dl now:D} (Y:dl.l.length<=1000) (UX:now.l.length<=1000) (uH: ∀t∈dl.l.map D.n,t∈now.l.map D.n) (i a b s k:Int) (e:L 23651 [enc dl,IntKind.i64.wrap (i+1),enc d0,enc d1,a,b,s,k]=some [1]): ∀(m j:Nat),j+m=dl.l.length->
 L 23652 [enc dl,i,enc now,(dl.l.length:Int),(j:Int),enc d0,enc d1,a,b,s,k]=some [1]
 |0,j,hj=>by
  have c1: ¬(j:Int)<(dl.l.length:Int):=J
  rw [bQ,OZ];simp only [Nk,zz,c1,bM];exact e
 |m+1,j,hj=>by
  have hjl:j<dl.l.length:=J
  have c1:(j:Int)<(dl.l.length:Int):=J
  have c2: ¬((j:Int)<0):=J
  have w:=bU (n:=j) J;obtain⟨c,hL,hc⟩:=RF now UX (dl.l[j]).n
  have:c=1:=by
   rcases hc with ⟨_,h⟩|⟨h,_⟩
   ·exact absurd (uH _ (aK.2 ⟨_,az hjl,rfl⟩)) h
   ·exact h
  subst this;have ih:=MD Y UX uH i a b s k e m (j+1) J;rw [bQ,OZ];simp only [Nk,zz,c1,c2,ct hjl,hL,bF,w,bM];exact ih
theorem DW {dl x5:D} (Y:dl.l.length<=1000) (x4:Int): ∀(j i:Nat) (s k:D),i+j=60->Sx s k (1000+i)->MR d0 d1 s k->SX d0 d1 s k dl->L 23651 [enc dl,(i:Int),enc d0,enc d1,x4,enc x5,enc s,enc k]=some [1]
 |0,i,s,k,hi,S,M,A=>by
  have c1: ¬(i:Int)<60:=J
  rw [bQ,JH];by_cases hz:(i:Int)<(x5.l.length:Int)
  ·simp only [AD,zz,hz,c1,bV]
  ·simp only [AD,zz,hz,bV]
 |j+1,i,s,k,hi,S,M,A=>by
  have c1:(i:Int)<60:=J
  have c2: ¬((i:Int)<0):=J
  by_cases hz:(i:Int)<(x5.l.length:Int)
  ·have hb:=U.len;have hp:=O! (x:=(x5.at (i:Int)).n) (n:=(d1.l.length:Int)) J J;obtain⟨p0,p1⟩:=Gv (x:=(x5.at (i:Int)).n) (n:=(d1.l.length:Int)) J;generalize pB (x5.at (i:Int)).n (d1.l.length:Int)=t at hp p0 p1;obtain⟨s',k',e1,e2,e3,e4,e5,oc,hL,H⟩:=Dx S J h0 U t;have M':=KA S J h0 U M H;have S':Sx s' k' (1000+(i+1)):=(yD S J h0 U H).1;have A':SX d0 d1 s' k' dl:=O? S J h0 U M H A;obtain⟨ys,hD,now,rfl,DL⟩:=R3 S' J h0 U M';have w:=bU (n:=i) J;have ih:=DW (x5:=x5) Y x4 j (i+1) s' k' J S' M' A';rw [<- w] at ih;have al:=MD h0 U hd Y DL.len (fun t ht=>DL.top _ A' t ht) (i:Int) x4 (enc x5) (enc s') (enc k') ih dl.l.length 0 J;rw [amO] at al;obtain⟨c,hH,hc⟩:=RF dl Y t;rw [bQ,JH];rcases hc with ⟨rfl,_⟩|⟨rfl,hc⟩
   ·simp only [AD,zz,hz,c1,c2,hp,hL,hH,hD,bM];exact al
   ·obtain⟨_,N4,u,Z',_⟩:=A t hc;obtain⟨q,q',rfl,rfl,rfl,rfl,rfl,rfl⟩:=Mk S J h0 U M H N4 Z';simp only [AD,zz,hz,c1,c2,hp,hL,hH,hD,bF,aeb,and_self,bM];exact al
  ·rw [bQ,JH];simp only [AD,zz,hz,bV]
end
theorem f? {d0 d1:D} (h0:Wd (.sl 3) d0) (U:Wd (.sl 4) d1) (d:D) (hd:d.l.length<=1000): ∃l s k,L 2400 [enc d0,enc d1,enc d]=some [enc l,enc s,enc k]/\Sx s k d.l.length:=by
 by_cases hn:0<d1.l.length
 ·exact Ty h0 U hn d J
 ·rcases d? h0 U with ⟨s,k,hB,P⟩|⟨z,hz,hB⟩
  ·refine⟨.i 1,s,k,?_,P.sx.mono (amS _)⟩
   ·have c1: ¬(0:Int)<(d1.l.length:Int):=J
    rw [bQ,RX];simp only [PJ,zz,hB,bM];rw [bQ,RW];by_cases hqz:(0:Int)<(d.l.length:Int)
    ·simp only [By,zz,hqz,c1,bV]
    ·simp only [By,zz,hqz,bV]
  ·exact⟨_,_,_,RP hz hB d,WJ.mono (amS _)⟩
theorem Tz {d0 d1:D} (h0:Wd (.sl 3) d0) (U:Wd (.sl 4) d1) (x:D) (m:Nat) (hm:m<=1000): ∃s k:D,Sx s k 1000/\∃b:Int,L 23600 [enc d0,enc d1,enc x,(m:Int)]=some [enc s,enc k,b]/\(b=0\/b=1/\MR d0 d1 s k/\0<d1.l.length):=by
 have key: ∀q:D,q.l.length<=m->∃s k:D,Sx s k 1000/\∃b:Int,(∃l,L 2400 [enc d0,enc d1,enc q]=some [enc l,enc s,enc k])/\L 1500 [enc d0,enc d1,enc s,enc k]=some [b]/\(b=0\/b=1/\MR d0 d1 s k):=fun q hq=>by obtain⟨l,s,k,hL,S⟩:=f? h0 U q J;have S:=S.mono (by omega:q.l.length<=1000);obtain⟨ys,hM,b,rfl,hb⟩:=AU h0 U (S.g.mI J).rows U.len (k:=k);exact⟨s,k,S,b,⟨l,hL⟩,hM,hb.imp (fun h=>h.1) id⟩
 have c0: ¬((m:Int)<0):=J
 by_cases hx:(m:Int)<(x.l.length:Int)
 ·obtain⟨s,k,S,b,⟨l,hL⟩,hM,hb⟩:=key (eW x (x.l.take m)) (by rw [fc,a8]; omega);refine⟨s,k,S,?_⟩;rw [bQ,O0];by_cases hd:(0:Int)<(d1.l.length:Int)
  ·rcases hb with rfl|⟨rfl,M⟩
   ·exact⟨0,by simp only [xD,zz,hx,c0,bd,hL,hM,hd,bV],.inl rfl⟩
   ·exact⟨1,by simp only [xD,zz,hx,c0,bd,hL,hM,hd,bF,bV],.inr ⟨rfl,M,J⟩⟩
  ·exact⟨0,by simp only [xD,zz,hx,c0,bd,hL,hM,hd,bV],.inl rfl⟩
 ·have c3: ¬((x.l.length:Int)<(x.l.length:Int)):=J
  obtain⟨s,k,S,b,⟨l,hL⟩,hM,hb⟩:=key (eW x (x.l.take x.l.length)) (by rw [fc,a8]; omega);refine⟨s,k,S,?_⟩;rw [bQ,O0];by_cases hd:(0:Int)<(d1.l.length:Int)
  ·rcases hb with rfl|⟨rfl,M⟩
   ·exact⟨0,by simp only [xD,zz,hx,c3,bd,hL,hM,hd,bV],.inl rfl⟩
   ·exact⟨1,by simp only [xD,zz,hx,c3,bd,hL,hM,hd,bF,bV],.inr ⟨rfl,M,J⟩⟩
  ·exact⟨0,by simp only [xD,zz,hx,c3,bd,hL,hM,hd,bV],.inl rfl⟩
theorem Nb {d0 d1:D} (h0:Wd (.sl 3) d0) (U:Wd (.sl 4) d1) (x y:D):L 23650 [enc d0,enc d1,enc x,enc y]=some [1]:=by
 obtain⟨ys,hG,hb⟩:=Ua (d0:=d0) U;obtain⟨b,rfl,hb⟩:=hb;obtain⟨s,k,S,c,hP,hc⟩:=Tz h0 U x 100 J;have hP:L 23600 [enc d0,enc d1,enc x,100]=some [enc s,enc k,c]:=hP;rw [bQ,Y9];by_cases rI:b=0
 ·subst rI;rcases hc with rfl|⟨rfl,M,hd⟩
  ·simp only [Ia,zz,hG,hP,bV]
  ·obtain⟨ys,hD,dl,rfl,DL⟩:=R3 S J h0 U M;simp only [Ia,zz,hG,hP,hD,bF,bM];have:=DW h0 U hd (dl:=dl) (x5:=y) DL.len (enc x) 60 0 s k J S M DL.pf;rw [amO] at this;exact this
 ·simp only [Ia,zz,hG,rI,bV]
end Go.As.Try
end
section
namespace Go.Proofs.YtlgfoolepdjmoaaGreatDoor.fnWaitsNever
open Go hiding Stat
open Go.As Go.As.Try Go.Proofs Go.RowKit Go.ChangeShapes Go.WideShapes Go.ChangeAt
set_option maxRecDepth 100000
theorem aaj:uq Tryz.prog Q? 8 25=some [.sl 3,.sl 4]:=aa
theorem aai:uq Tryz.prog Q? 8 27=some [.sl 0,.sl 0]:=aa
theorem Mu {H:Type} {enc:TypeId×Value->H} {Z':World} {t:TypeId} {v:Value} {d:DataW H} {p:List MemPlace} {FX:List CK} (hf:uq Tryz.prog Q? 8 t=some FX) (h:DataW.Trod enc Tryz.prog Z' 0 (fun _=>true) true t v d p) (hw:(d.weights Tryz.prog t).all (·<=reachBytes)=true) :
 ∃ds,Rs (NJ Z') Z'.heap FX ds v.cells.toList:=by
 obtain⟨fuel,hx⟩:=h;exact Is Q! fuel t 8 FX v.cells.toList (d,p) hf hx hw
theorem ail:23650∈S.Cm 3:=by
 have h:S.Cm 3= [23650]:=aa
 rw [h];simp
theorem Z7 (H:Type) (enc:TypeId×Value->H) (Z':World) (base:Nat) (args:Array Value) (ds gs:List (DataW H)) (before:List MemPlace)
 (I2: ∀(j:Nat) t v,Tryz.f3.params[j]?=some t->args[j]?=some v->Value.okWide Tryz.prog Z' .any base t v)
 (hW:DataW.Whole enc Tryz.prog Tryz.f3.params.toList Rows.waitsNeverSpec.vars false Z' args.toList ds gs before)
 (gT:(DataW.weightsEach Tryz.prog (Tryz.f3.params.toList++ []) (ds++gs)).all (·<=reachBytes)=true) (xX:Z'.ShapedOpen Tryz.prog) :
 Calls Tryz.prog 3 args Z' fun e W'=> ∃v,e= .returned v/\Rows.waitsNeverSpec.post enc Tryz.prog Tryz.f3 false true false false Z' args v W':=by
 have hW':=hW;obtain⟨p,q,hA0,hV,rfl,hfz,BW⟩:=hW;have hA:DataW.TrodAll enc Tryz.prog Z' 0 (fun _=>true) true Tryz.f3.params.toList args.toList ds p:=hA0;rw [Tryz.params3] at hA I2 gT;obtain⟨v0,vs0,d0,ds0,p0,q0,ab1,rfl,rfl,h0,r0⟩:=trodAll_cons hA;obtain⟨v1,Vy,d1,ds1,p1,q1,rfl,rfl,rfl,U,r1⟩:=trodAll_cons r0;obtain⟨rfl,rfl,rfl⟩:=trodAll_nil r1;obtain rfl:args= #[v0,v1]:=by cases args; simp_all
 obtain⟨rfl,rfl⟩:=trodVars_none hV;clear hA0;simp only [ank] at hW';have fD: ∀x∈p0++p1,x.block<Z'.heap.size:=fun x hx=>by simpa using hW'.lt x (by simpa using hx)
 have alj: ∀x∈p0,x.block<Z'.heap.size:=fun x hx=>fD x (an7 _ hx);have ali: ∀x∈p1,x.block<Z'.heap.size:=fun x hx=>fD x (an6 _ hx)
 have aiP:(d0.weights Tryz.prog 25).all (·<=reachBytes)=true/\(d1.weights Tryz.prog 27).all (·<=reachBytes)=true:=by have:(DataW.weightsEach Tryz.prog [25,27] [d0,d1]).all (·<=reachBytes)=true:=gT;simp only [DataW.weightsEach,an5,an] at this;exact⟨this.1,this.2.1⟩
 obtain⟨es0,R0⟩:=Mu aaj h0 aiP.1;obtain⟨es1,R1⟩:=Mu aai U aiP.2;obtain⟨cs0,rfl,_⟩:=okWide_struct Tryz.underlying25 (I2 0 25 v0 rfl rfl);have e0:(Value.agg cs0).cells.toList=cs0.toList:=rfl;obtain⟨cs1,rfl,_⟩:=IE Tryz.underlying27 (I2 1 27 v1 rfl rfl);have e1:(Value.agg cs1).cells.toList=cs1.toList:=rfl;rw [e0] at R0;rw [e1] at R1
 match es0,alD:cs0.toList,R0 with
 |[x0,x1],[u0,u1],.cons r0_ w0 (.cons r1_ w1 .nil)=>
  obtain rfl:cs0= #[u0,u1]:=by rw [<- Array.toArray_toList (xs:=cs0),alD]
  match es1,alC:cs1.toList,R1 with
  |[x2,x3],[u2,u3],.cons r2_ w2 (.cons r3_ w3 .nil)=>
   obtain rfl:cs1= #[u2,u3]:=by rw [<- Array.toArray_toList (xs:=cs1),alC]
   have hL:=(Nb w0 w1 x2 x3);refine (b_ (g:=3) (j:=23650) (e:=(akE aa3 93).ent) ail aa rfl rfl hL xX (vals:=[.agg [u0,u1].toArray,.agg [u2,u3].toArray]) (fl:=[u0,u1,u2,u3]) (.agg _ [u0,u1] rfl (.agg _ [u2,u3] rfl .nil)) ⟨_,_,_,_,rfl,rfl,Ag r0_,_,_,_,_,rfl,rfl,Ag r1_,_,_,_,_,rfl,rfl,Ag r2_,_,_,_,_,rfl,rfl,Ag r3_,rfl,rfl⟩).mono fun e W' ⟨he,hb⟩=>?_;subst he;exact⟨_,rfl,⟨_,_,_,[],_,[],hW',trodAll_mk1 (shut_bool Tryz.underlying4 _),trodAll_mk2 (Below.trod laidOut aa (of_decide_eq_true aa) h0 hb alj) (Below.trod laidOut aa (of_decide_eq_true aa) U hb ali),rfl,hb.frame _,fun h=>by cases h⟩⟩
abbrev PA:Array Value:=#[.agg #[.slice none 0 0,.slice none 0 0],.agg #[.slice none 0 0,.slice none 0 0]]
theorem XH (os:Os):laidMet Tryz.prog Rows.waitsNeverRow.laid ((A1 os).forCall (fun _ _=>0) ⟨#[],PA,[]⟩).memory:=
 laidMet_of_run' 8 aa aa
theorem reads (os:Os) {H:Type} (enc:TypeId×Value->H): ∃places,DataW.whole enc Tryz.prog ((A1 os).forCall (fun _ _=>0) ⟨#[],PA,[]⟩).memory Tryz.f3.params.toList [] false PA.toList 8=some ([.agg [.nil,.nil],.agg [.nil,.nil]],[],places):=
 ⟨[],aa⟩
set_option maxHeartbeats 400000 in
theorem lifted (os:Os) (started:os.Started) (H:Type) (enc:TypeId×Value->H) (F:Stop.Interp) :
 ReturnsInHanded {} Tryz.checked os 3 .any ((OpenSpec.ofChange Rows.waitsNeverSpec).preRow enc Tryz.prog Tryz.f3 Rows.waitsNeverRow.domain false Rows.waitsNeverRow.laid) (((OpenSpec.ofChange Rows.waitsNeverSpec).at F).post enc Tryz.prog Tryz.f3 false true false false):=by
 obtain⟨places,hx⟩:=reads os enc
 refine returnsInHanded_of_row (C:=Tryz.checked) (s:=OpenSpec.ofChange Rows.waitsNeverSpec) Try.own started aa Tryz.func3
  (witness_row_at (enc:=enc) (C:=Tryz.checked) false (A1 os) PA rfl aa aa aa
   (OpenSpec.preRow_of_cond 8 hx aa (fun k hk=>by cases hk) aa (XH os))) ?_
 intro Z' base args ds gs before I2 hW _ _ gT _ xX _;exact Z7 H enc Z' base args ds gs before I2 hW gT xX
theorem gX {a b:Bool} (U:a=true) (Z:b=true):(a&&b)=true:=by rw [U,Z]; rfl
theorem closed:joinedFacts Tryz.pinned.checked.prog 3 Tryz.f3 (OpenSpec.ofChange Rows.waitsNeverSpec).bare Rows.waitsNeverRow=true:=(gX (gX (gX (gX (gX (gX (gX (gX (gX (gX (gX (gX (gX (gX (gX (gX (gX (gX (gX (gX (gX (gX (gX (gX (gX (gX (gX (gX (gX (gX (gX aa aa) aa) aa) aa) aa) aa) aa) aa) aa) aa) aa) aa) aa) aa) aa) aa) aa) aa) aa) aa) aa) aa) aa) aa) aa) aa) aa) aa) aa) aa) aa)
theorem said:Rows.WaitsNeverSaid:=
 OpenClaim.holds_of_cond 3 Tryz.f3 rfl rfl rfl rfl rfl rfl rfl ⟨rfl,rfl,rfl,rfl,rfl⟩ rfl rfl rfl rfl rfl aa Tryz.func3 closed
  (of_decide_eq_true aa) (by unfold Func.isWrapper; first |(rw [ah (by decide +kernel)]; kernel_rfl)|(rw [af (by decide +kernel)]; exact⟨rfl,rfl⟩))
  (fun os started H enc _ F=>by rw [OpenClaim.pre_eq_preRow]; exact lifted os started H enc F)
theorem plain (f:FuncId) (fn:Func) (hf:Tryz.pinned.checked.prog.funcNamed "amanuensis/amanuensislaw22.WaitsNever" = some f) (ua:Tryz.pinned.checked.prog.funcs[f]?=some fn) :
 false=Tryz.pinned.checked.prog.looks []/\∀(j:Nat) t,fn.params[j]?=some t->Tryz.pinned.checked.prog.wantsStandIn t=false:=by
 obtain rfl:f=3:=Option.some.inj ((show Tryz.prog.funcNamed "amanuensis/amanuensislaw22.WaitsNever" = some 3 by kernel_rfl).symm.trans hf) |>.symm;obtain rfl:fn=Tryz.f3:=(Option.some.inj (Tryz.func3.symm.trans ua)).symm;refine⟨aa,fun j t ht=>?_⟩;rw [Tryz.params3] at ht;have hm:=aop ht;simp only [List.mem_toArray,aw,amI,or_false] at hm;rcases hm with rfl|rfl
 all_goals exact (by kernel_rfl:Tryz.prog.wantsStandIn _=false)
theorem card:Rows.WaitsNeverCardSaid:=
 Claim7.holds_tied_plain_at .later [] _ _ _ _ said (fun _ h=>by cases h) aa (fun _ h=>by cases h) waitsNever_row_tie rfl ⟨rfl,rfl⟩ aa rfl plain aa
end Go.Proofs.YtlgfoolepdjmoaaGreatDoor.fnWaitsNever
end

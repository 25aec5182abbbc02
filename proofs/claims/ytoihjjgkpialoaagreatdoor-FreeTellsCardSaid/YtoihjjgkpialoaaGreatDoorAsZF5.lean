/-
  Proved: the given card of the law FreeTells: whatever the input, the call returns true and each argument reads afterwards as it did. Conditions: those of the given row alone (its listed package-level variables start as the program's text lays them; each string, slice and map that is handed in lies within a process's addresses).
-/
import Derived.Test.YtoihjjgkpialoaaGreatDoorAsZF4
set_option linter.unusedSectionVars false
set_option linter.unusedVariables false
set_option linter.unusedSimpArgs false
section
namespace Go.As.Try
open Go hiding Stat Spec shape
open Go.As
set_option maxRecDepth 100000
def cK (x:D):D:=dL [.i (x.V 0).n,kQ (x.V 1),.i (x.V 2).n,.i (x.V 3).n,.i (x.V 4).n,.i (x.V 5).n]
def iV (k:D):D:=if k.l.length=0 then .i 1 else dL (k.l.map cK)
theorem qG (k:D):(iV k).l=k.l.map cK:=by
 unfold iV;split
 ·rename_i h;rw [arI.1 h];rfl
 ·rw [bz]
def phK:D:=dL [.i 0,.i 1,.i 0,.i 0,.i 0,.i 0]
section
variable {s k:D} (hk:k.l.length<=2199023255500) (hc: ∀x∈k.l,(x.V 1).l.length<17592186044415)
include hk hc
theorem UJ (s0:D) (s1:Int): ∀(j i:Nat) (acc:List D),i+j=k.l.length->acc.length=i->bL 22252 [(i:Int),enc s0,enc k,s1,enc (dL acc)] (·= [s1,enc (dL (acc++(k.l.drop i).map cK))])
 |0,i,acc,U,Z=>by
  have c1: ¬(i:Int)<(k.l.length:Int):=J
  refine bL.of ?_;rw [Tm,aX J];simp only [KS,zz,c1];exact .out (by rw [aru,bh])
 |j+1,i,acc,U,Z=>by
  have hi:i<k.l.length:=J
  have V:k.l.drop i=k.l[i]::k.l.drop (i+1):=aC hi;have ih:=UJ s0 s1 j (i+1) (acc++ [cK k.l[i]]) J (by simp [Z]);have w:=bF (n:=i) J;have c1:(i:Int)<(k.l.length:Int):=J
  have c2: ¬((i:Int)<0):=J
  have c3:(acc.length:Int)<2199023255551:=J
  have q:=hc _ (aq hi);rw [bp,bd] at ih;refine bL.of ?_;rw [Tm,V,aA];have gz:=bG hi;generalize k.l[i]=x at *;have q:((x.V 1).l.length:Int)<17592186044416:=J
  unfold cK kQ at ih ⊢;by_cases r1:((x.V 1).l.length:Int)=0
  ·simp only [r1,if_true] at ih ⊢;simp only [KS,zz,c1,c2,c3,w,gz,bz,r1];exact .jump ih
  ·simp only [r1,if_false] at ih ⊢;simp only [KS,zz,c1,c2,c3,w,gz,bz,q,r1];exact .jump ih
theorem amY {s1:Int} (hs:L 3950 [enc s]=some [s1]):L 22250 [enc s,enc k]=some [s1,enc (iV k)]:=by
 have:bL 22250 [enc s,enc k] (·= [s1,enc (iV k)]):=by
  refine bL.of ?_;rw [aby];simp only [j?,zz,hs];refine .jump (bL.of ?_);rw [abx];unfold iV;by_cases hz:k.l.length=0
  ·have c1: ¬(0:Int)<(k.l.length:Int):=J
   simp only [KU,zz,c1];exact .out (by rw [ag hz])
  ·have hi:0<k.l.length:=J
   have c1:(0:Int)<(k.l.length:Int):=J
   have gz:k.at 0=k.l[0]:=bG hi
   have V:k.l=k.l[0]::k.l.drop 1:=by
    have:=aC hi
    grind
   have ih:=UJ hk hc s s1 (k.l.length-1) 1 [cK k.l[0]] J rfl;rw [bd,<- aA,<- V] at ih;have q:=hc _ (aq hi);rw [af hz];generalize k.l[0]=x at *;have q:((x.V 1).l.length:Int)<17592186044416:=J
   unfold cK kQ at ih;by_cases r1:((x.V 1).l.length:Int)=0
   ·simp only [r1,if_true] at ih;simp only [KU,zz,c1,gz,r1,lG,au];exact .jump ih
   ·simp only [r1,if_false] at ih;simp only [KU,zz,c1,gz,q,r1,lG,au];exact .jump ih
 obtain⟨ys,h,rfl⟩:=this;exact h
theorem GL (t:Nat) (s0 s1:Int) (y6 y7 y8 y9 mb:Int): ∀(j i:Nat) (acc:List D),i+j=k.l.length->acc.length=i->t<i->
 bL 9152 [(t:Int),(i:Int),s0,enc k,s1,enc (dL acc),y6,y7,y8,y9,mb] (·= [1,(t:Int),s1,enc (dL (acc++(k.l.drop i).map cK)),y6,y7,y8,y9,mb])
 |0,i,acc,U,Z,h3=>by
  have c1: ¬(i:Int)<(k.l.length:Int):=J
  have c0: ¬(i:Int)=(t:Int):=J
  refine bL.of ?_;rw [aaz,aX J];simp only [Ul,zz,c1,c0];exact .out (by rw [aru,bh])
 |j+1,i,acc,U,Z,h3=>by
  have hi:i<k.l.length:=J
  have V:k.l.drop i=k.l[i]::k.l.drop (i+1):=aC hi;have ih:=GL t s0 s1 y6 y7 y8 y9 mb j (i+1) (acc++ [cK k.l[i]]) J (by simp [Z]) J;have w:=bF (n:=i) J;have c0: ¬(i:Int)=(t:Int):=J
  have c1:(i:Int)<(k.l.length:Int):=J
  have c2: ¬((i:Int)<0):=J
  have c3:(acc.length:Int)<2199023255551:=J
  have c4:(t:Int)<(acc.length:Int):=J
  have q:=hc _ (aq hi);rw [bp,bd] at ih;refine bL.of ?_;rw [aaz,V,aA];have gz:=bG hi;generalize k.l[i]=x at *;have q:((x.V 1).l.length:Int)<17592186044416:=J
  unfold cK kQ at ih ⊢;by_cases r1:((x.V 1).l.length:Int)=0
  ·simp only [r1,if_true] at ih ⊢;simp only [Ul,zz,c0,c1,c2,c3,c4,w,gz,bz,r1];exact .jump ih
  ·simp only [r1,if_false] at ih ⊢;simp only [Ul,zz,c0,c1,c2,c3,c4,w,gz,bz,q,r1];exact .jump ih
theorem GK (t:Nat) (s0 s1:Int) (y6 y7 y8 y9 mb mO:Int): ∀(j i:Nat) (acc:List D),i+j=k.l.length->acc.length=i->t<i->
 bL 9153 [(t:Int),(i:Int),s0,enc k,s1,enc (dL acc),y6,y7,y8,y9,mb,mO] (·= [2,(t:Int),s1,enc (dL (acc++(k.l.drop i).map cK)),y6,y7,y8,y9,mb,mO])
 |0,i,acc,U,Z,h3=>by
  have c1: ¬(i:Int)<(k.l.length:Int):=J
  have c0: ¬(i:Int)=(t:Int):=J
  refine bL.of ?_;rw [aay,aX J];simp only [Uk,zz,c1,c0];exact .out (by rw [aru,bh])
 |j+1,i,acc,U,Z,h3=>by
  have hi:i<k.l.length:=J
  have V:k.l.drop i=k.l[i]::k.l.drop (i+1):=aC hi;have ih:=GK t s0 s1 y6 y7 y8 y9 mb mO j (i+1) (acc++ [cK k.l[i]]) J (by simp [Z]) J;have w:=bF (n:=i) J;have c0: ¬(i:Int)=(t:Int):=J
  have c1:(i:Int)<(k.l.length:Int):=J
  have c2: ¬((i:Int)<0):=J
  have c3:(acc.length:Int)<2199023255551:=J
  have c4:(t:Int)<(acc.length:Int):=J
  have q:=hc _ (aq hi);rw [bp,bd] at ih;refine bL.of ?_;rw [aay,V,aA];have gz:=bG hi;generalize k.l[i]=x at *;have q:((x.V 1).l.length:Int)<17592186044416:=J
  unfold cK kQ at ih ⊢;by_cases r1:((x.V 1).l.length:Int)=0
  ·simp only [r1,if_true] at ih ⊢;simp only [Uk,zz,c0,c1,c2,c3,c4,w,gz,bz,r1];exact .jump ih
  ·simp only [r1,if_false] at ih ⊢;simp only [Uk,zz,c0,c1,c2,c3,c4,w,gz,bz,q,r1];exact .jump ih
def LI (x:D):Int:=if ((x.V 1).l.length:Int)=0 then 1 else 2
def A5 (x:D):List Int:=(x.V 0).n::(if ((x.V 1).l.length:Int)=0 then [] else [enc (x.V 1)])++ [(x.V 2).n,(x.V 3).n,(x.V 4).n,(x.V 5).n]
theorem aj4 (t:Nat) (ht:t<k.l.length) (s0 s1:Int) (acc:List D) (ha:acc.length=t) :
 bL 9154 [(t:Int),(t:Int),s0,enc k,s1,enc (dL acc)] (·= LI k.l[t]::(t:Int)::s1::enc (dL (acc++phK::(k.l.drop (t+1)).map cK))::A5 k.l[t]):=by
 have w:=bF (n:=t) J;have c1:(t:Int)<(k.l.length:Int):=J
 have c2: ¬((t:Int)<0):=J
 have c4:(acc.length:Int)=(t:Int):=J
 have c5:(t:Int)<2199023255551:=J
 have q:=hc _ (aq ht);have t2:=fun a b c d e=>GL hk hc t s0 s1 a b c d e (k.l.length-(t+1)) (t+1) (acc++ [phK]) J (by simp [ha]) J;have t3:=fun a b c d e f=>GK hk hc t s0 s1 a b c d e f (k.l.length-(t+1)) (t+1) (acc++ [phK]) J (by simp [ha]) J;rw [bp,bd] at t2 t3;refine bL.of ?_;rw [Pg];have gz:=bG ht;unfold LI A5;generalize k.l[t]=x at *;have q:((x.V 1).l.length:Int)<17592186044416:=J
 by_cases r1:((x.V 1).l.length:Int)=0
 ·simp only [Dy,zz,c1,c2,c5,c4,w,gz,bz,r1,q];exact .jump (t2 _ _ _ _ _)
 ·simp only [Dy,zz,c1,c2,c5,c4,w,gz,bz,r1,q];exact .jump (t3 _ _ _ _ _ _)
theorem Ov (t:Nat) (ht:t<k.l.length) (s0 s1:Int): ∀(j i:Nat) (acc:List D),i+j=t->acc.length=i->
 bL 9154 [(t:Int),(i:Int),s0,enc k,s1,enc (dL acc)] (·= LI k.l[t]::(t:Int)::s1::enc (dL (acc++((k.l.drop i).take j).map cK++phK::(k.l.drop (t+1)).map cK))::A5 k.l[t])
 |0,i,acc,U,Z=>by
  grind [aj4]
 |j+1,i,acc,U,Z=>by
  have hi:i<k.l.length:=J
  have V:k.l.drop i=k.l[i]::k.l.drop (i+1):=aC hi;have ih:=Ov t ht s0 s1 j (i+1) (acc++ [cK k.l[i]]) J (by simp [Z]);have w:=bF (n:=i) J;have c0: ¬(i:Int)=(t:Int):=J
  have c1:(i:Int)<(k.l.length:Int):=J
  have c2: ¬((i:Int)<0):=J
  have c3:(acc.length:Int)<2199023255551:=J
  have q:=hc _ (aq hi)
  have Y?:acc++((k.l.drop i).take (j+1)).map cK=acc++ [cK k.l[i]]++((k.l.drop (i+1)).take j).map cK:=by
   grind
  rw [<- Y?] at ih;refine bL.of ?_;rw [Pg];have gz:=bG hi;clear Y? V;generalize k.l[i]=x at *;have q:((x.V 1).l.length:Int)<17592186044416:=J
  unfold cK kQ at ih;by_cases r1:((x.V 1).l.length:Int)=0
  ·simp only [r1,if_true] at ih;simp only [Dy,zz,c0,c1,c2,c3,w,gz,bz,r1];exact .jump ih
  ·simp only [r1,if_false] at ih;simp only [Dy,zz,c0,c1,c2,c3,w,gz,bz,q,r1];exact .jump ih
def A6 (k:D) (t:Nat):D:=dL ((k.l.take t).map cK++phK::(k.l.drop (t+1)).map cK)
theorem O' (t:Nat) (ht:t<k.l.length) {s1:Int} (hs:L 3950 [enc s]=some [s1]) :
 L 9150 [(t:Int),enc s,enc k]=some (LI k.l[t]::(t:Int)::s1::enc (A6 k t)::A5 k.l[t]):=by
 have:bL 9150 [(t:Int),enc s,enc k] (·= LI k.l[t]::(t:Int)::s1::enc (A6 k t)::A5 k.l[t]):=by
  unfold A6;refine bL.of ?_;rw [VQ];simp only [Um,zz,hs];refine .jump (bL.of ?_);have hi:0<k.l.length:=J
  have c1:(0:Int)<(k.l.length:Int):=J
  have gz:k.at 0=k.l[0]:=bG hi
  have V:k.l=k.l[0]::k.l.drop 1:=by
   have:=aC hi
   grind
  have q:=hc _ (aq hi);rw [VP];by_cases h0:t=0
  ·subst h0;have t2:=fun a b c d e=>GL hk hc 0 (enc s) s1 a b c d e (k.l.length-1) 1 [phK] J rfl J;have t3:=fun a b c d e f=>GK hk hc 0 (enc s) s1 a b c d e f (k.l.length-1) 1 [phK] J rfl J;rw [bd] at t2 t3;rw [asI,aru,au];have c0:(0:Int)=((0:Nat):Int):=rfl;unfold LI A5;clear V;generalize k.l[0]=x at *;have q:((x.V 1).l.length:Int)<17592186044416:=J
   by_cases r1:((x.V 1).l.length:Int)=0
   ·simp only [Dz,zz,c1,gz,r1,q,lG,au,<- c0];exact .jump (t2 _ _ _ _ _)
   ·simp only [Dz,zz,c1,gz,r1,q,lG,au,<- c0];exact .jump (t3 _ _ _ _ _ _)
  ·have c0: ¬(0:Int)=(t:Int):=J
   have ih:=Ov hk hc t ht (enc s) s1 (t-1) 1 [cK k.l[0]] J rfl
   have Y?:(k.l.take t).map cK= [cK k.l[0]]++((k.l.drop 1).take (t-1)).map cK:=by
    obtain⟨m,rfl⟩ : ∃m,t=m+1:=⟨t-1,J⟩
    grind
   rw [<- Y?] at ih;clear Y? V;generalize k.l[0]=x at *;have ih:bL 9154 [(t:Int),1,enc s,enc k,s1,enc (dL [cK x])] _:=ih;have q:((x.V 1).l.length:Int)<17592186044416:=J
   unfold cK kQ at ih;by_cases r1:((x.V 1).l.length:Int)=0
   ·simp only [r1,if_true] at ih;simp only [Dz,zz,c0,c1,gz,q,lG,au,r1];exact .jump ih
   ·simp only [r1,if_false] at ih;simp only [Dz,zz,c0,c1,gz,q,lG,au,r1];exact .jump ih
 obtain⟨ys,h,rfl⟩:=this;exact h
theorem O_ (t:Int) (ht:t<0\/(k.l.length:Int)<=t) (s0 s1:Int): ∀(j i:Nat) (acc:List D),i+j=k.l.length->acc.length=i->
 bL 9154 [t,(i:Int),s0,enc k,s1,enc (dL acc)] (·= [3,t,s1,enc (dL (acc++(k.l.drop i).map cK))])
 |0,i,acc,U,Z=>by
  have c1: ¬(i:Int)<(k.l.length:Int):=J
  refine bL.of ?_;rw [Pg,aX J];simp only [Dy,zz,c1];refine .ite (fun _=> .out (by rw [aru,bh])) fun _=> .out (by rw [aru,bh])
 |j+1,i,acc,U,Z=>by
  have hi:i<k.l.length:=J
  have V:k.l.drop i=k.l[i]::k.l.drop (i+1):=aC hi;have ih:=O_ t ht s0 s1 j (i+1) (acc++ [cK k.l[i]]) J (by simp [Z]);have w:=bF (n:=i) J;have c0: ¬(i:Int)=t:=J
  have c1:(i:Int)<(k.l.length:Int):=J
  have c2: ¬((i:Int)<0):=J
  have c3:(acc.length:Int)<2199023255551:=J
  have q:=hc _ (aq hi);rw [bp,bd] at ih;refine bL.of ?_;rw [Pg,V,aA];have gz:=bG hi;generalize k.l[i]=x at *;have q:((x.V 1).l.length:Int)<17592186044416:=J
  unfold cK kQ at ih ⊢;by_cases r1:((x.V 1).l.length:Int)=0
  ·simp only [r1,if_true] at ih ⊢;simp only [Dy,zz,c0,c1,c2,c3,w,gz,bz,r1];exact .jump ih
  ·simp only [r1,if_false] at ih ⊢;simp only [Dy,zz,c0,c1,c2,c3,w,gz,bz,q,r1];exact .jump ih
theorem anu (t:Int) (ht:t<0\/(k.l.length:Int)<=t) {s1:Int} (hs:L 3950 [enc s]=some [s1]) :
 L 9150 [t,enc s,enc k]=some [3,t,s1,enc (iV k)]\/L 9150 [t,enc s,enc k]=some [0,t,s1]/\iV k= .i 1:=by
 by_cases hz:k.l.length=0
 ·refine .inr ⟨?_,by unfold iV; rw [ag hz]⟩;have c1: ¬(0:Int)<(k.l.length:Int):=J
  have:bL 9150 [t,enc s,enc k] (·= [0,t,s1]):=by refine bL.of ?_;rw [VQ];simp only [Um,zz,hs];refine .jump (bL.of ?_);rw [VP];simp only [Dz,zz,c1];exact .ite (fun _=> .out rfl) fun _=> .out rfl
  obtain⟨ys,h,rfl⟩:=this;exact h
 ·refine .inl ?_
  have:bL 9150 [t,enc s,enc k] (·= [3,t,s1,enc (iV k)]):=by
   refine bL.of ?_;rw [VQ];simp only [Um,zz,hs];refine .jump (bL.of ?_);have hi:0<k.l.length:=J
   have c0: ¬(0:Int)=t:=J
   have c1:(0:Int)<(k.l.length:Int):=J
   have gz:k.at 0=k.l[0]:=bG hi
   have V:k.l=k.l[0]::k.l.drop 1:=by
    have:=aC hi
    grind
   have q:=hc _ (aq hi);have ih:=O_ hk hc t ht (enc s) s1 (k.l.length-1) 1 [cK k.l[0]] J rfl;rw [bd,<- aA,<- V] at ih;unfold iV;rw [VP,af hz];clear V;generalize k.l[0]=x at *;have ih:bL 9154 [t,1,enc s,enc k,s1,enc (dL [cK x])] _:=ih;have q:((x.V 1).l.length:Int)<17592186044416:=J
   unfold cK kQ at ih;by_cases r1:((x.V 1).l.length:Int)=0
   ·simp only [r1,if_true] at ih;simp only [Dz,zz,c0,c1,gz,q,lG,au,r1];exact .jump ih
   ·simp only [r1,if_false] at ih;simp only [Dz,zz,c0,c1,gz,q,lG,au,r1];exact .jump ih
  obtain⟨ys,h,rfl⟩:=this;exact h
end
abbrev vp (s b:D) (oc:Int):D:=if oc=0 then s else b
section
variable {d0 d1 s b k:D} {t op obj arg tries e1 e2 e3 e4 e5 oc:Int} {x:KT} (C:Cd d0 d1) (ht:t<(k.l.length:Int)) (R:Rt d0 d1 t x)
 (hB:L 4000 [enc d0,enc d1,enc s,t,op,obj,arg,tries]=some [enc b,e1,e2,e3,e4,e5,oc]) (Y:x.w=0->x.a<(Nc d1 t:Int))
include C ht R hB Y
set_option maxHeartbeats 4000000 in
theorem acS:L 24050 [enc d0,enc d1,enc s,enc k,t,op,obj,arg,tries,x.a,enc x.lc,x.w,x.o,x.g,x.tr]=some (0::enc d0::enc d1::enc s::enc k::t::op::obj::arg::tries::x.a::enc x.lc::x.w::x.o::x.g::x.tr::enc (vp s b oc)::(IA e1 e2 e3 e4 e5 oc++ [oc,(eU (fN d1 t x) x op e2 e3 e4 oc).a,enc (eU (fN d1 t x) x op e2 e3 e4 oc).lc,(eU (fN d1 t x) x op e2 e3 e4 oc).w,(eU (fN d1 t x) x op e2 e3 e4 oc).o,(eU (fN d1 t x) x op e2 e3 e4 oc).g,(eU (fN d1 t x) x op e2 e3 e4 oc).tr])):=by
 have c1: ¬t<0:=by have:=R.t0; omega
 have c2:=R.t1;have c3: ¬x.a<0:=by have:=R.ok.1; omega
 have q0:=R.ok.2.2.2.1;have q1:=R.ok.2.2.2.2.1;by_cases o0:oc=0
 ·subst o0;have e:IA e1 e2 e3 e4 e5 0= [0,0,0,0,0]:=rfl
  have key:bL 24050 [enc d0,enc d1,enc s,enc k,t,op,obj,arg,tries,x.a,enc x.lc,x.w,x.o,x.g,x.tr] (·= 0::enc d0::enc d1::enc s::enc k::t::op::obj::arg::tries::x.a::enc x.lc::x.w::x.o::x.g::x.tr::enc (vp s b 0)::(IA e1 e2 e3 e4 e5 0++ [0,(eU (fN d1 t x) x op e2 e3 e4 0).a,enc (eU (fN d1 t x) x op e2 e3 e4 0).lc,(eU (fN d1 t x) x op e2 e3 e4 0).w,(eU (fN d1 t x) x op e2 e3 e4 0).o,(eU (fN d1 t x) x op e2 e3 e4 0).g,(eU (fN d1 t x) x op e2 e3 e4 0).tr])):=by
   rw [e];unfold eU vp;refine bL.of ?_;rw [Mt];by_cases p4:op=4
   ·subst p4;have wt:IntKind.i64.wrap (x.tr+1)=x.tr+1:=fW J J;simp only [Cj,zz,hB,c1,ht,wt,if_true,eq_self,aM,au];refine .ite (fun h=> .out (by rw [af J])) fun h=> .out ?_
    grind
   ·simp only [Cj,zz,hB,c1,ht,p4,if_true,if_false,aM,au];exact .out rfl
  obtain⟨ys,h,rfl⟩:=key;exact h
 ·have e:IA e1 e2 e3 e4 e5 oc= [e1,e2,e3,e4,e5]:=af o0;have ea:vp s b oc=b:=af o0;by_cases w0:x.w=0
  ·have c4:=Y w0;have F:=C.inf R c4;have ok:=F.ok;have Iy:(x.lc.l.length:Int)=(((d1.at t).V 1).l.length:Int):=R.ok.2.2.1;have hnc:((d1.at t).V 2).l.length<=140737488351232:=(C.code R.t0 R.t1).len;unfold Nc at c4;have hw:IntKind.i64.wrap (x.a+1)=x.a+1:=fW J J;unfold OkI fN at ok
   have key:bL 24050 [enc d0,enc d1,enc s,enc k,t,op,obj,arg,tries,x.a,enc x.lc,x.w,x.o,x.g,x.tr] (·= 0::enc d0::enc d1::enc s::enc k::t::op::obj::arg::tries::x.a::enc x.lc::x.w::x.o::x.g::x.tr::enc (vp s b oc)::(IA e1 e2 e3 e4 e5 oc++ [oc,(eU (fN d1 t x) x op e2 e3 e4 oc).a,enc (eU (fN d1 t x) x op e2 e3 e4 oc).lc,(eU (fN d1 t x) x op e2 e3 e4 oc).w,(eU (fN d1 t x) x op e2 e3 e4 oc).o,(eU (fN d1 t x) x op e2 e3 e4 oc).g,(eU (fN d1 t x) x op e2 e3 e4 oc).tr])):=by
    rw [e,ea];unfold eU fN;refine bL.of ?_;rw [Mt];by_cases n1:((((d1.at t).V 2).at x.a).V 0).n=1
    ·have uc:((((d1.at t).V 2).at x.a).V 3).n= -1\/0<=((((d1.at t).V 2).at x.a).V 3).n/\((((d1.at t).V 2).at x.a).V 3).n<(x.lc.l.length:Int):=by
      grind
     simp only [Cj,zz,hB,c1,ht,c2,c3,c4,o0,w0,hw,n1,if_true,if_false,true_and];generalize ((((d1.at t).V 2).at x.a).V 3).n=i3 at *
     repeat' first |(refine .out ?_; simp only [*,aM,au,if_true,if_false,not_true_eq_false,not_false_eq_true,and_true,true_and,and_false,false_and,Int.reduceEq,Int.reduceLT]; done)|refine .ite (fun _=>?_) (fun _=>?_)|(exfalso; omega)
    ·simp only [Cj,zz,hB,c1,ht,c2,c3,c4,o0,w0,hw,n1,if_true,if_false,false_and]
     repeat' first |(refine .out ?_; simp only [*,aM,au,if_true,if_false,not_true_eq_false,not_false_eq_true,and_true,true_and,and_false,false_and,Int.reduceEq,Int.reduceLT]; done)|refine .ite (fun _=>?_) (fun _=>?_)|(exfalso; omega)
   obtain⟨ys,h,rfl⟩:=key;exact h
  ·have key:bL 24050 [enc d0,enc d1,enc s,enc k,t,op,obj,arg,tries,x.a,enc x.lc,x.w,x.o,x.g,x.tr] (·= 0::enc d0::enc d1::enc s::enc k::t::op::obj::arg::tries::x.a::enc x.lc::x.w::x.o::x.g::x.tr::enc (vp s b oc)::(IA e1 e2 e3 e4 e5 oc++ [oc,(eU (fN d1 t x) x op e2 e3 e4 oc).a,enc (eU (fN d1 t x) x op e2 e3 e4 oc).lc,(eU (fN d1 t x) x op e2 e3 e4 oc).w,(eU (fN d1 t x) x op e2 e3 e4 oc).o,(eU (fN d1 t x) x op e2 e3 e4 oc).g,(eU (fN d1 t x) x op e2 e3 e4 oc).tr])):=by
    rw [e,ea];unfold eU;refine bL.of ?_;rw [Mt];simp only [Cj,zz,hB,c1,ht,o0,w0,if_true,if_false,aM,au];exact .out rfl
   obtain⟨ys,h,rfl⟩:=key;exact h
set_option maxHeartbeats 4000000 in
theorem acT (hz:x.lc.l.length=0):L 24000 [enc d0,enc d1,enc s,enc k,t,op,obj,arg,tries,x.a,x.w,x.o,x.g,x.tr]=some (0::enc d0::enc d1::enc s::enc k::t::op::obj::arg::tries::x.a::x.w::x.o::x.g::x.tr::enc (vp s b oc)::(IA e1 e2 e3 e4 e5 oc++ [oc,(eU (fN d1 t x) x op e2 e3 e4 oc).a,(eU (fN d1 t x) x op e2 e3 e4 oc).w,(eU (fN d1 t x) x op e2 e3 e4 oc).o,(eU (fN d1 t x) x op e2 e3 e4 oc).g,(eU (fN d1 t x) x op e2 e3 e4 oc).tr]))/\(eU (fN d1 t x) x op e2 e3 e4 oc).lc=x.lc:=by
 have c1: ¬t<0:=by have:=R.t0; omega
 have c2:=R.t1;have c3: ¬x.a<0:=by have:=R.ok.1; omega
 have q0:=R.ok.2.2.2.1;have q1:=R.ok.2.2.2.2.1;by_cases o0:oc=0
 ·subst o0;have e:IA e1 e2 e3 e4 e5 0= [0,0,0,0,0]:=rfl
  have key:bL 24000 [enc d0,enc d1,enc s,enc k,t,op,obj,arg,tries,x.a,x.w,x.o,x.g,x.tr] (·= 0::enc d0::enc d1::enc s::enc k::t::op::obj::arg::tries::x.a::x.w::x.o::x.g::x.tr::enc (vp s b 0)::(IA e1 e2 e3 e4 e5 0++ [0,(eU (fN d1 t x) x op e2 e3 e4 0).a,(eU (fN d1 t x) x op e2 e3 e4 0).w,(eU (fN d1 t x) x op e2 e3 e4 0).o,(eU (fN d1 t x) x op e2 e3 e4 0).g,(eU (fN d1 t x) x op e2 e3 e4 0).tr])):=by
   rw [e];unfold eU vp;refine bL.of ?_;rw [Mu];by_cases p4:op=4
   ·subst p4;have wt:IntKind.i64.wrap (x.tr+1)=x.tr+1:=fW J J;simp only [Ck,zz,hB,c1,ht,wt,if_true,eq_self,aM,au];refine .ite (fun h=> .out (by rw [af J])) fun h=> .out ?_
    grind
   ·simp only [Ck,zz,hB,c1,ht,p4,if_true,if_false,aM,au];exact .out rfl
  obtain⟨ys,h,rfl⟩:=key
  grind [eU]
 ·have e:IA e1 e2 e3 e4 e5 oc= [e1,e2,e3,e4,e5]:=af o0;have ea:vp s b oc=b:=af o0;by_cases w0:x.w=0
  ·have c4:=Y w0;have F:=C.inf R c4;have ok:=F.ok;have Iy:(x.lc.l.length:Int)=(((d1.at t).V 1).l.length:Int):=R.ok.2.2.1;have hnc:((d1.at t).V 2).l.length<=140737488351232:=(C.code R.t0 R.t1).len;unfold Nc at c4;have hw:IntKind.i64.wrap (x.a+1)=x.a+1:=fW J J;unfold OkI fN at ok
   have key:bL 24000 [enc d0,enc d1,enc s,enc k,t,op,obj,arg,tries,x.a,x.w,x.o,x.g,x.tr] (·= 0::enc d0::enc d1::enc s::enc k::t::op::obj::arg::tries::x.a::x.w::x.o::x.g::x.tr::enc (vp s b oc)::(IA e1 e2 e3 e4 e5 oc++ [oc,(eU (fN d1 t x) x op e2 e3 e4 oc).a,(eU (fN d1 t x) x op e2 e3 e4 oc).w,(eU (fN d1 t x) x op e2 e3 e4 oc).o,(eU (fN d1 t x) x op e2 e3 e4 oc).g,(eU (fN d1 t x) x op e2 e3 e4 oc).tr])):=by
    rw [e,ea];unfold eU fN;refine bL.of ?_;rw [Mu];by_cases n1:((((d1.at t).V 2).at x.a).V 0).n=1
    ·have uc:((((d1.at t).V 2).at x.a).V 3).n= -1\/0<=((((d1.at t).V 2).at x.a).V 3).n/\((((d1.at t).V 2).at x.a).V 3).n<(x.lc.l.length:Int):=by
      grind
     simp only [Ck,zz,hB,c1,ht,c2,c3,c4,o0,w0,hw,n1,if_true,if_false,true_and];generalize ((((d1.at t).V 2).at x.a).V 3).n=i3 at *
     repeat' first |(refine .out ?_; simp only [*,aM,au,if_true,if_false,not_true_eq_false,not_false_eq_true,and_true,true_and,and_false,false_and,Int.reduceEq,Int.reduceLT]; done)|refine .ite (fun _=>?_) (fun _=>?_)|(exfalso; omega)
    ·simp only [Ck,zz,hB,c1,ht,c2,c3,c4,o0,w0,hw,n1,if_true,if_false,false_and]
     repeat' first |(refine .out ?_; simp only [*,aM,au,if_true,if_false,not_true_eq_false,not_false_eq_true,and_true,true_and,and_false,false_and,Int.reduceEq,Int.reduceLT]; done)|refine .ite (fun _=>?_) (fun _=>?_)|(exfalso; omega)
   obtain⟨ys,h,rfl⟩:=key;refine⟨h,?_⟩;unfold eU fN
   grind
  ·have key:bL 24000 [enc d0,enc d1,enc s,enc k,t,op,obj,arg,tries,x.a,x.w,x.o,x.g,x.tr] (·= 0::enc d0::enc d1::enc s::enc k::t::op::obj::arg::tries::x.a::x.w::x.o::x.g::x.tr::enc (vp s b oc)::(IA e1 e2 e3 e4 e5 oc++ [oc,(eU (fN d1 t x) x op e2 e3 e4 oc).a,(eU (fN d1 t x) x op e2 e3 e4 oc).w,(eU (fN d1 t x) x op e2 e3 e4 oc).o,(eU (fN d1 t x) x op e2 e3 e4 oc).g,(eU (fN d1 t x) x op e2 e3 e4 oc).tr])):=by
    rw [e,ea];unfold eU;refine bL.of ?_;rw [Mu];simp only [Ck,zz,hB,c1,ht,o0,w0,if_true,if_false,aM,au];exact .out rfl
   obtain⟨ys,h,rfl⟩:=key
   grind [eU]
end
def cS (s:D):D:=if s.l.length=0 then .i 1 else dL (s.l.map ji)
theorem aoR (s:D):(cS s).l=s.l.map ji:=by
 unfold cS;split
 ·rename_i h;rw [arI.1 h];rfl
 ·rw [bz]
theorem RN (d:D):kQ (kQ d)=kQ d:=by
 unfold kQ
 grind
theorem ak7 {x:D} (h:jr x):ji (ji x)=ji x:=by
 obtain⟨o,c,d,g,r,v,rfl,_,_,V,_⟩:=h
 have e:(if d=0 then (0:Int) else 1)=d:=by rcases V with rfl|rfl<;>rfl
 unfold ji;simp only [zg,ay,zM,RN,e]
theorem aoU (x:D):cK (cK x)=cK x:=by unfold cK;simp only [zg,ay,zM,RN]
theorem aoS {s:D} (h: ∀x∈s.l,jr x):cS (cS s)=cS s:=by
 have e:(cS s).l.map ji=s.l.map ji:=by rw [aoR,arT];exact ar4 fun x Y=>ak7 (h x Y)
 have e2:(cS s).l.length=s.l.length:=by rw [aoR,aY]
 show (if (cS s).l.length=0 then D.i 1 else dL ((cS s).l.map ji))=_;rw [e,e2];rfl
theorem acG (k:D):iV (iV k)=iV k:=by
 have e:(iV k).l.map cK=k.l.map cK:=by rw [qG,arT];exact ar4 fun x _=>aoU x
 have e2:(iV k).l.length=k.l.length:=by rw [qG,aY]
 show (if (iV k).l.length=0 then D.i 1 else dL ((iV k).l.map cK))=_;rw [e,e2];rfl
abbrev nX (x:KT):KT:={ x with lc:=kQ x.lc }
theorem aeT (x:KT):cK x.d=(nX x).d:=by unfold cK;simp only [KT.d,zg,ay,zM]
theorem aoT {x:D} {a:Int} {lc:D} {w o g tr:Int} (T:Kt x a lc w o g tr):Kt (cK x) a (kQ lc) w o g tr:=by refine⟨?_,T.ha,Ls T.hl,T.hw,T.ho,T.hg,T.ht⟩;rw [T.is];unfold cK;simp only [zg,ay,zM]
theorem Fa (d:D):(kQ d).l.length=d.l.length:=by rw [vz]
section
variable {s k:D} {n:Nat} (S:Sw s k n) (hn:n<17592186044000)
include S hn
theorem Sw.cnd:(k.l.length<=2199023255500/\∀x∈k.l,(x.V 1).l.length<17592186044415)/\s.l.length<=1759218604390/\∀x∈s.l,Al x:=by
 refine⟨⟨?_,fun x Y=>?_⟩,?_,fun x Y=> ⟨by have:=(S.g.rows x Y).1; omega,by have:=(S.g.rows x Y).2; omega⟩⟩
 ·have:=S.wk.room;have e:mU 8=64:=rfl
  grind
 ·obtain⟨a,lc,w,o,g,tr,T⟩:=gA S.wk x Y;rw [T.is,ep];have:=T.hl.room;have e:mU 0=8:=rfl
  grind
 ·have:=S.g.wd.room;have e:mU 7=80:=rfl
  grind
theorem Pz:L 3950 [enc s]=some [enc (cS s)]:=zF s (S.cnd hn).2.1 (S.cnd hn).2.2
theorem TF:L 22250 [enc s,enc k]=some [enc (cS s),enc (iV k)]:=amY (S.cnd hn).1.1 (S.cnd hn).1.2 (Pz S hn)
theorem rI:B7 (cS s) s/\Sx (cS s) (iV k) n:=by
 obtain⟨s1,h,hq,G⟩:=aoO S.g hn;rw [Pz S hn] at h;simp only [ah,List.cons.injEq,and_true] at h;have e:=eQ h;subst e;refine⟨hq,G,?_,?_,?_⟩
 ·unfold iV;split
  ·exact .nil 8
  ·rename_i hz;refine FC (fun x Y=>?_) (fun h=>hz (by simpa using congrArg List.length h)) ?_
   ·obtain⟨y,hy,rfl⟩:=aR.1 Y;obtain⟨a,lc,w,o,g,tr,T⟩:=gA S.wk y hy;exact⟨a,kQ lc,w,o,g,tr,aoT T⟩
   ·have:=S.wk.room;have e:mU 8=64:=rfl
    grind
 ·unfold cS;split
  ·simp
  ·rename_i hz;intro h;have:=congrArg (fun d=>d.l.length) h;simp only [bz,aY] at this;exact hz this
 ·unfold iV;split
  ·simp
  ·rename_i hz;intro h;have:=congrArg (fun d=>d.l.length) h;simp only [bz,aY] at this;exact hz this
end
theorem TM {k:D} {t:Int} (t0:0<=t) (t1:t<(k.l.length:Int)):(iV k).at t=cK (k.at t):=by obtain⟨i,rfl⟩ : ∃i:Nat,t=(i:Int):=⟨t.toNat,J⟩;rw [fb,qG,bk,aN J,bG (by omega:i<k.l.length)];rfl
theorem agi (d0 x y:D):Zb d0 x (cK y)↔Zb d0 x y:=by unfold Zb cK;simp only [zg,ay,zM,Fa]
section
variable {d0 d1 s k:D} {n:Nat} (h0:Wd (.sl 3) d0) (U:Wd (.sl 4) d1) (S:Sw s k n) (hn:n<17592186044000)
include h0 U S hn
theorem Xt:MR d0 d1 (cS s) (iV k)↔MR d0 d1 s k:=by
 obtain⟨hq,S1⟩:=rI S J;have hl:(iV k).l.length=k.l.length:=by rw [qG,aY]
 have ki: ∀(i:Nat) (h:i<k.l.length),(iV k).l[i]'J=cK k.l[i]:=fun i h=>by simp only [qG,asy]
 refine⟨fun M=> ⟨F8 h0 U hq S1.g S.g J M.1,by have:=M.2.1; omega,fun i hi=>?_⟩,fun M=> ⟨F8 h0 U (sy hq) S.g S1.g J M.1,by have:=M.2.1; omega,fun i hi=>?_⟩⟩
 ·have:=M.2.2 i J;rw [ki i hi] at this;exact (agi ..).1 this
 ·rw [ki i J];exact (agi ..).2 (M.2.2 i J)
variable {t:Int}
theorem anj:L 1550 [enc d0,enc d1,enc (cS s),enc (iV k),t]=some [0]↔L 1550 [enc d0,enc d1,enc s,enc k,t]=some [0]:=by rw [wM h0 U S J,wM h0 U (rI S J).2.sw J,Xt h0 U S hn]
theorem Rv {x:KT} (R:Rs d0 d1 s k t x):Rs d0 d1 (cS s) (iV k) t (nX x):=by
 have hl:(iV k).l.length=k.l.length:=by rw [qG,aY]
 refine⟨R.c,⟨R.r.t0,R.r.t1,?_,Ls R.r.hl,R.r.hg⟩,?_,by rw [hl]; exact R.ht,?_⟩
 ·have:=R.r.ok;unfold OkT at this ⊢;rw [Fa]
  grind
 ·rw [TM R.r.t0 R.ht,R.hk,aeT]
 ·rw [ud h0 U (rI S J).2.sw J,Xt h0 U S hn,<- ud h0 U S J];exact R.yes
end
theorem Lb (l:List D) (t:Nat) (y:D):dE l (t:Int) y=l.set t y:=pA ..
theorem acO {k:D} {t:Nat} (ht:t<k.l.length) (y:D):dL (dE (A6 k t).l (t:Int) y)=dL (dE (iV k).l (t:Int) y):=by
 have e:(A6 k t).l=(k.l.take t).map cK++phK::(k.l.drop (t+1)).map cK:=by unfold A6; rw [bz]
 rw [e,qG,Lb,Lb];congr 1;apply asp;intro i
 grind
theorem acP {k:D} {t:Nat} (ht:t<k.l.length):(A6 k t).l.length=k.l.length:=by
 unfold A6;rw [bz]
 grind
abbrev kB (k:D) (t:Int):D:=A6 k t.toNat
noncomputable abbrev Nb (d0 d1 s k:D) (t:Int):Nat->Int:=dq L (low [enc d0,enc d1,enc s,enc k,t])
theorem GM {k:D} {t:Int} (t0:0<=t) (t1:t<(k.l.length:Int)) (y:KT):dL (dE (kB k t).l t y.d)=gV (iV k) t y:=by obtain⟨i,rfl⟩ : ∃i:Nat,t=(i:Int):=⟨t.toNat,J⟩;exact acO J y.d
theorem R7 {k:D} {t:Int} (t0:0<=t) (t1:t<(k.l.length:Int)):((kB k t).l.length:Int)=k.l.length:=by obtain⟨i,rfl⟩ : ∃i:Nat,t=(i:Int):=⟨t.toNat,J⟩;unfold kB;rw [aW,acP J]
theorem N7 {d:D} (h:d.l.length=0):kQ d= .i 2:=ag J
theorem JB {d:D} (h:d.l.length≠0):kQ d=d:=af J
section
variable {d0 d1 s k:D} {n:Nat} (h0:Wd (.sl 3) d0) (U:Wd (.sl 4) d1) (S:Sw s k n) (hn:n<17592186044000) {t:Int}
include h0 U S hn
theorem I2 (h:L 1550 [enc d0,enc d1,enc s,enc k,t]=some [0]):L 22400 [enc d0,enc d1,enc s,enc k,t]=some [enc (cS s),enc (iV k),0,0,0,0,0,0]:=by
 have hs:=Pz S J;have h:=(wM h0 U S J t).1 h;obtain⟨ys,hR,b,rfl,hb⟩:=Jj h0 U S J;obtain⟨c1,c2⟩:=(S.cnd J).1
 have Bi:b=0\/¬b=0/\(t<0\/¬t<0/\¬t<(d1.l.length:Int)):=by
  rcases hb with hb|hb
  ·exact .inl hb.1
  ·refine .inr ⟨J,?_⟩;by_cases t0:t<0
   ·exact .inl t0
   ·exact .inr ⟨t0,fun t1=>h ⟨J,t1,hb.2⟩⟩
 rw [bI,Dj];by_cases ht:t<0\/(k.l.length:Int)<=t
 ·rcases anu c1 c2 t ht hs with hc|⟨hc,he⟩
  ·have K:eI (Nb d0 d1 s k t) j9= .out [enc (cS s),enc (iV k),0,0,0,0,0,0]:=by
    rcases Bi with b0|⟨b1,t0|⟨t0,t1⟩⟩
    ·refine cm [.eq (a0 9150 zm) Q0,.eq mn kX,zr,zq] [.eq mn Qa,.eq mn Q0,.eq mn fc] (ou [rU,vX,Qa,Qa,Qa,Qa,Qa,Qa]) (by simp only [zz,hc,hR,b0]<;>omega) aa ?_;simp only [zz,hc]
    ·refine cm [.eq (a0 9150 zm) Q0,.eq mn kX,zr,xI] [.eq mn Qa,.eq mn Q0,.eq mn fc,zq] (ou [rU,vX,Qa,Qa,Qa,Qa,Qa,Qa]) (by simp only [zz,hc,hR,b1,t0]<;>omega) aa ?_;simp only [zz,hc]
    ·refine cm [.eq (a0 9150 zm) Q0,.eq mn kX,zr] [.eq mn Qa,.eq mn Q0,.eq mn fc,zq,xI,B0] (ou [rU,vX,Qa,Qa,Qa,Qa,Qa,Qa]) (by simp only [zz,hc,hR,b1,t0,t1]<;>omega) aa ?_;simp only [zz,hc]
   exact congrArg (fin L) K
  ·rw [he]
   have K:eI (Nb d0 d1 s k t) j9= .out [enc (cS s),enc (.i 1),0,0,0,0,0,0]:=by
    rcases Bi with b0|⟨b1,t0|⟨t0,t1⟩⟩
    ·refine cm [.eq (a0 9150 zm) Q0,.eq mn Qa,zr,zq] [] (ou [rU,Qh,Qa,Qa,Qa,Qa,Qa,Qa]) (by simp only [zz,hc,hR,b0]<;>omega) aa ?_;simp only [zz,hc]
    ·refine cm [.eq (a0 9150 zm) Q0,.eq mn Qa,zr,xI] [zq] (ou [rU,Qh,Qa,Qa,Qa,Qa,Qa,Qa]) (by simp only [zz,hc,hR,b1,t0]<;>omega) aa ?_;simp only [zz,hc]
    ·refine cm [.eq (a0 9150 zm) Q0,.eq mn Qa,zr] [zq,xI,B0] (ou [rU,Qh,Qa,Qa,Qa,Qa,Qa,Qa]) (by simp only [zz,hc,hR,b1,t0,t1]<;>omega) aa ?_;simp only [zz,hc]
   exact congrArg (fin L) K
 ·obtain⟨i,rfl⟩ : ∃i:Nat,t=(i:Int):=⟨t.toNat,J⟩;have hi:i<k.l.length:=J
  obtain⟨a,lc,w,o,g,tr,T⟩:=gA S.wk _ (aq hi);have hc:=O' c1 c2 i hi hs;have Y:=GM (k:=k) (t:=(i:Int)) J J (nX ⟨a,lc,w,o,g,tr⟩);have hw:(iV k).at (i:Int)=(nX ⟨a,lc,w,o,g,tr⟩).d:=by rw [TM J J,bG hi,T.is,<- aeT]
  have OG:iV k=dL (iV k).l:=by rw [qG]; unfold iV; rw [af J]
  rw [La OG J (by rw [qG,aY]; omega) hw] at Y;simp only [nX,KT.d,kB,aW] at Y;rw [T.is] at hc;unfold LI A5 at hc;simp only [zg,ay,zM] at hc;by_cases r1:lc.l.length=0
  ·rw [ag J,ag J] at hc;rw [N7 r1] at Y;simp only [cN,dM] at Y;simp only [aM,au] at hc
   have K:eI (Nb d0 d1 s k (i:Int)) j9= .out [enc (cS s),enc (iV k),0,0,0,0,0,0]:=by
    rcases Bi with b0|⟨b1,t0|⟨t0,t1⟩⟩
    ·refine cm [.eq (a0 9150 zm) Q0,.eq mn Q0,zr,zq] [.eq mn Qa] (ou [rU,Q11,Qa,Qa,Qa,Qa,Qa,Qa]) (by simp only [zz,hc,hR,b0]<;>omega) aa ?_;simp only [zz,hc,Y]
    ·omega
    ·refine cm [.eq (a0 9150 zm) Q0,.eq mn Q0,zr] [.eq mn Qa,zq,xI,B0] (ou [rU,Q11,Qa,Qa,Qa,Qa,Qa,Qa]) (by simp only [zz,hc,hR,b1,t0,t1]<;>omega) aa ?_;simp only [zz,hc,Y]
   exact congrArg (fin L) K
  ·rw [af J,af J] at hc;rw [JB r1] at Y;simp only [cN,dM] at Y;simp only [aM,au] at hc
   have K:eI (Nb d0 d1 s k (i:Int)) j9= .out [enc (cS s),enc (iV k),0,0,0,0,0,0]:=by
    rcases Bi with b0|⟨b1,t0|⟨t0,t1⟩⟩
    ·refine cm [.eq (a0 9150 zm) Q0,.eq mn fc,zr,zq] [.eq mn Qa,.eq mn Q0] (ou [rU,Q2h,Qa,Qa,Qa,Qa,Qa,Qa]) (by simp only [zz,hc,hR,b0]<;>omega) aa ?_;simp only [zz,hc,Y]
    ·omega
    ·refine cm [.eq (a0 9150 zm) Q0,.eq mn fc,zr] [.eq mn Qa,.eq mn Q0,zq,xI,B0] (ou [rU,Q2h,Qa,Qa,Qa,Qa,Qa,Qa]) (by simp only [zz,hc,hR,b1,t0,t1]<;>omega) aa ?_;simp only [zz,hc,Y]
   exact congrArg (fin L) K
variable {x:KT} (R:Rs d0 d1 s k t x)
include R
theorem ajK (hz:x.lc.l.length=0):L 9150 [t,enc s,enc k]=some [1,t,enc (cS s),enc (kB k t),x.a,x.w,x.o,x.g,x.tr]:=by
 have hs:=Pz S J;obtain⟨c1,c2⟩:=(S.cnd J).1;have t0:=R.r.t0;have ht:=R.ht;have hk:=R.hk;obtain⟨i,rfl⟩ : ∃i:Nat,t=(i:Int):=⟨t.toNat,J⟩;have hi:i<k.l.length:=J
 have hc:=O' c1 c2 i hi hs;rw [bG hi] at hk;rw [hk] at hc;unfold LI A5 at hc;simp only [KT.d,zg,ay,zM] at hc;rw [ag J,ag J] at hc;exact hc
theorem ajJ (hz:x.lc.l.length≠0):L 9150 [t,enc s,enc k]=some [2,t,enc (cS s),enc (kB k t),x.a,enc x.lc,x.w,x.o,x.g,x.tr]:=by
 have hs:=Pz S J;obtain⟨c1,c2⟩:=(S.cnd J).1;have t0:=R.r.t0;have ht:=R.ht;have hk:=R.hk;obtain⟨i,rfl⟩ : ∃i:Nat,t=(i:Int):=⟨t.toNat,J⟩;have hi:i<k.l.length:=J
 have hc:=O' c1 c2 i hi hs;rw [bG hi] at hk;rw [hk] at hc;unfold LI A5 at hc;simp only [KT.d,zg,ay,zM] at hc;rw [af J,af J] at hc;exact hc
theorem UG:dL (dE (kB k t).l t (nX x).d)=iV k:=by
 have R1:=Rv h0 U S hn R;have hl:0<(iV k).l.length:=by have:=R1.r.t0; have:=R1.ht; omega
 rw [GM R.r.t0 R.ht];exact La (FH (rI S J).2.wk hl).sh R1.r.t0 R1.ht R1.hk
theorem z?:L 22350 [enc d0,enc d1,enc (cS s),enc (iV k),t]=some (gw d1 t (nX x)):=CO h0 U (rI S J).2.sw hn (Rv h0 U S hn R)
theorem NK (ho:ib d1 t x=1):L 22400 [enc d0,enc d1,enc s,enc k,t]=some [enc (cS s),enc (iV k),0,0,0,0,0,4]:=by
 have hR:=tD h0 U S hn R;have hF:=xm h0 U S hn R;have Y:=UG h0 U S hn R;have c1: ¬t<0:=by have:=R.r.t0; omega
 have c2:=R.r.t1;rw [ho] at hF;rw [bI,Dj];by_cases hz:x.lc.l.length=0
 ·have hc:=ajK h0 U S hn R hz;simp only [nX,KT.d,N7 hz,cN,dM] at Y
  have K:eI (Nb d0 d1 s k t) j9= .out [enc (cS s),enc (iV k),0,0,0,0,0,4]:=by refine cm [.eq (a0 9150 zm) Q0,.eq mn Q0,zr,B0,Np] [.eq mn Qa,zq,xI,Nn] (ou [rU,Q11,Qa,Qa,Qa,Qa,Qa,qI]) (by simp only [zz,hc,hR,hF,c1,c2]<;>omega) aa ?_;simp only [zz,hc,Y]
  exact congrArg (fin L) K
 ·have hc:=ajJ h0 U S hn R hz;simp only [nX,KT.d,JB hz,cN,dM] at Y
  have K:eI (Nb d0 d1 s k t) j9= .out [enc (cS s),enc (iV k),0,0,0,0,0,4]:=by refine cm [.eq (a0 9150 zm) Q0,.eq mn fc,zr,B0,Np] [.eq mn Qa,.eq mn Q0,zq,xI,Nn] (ou [rU,Q2h,Qa,Qa,Qa,Qa,Qa,qI]) (by simp only [zz,hc,hR,hF,c1,c2]<;>omega) aa ?_;simp only [zz,hc,Y]
  exact congrArg (fin L) K
theorem Rl {b:D} {op obj arg tries e1 e2 e3 e4 e5 oc:Int} (ho:ib d1 t x=0) (hq:gw d1 t (nX x)= [op,obj,arg,tries,1]) (hB:L 4000 [enc d0,enc d1,enc (cS s),t,op,obj,arg,tries]=some [enc b,e1,e2,e3,e4,e5,oc]) (hE:IA e1 e2 e3 e4 e5 oc= [e1,e2,e3,e4,e5]) :
 L 22400 [enc d0,enc d1,enc s,enc k,t]=some [enc (vp (cS s) b oc),enc (gV (iV k) t (eU (fN d1 t x) (nX x) op e2 e3 e4 oc)),e1,e2,e3,e4,e5,oc]:=by
 have hR:=tD h0 U S hn R;have hF:=xm h0 U S hn R;have Y:=UG h0 U S hn R;have hN:=z? h0 U S hn R;have R1:=Rv h0 U S hn R;have c1: ¬t<0:=by have:=R.r.t0; omega
 have c2:=R.r.t1;have od:=R7 R.r.t0 R.ht
 have hxx:(nX x).w=0->(nX x).a<(Nc d1 t:Int):=fun w0=>by unfold ib at ho;rw [ag w0] at ho;have:=R.r.ok.2.1;show x.a<_;unfold Nc at ho ⊢;split at ho<;>omega
 have hy:=GM R.r.t0 R.ht (eU (fN d1 t x) (nX x) op e2 e3 e4 oc);rw [ho] at hF;rw [hq] at hN;rw [bI,Dj];by_cases hz:x.lc.l.length=0
 ·have hc:=ajK h0 U S hn R hz;have Bc:(nX x).lc.l.length=0:=(Fa x.lc).trans hz;obtain⟨ha,Vz⟩:=acT (k:=kB k t) R1.c (by rw [od]; exact R.ht) R1.r hB hxx Bc;rw [hE] at ha;simp only [aM,au] at ha;have an1:(eU (fN d1 t x) (nX x) op e2 e3 e4 oc).lc= .i 2:=by rw [<- N7 hz]; exact Vz
  simp only [KT.d,cN,dM,an1] at hy;simp only [nX,KT.d,N7 hz,cN,dM] at Y
  have K:eI (Nb d0 d1 s k t) j9= .out [enc (vp (cS s) b oc),enc (gV (iV k) t (eU (fN d1 t x) (nX x) op e2 e3 e4 oc)),e1,e2,e3,e4,e5,oc]:=by refine cm [.eq (a0 9150 zm) Q0,.eq mn Q0,zr,B0,Np,Nn,.eq (a0 22350 WJ) Q0,.eq (a0 24000 Cb) Q0,.eq (rr 24000 Cb 0) Qa] [.eq mn Qa,zq,xI,.eq (rr 22350 WJ 4) Qa] (ou [rr 24000 Cb 15,.op .set vX (cn M6 (cn (mk (rr 24000 Cb 22)) (cn Qk (cn (mk (rr 24000 Cb 23)) (cn (mk (rr 24000 Cb 24)) (cn (mk (rr 24000 Cb 25)) (cn (mk (rr 24000 Cb 26)) iX))))))),rr 24000 Cb 16,rr 24000 Cb 17,rr 24000 Cb 18,rr 24000 Cb 19,rr 24000 Cb 20,rr 24000 Cb 21]) (by simp only [zz,hc,hR,hF,Y,hN,ha,c1,c2]<;>omega) aa ?_;simp only [zz,hc,Y,hN,ha];simp only [gV,KT.d,cN,dM,an1] at hy ⊢;rw [hy]
  exact congrArg (fin L) K
 ·have hc:=ajJ h0 U S hn R hz;have ha:=acS (k:=kB k t) R1.c (by rw [od]; exact R.ht) R1.r hB hxx;rw [hE] at ha;simp only [aM,au] at ha;simp only [KT.d,cN,dM] at hy;simp only [nX,KT.d,JB hz,cN,dM] at Y ha hy hN ⊢
  have K:eI (Nb d0 d1 s k t) j9= .out [enc (vp (cS s) b oc),enc (gV (iV k) t (eU (fN d1 t x) x op e2 e3 e4 oc)),e1,e2,e3,e4,e5,oc]:=by refine cm [.eq (a0 9150 zm) Q0,.eq mn fc,zr,B0,Np,Nn,.eq (a0 22350 Im) Q0,.eq (a0 24050 Au) Q0,.eq (rr 24050 Au 0) Qa] [.eq mn Qa,.eq mn Q0,zq,xI,.eq (rr 22350 Im 4) Qa] (ou [rr 24050 Au 16,.op .set vX (cn M6 (cn (mk (rr 24050 Au 23)) (cn (rr 24050 Au 24) (cn (mk (rr 24050 Au 25)) (cn (mk (rr 24050 Au 26)) (cn (mk (rr 24050 Au 27)) (cn (mk (rr 24050 Au 28)) iX))))))),rr 24050 Au 17,rr 24050 Au 18,rr 24050 Au 19,rr 24050 Au 20,rr 24050 Au 21,rr 24050 Au 22]) (by simp only [zz,hc,hR,hF,Y,hN,ha,c1,c2]<;>omega) aa ?_;simp only [zz,hc,Y,hN,ha];simp only [gV,KT.d,cN,dM] at hy ⊢;rw [hy]
  exact congrArg (fin L) K
set_option maxHeartbeats 1000000 in
theorem RZ (ho:ib d1 t x=0) (hq:low (gw d1 t (nX x)) 4=0) (hz:x.lc.l.length=0):L 22400 [enc d0,enc d1,enc s,enc k,t]=some [enc (cS s),enc (gV (iV k) t (iP (fN d1 t x) (nX x))),0,0,0,0,0,1]:=by
 have hR:=tD h0 U S hn R;have hF:=xm h0 U S hn R;have Y:=UG h0 U S hn R;have hN:=z? h0 U S hn R;have R1:=Rv h0 U S hn R;have Lc:=CV R1.r ho hq;have c1: ¬t<0:=by have:=R.r.t0; omega
 have c2:=R.r.t1;have c3: ¬x.a<0:=by have:=R.r.ok.1; omega
 have c4:=Lc.a;have c5:t<((kB k t).l.length:Int):=by rw [R7 R.r.t0 R.ht]; exact R.ht
 have F:=R1.c.inf R1.r c4;have Iy:(x.lc.l.length:Int)=(((d1.at t).V 1).l.length:Int):=R.r.ok.2.2.1;have hnc:((d1.at t).V 2).l.length<=140737488351232:=(R.c.code R.r.t0 R.r.t1).len;have n1:=Lc.n1;have n2:=Lc.n2
 have hw:IntKind.i64.wrap (x.a+1)=x.a+1:=by refine fW J ?_;unfold Nc at c4;simp only [nX] at c4;omega
 have hy:=GM R.r.t0 R.ht (iP (fN d1 t x) (nX x));have hE:=fun (lc:D)=>akL h0 U S hn R (lc:=lc) F.ar (i:=0);have ok:=F.ok;have hc:=ajK h0 U S hn R hz;rw [ho] at hF;simp only [nX,N7 hz] at *;unfold fN Nc at *;dsimp only at *;simp only [KT.d,cN,dM] at Y;rw [bI,Dj];rcases ok with h|h|⟨h,i0,i1,na⟩|⟨h,_,_,na⟩|⟨h,_⟩|⟨h,i0,i1⟩|⟨h,i0,i1,_⟩
 ·exact absurd h.1 n1
 ·exact absurd h.1 n2
 ·omega
 ·have c7:(0:Int)<(((((d1.at t).V 2).at x.a).V 6).l.length:Int):=J
  have hE:=hE (.i 2) J c7;by_cases hv:ev (((((d1.at t).V 2).at x.a).V 6).at 0) (.i 2)=0
  ·have K:eI (Nb d0 d1 s k t) j9= .out [enc (cS s),enc (gV (iV k) t (iP (((d1.at t).V 2).at x.a) { x with lc:=.i 2 })),0,0,0,0,0,1]:=by
    refine cm [.eq (a0 9150 zm) Q0,.eq mn Q0,zr,B0,Np,Nn,.eq (a0 22350 WJ) Q0,.eq (rr 22350 WJ 4) Qa,Yv,.lt Av (ln H9),.eq vq qI,Q17,.eq (a0 22500 Q19) Q0,.eq (rr 22500 Q19 0) Qa] [.eq mn Qa,zq,xI,.lt Av Qa,.eq vq kX] (ou [rU,.op .set vX (cn M6 (cn (mk (nm (ce 4 Yu))) Q10)),Qa,Qa,Qa,Qa,Qa,Q0]) (by simp only [zz,hc,hR,hF,Y,hN,hq,c1,c2,c3,c4,c5,h,c7,hE,hv]<;>omega) aa ?_;unfold iP at hy ⊢;simp only [zz,hc,h,hw,c7,hE,hv,Int.reduceEq,if_true,if_false,gV,KT.d,cN,dM] at hy ⊢;rw [hy]
   exact congrArg (fin L) K
  ·have K:eI (Nb d0 d1 s k t) j9= .out [enc (cS s),enc (gV (iV k) t (iP (((d1.at t).V 2).at x.a) { x with lc:=.i 2 })),0,0,0,0,0,1]:=by
    refine cm [.eq (a0 9150 zm) Q0,.eq mn Q0,zr,B0,Np,Nn,.eq (a0 22350 WJ) Q0,.eq (rr 22350 WJ 4) Qa,Yv,.lt Av (ln H9),.eq vq qI,Q17,.eq (a0 22500 Q19) Q0] [.eq mn Qa,zq,xI,.lt Av Qa,.eq vq kX,.eq (rr 22500 Q19 0) Qa] (ou [rU,.op .set vX (cn M6 (cn Q2d Q10)),Qa,Qa,Qa,Qa,Qa,Q0]) (by simp only [zz,hc,hR,hF,Y,hN,hq,c1,c2,c3,c4,c5,h,c7,hE,hv]<;>omega) aa ?_;unfold iP at hy ⊢;simp only [zz,hc,h,hw,c7,hE,hv,Int.reduceEq,if_true,if_false,gV,KT.d,cN,dM] at hy ⊢;rw [hy]
   exact congrArg (fin L) K
 ·have K:eI (Nb d0 d1 s k t) j9= .out [enc (cS s),enc (gV (iV k) t (iP (((d1.at t).V 2).at x.a) { x with lc:=.i 2 })),0,0,0,0,0,1]:=by
   refine cm [.eq (a0 9150 zm) Q0,.eq mn Q0,zr,B0,Np,Nn,.eq (a0 22350 WJ) Q0,.eq (rr 22350 WJ 4) Qa,Yv,.lt Av (ln H9),.eq vq Ca] [.eq mn Qa,zq,xI,.lt Av Qa,.eq vq kX,.eq vq qI] (ou [rU,.op .set vX (cn M6 (cn (mk (nm (ce 4 Yu))) Q10)),Qa,Qa,Qa,Qa,Qa,Q0]) (by simp only [zz,hc,hR,hF,Y,hN,hq,c1,c2,c3,c4,c5,h,c1]<;>omega) aa ?_;unfold iP at hy ⊢;simp only [zz,hc,h,hw,c1,Int.reduceEq,if_true,if_false,gV,KT.d,cN,dM] at hy ⊢;rw [hy]
  exact congrArg (fin L) K
 ·omega
 ·omega
set_option maxHeartbeats 1000000 in
theorem RY (ho:ib d1 t x=0) (hq:low (gw d1 t (nX x)) 4=0) (hz:x.lc.l.length≠0):L 22400 [enc d0,enc d1,enc s,enc k,t]=some [enc (cS s),enc (gV (iV k) t (iP (fN d1 t x) (nX x))),0,0,0,0,0,1]:=by
 have hR:=tD h0 U S hn R;have hF:=xm h0 U S hn R;have Y:=UG h0 U S hn R;have hN:=z? h0 U S hn R;have R1:=Rv h0 U S hn R;have Lc:=CV R1.r ho hq;have c1: ¬t<0:=by have:=R.r.t0; omega
 have c2:=R.r.t1;have c3: ¬x.a<0:=by have:=R.r.ok.1; omega
 have c4:=Lc.a;have c5:t<((kB k t).l.length:Int):=by rw [R7 R.r.t0 R.ht]; exact R.ht
 have F:=R1.c.inf R1.r c4;have Iy:(x.lc.l.length:Int)=(((d1.at t).V 1).l.length:Int):=R.r.ok.2.2.1;have hnc:((d1.at t).V 2).l.length<=140737488351232:=(R.c.code R.r.t0 R.r.t1).len;have n1:=Lc.n1;have n2:=Lc.n2
 have hw:IntKind.i64.wrap (x.a+1)=x.a+1:=by refine fW J ?_;unfold Nc at c4;simp only [nX] at c4;omega
 have hy:=GM R.r.t0 R.ht (iP (fN d1 t x) (nX x));have hE:=fun (lc:D)=>akL h0 U S hn R (lc:=lc) F.ar (i:=0);have ok:=F.ok;have hc:=ajJ h0 U S hn R hz;rw [ho] at hF;simp only [nX,JB hz] at *;unfold fN Nc at *;dsimp only at *;simp only [KT.d,cN,dM] at Y;rw [bI,Dj];rcases ok with h|h|⟨h,i0,i1,na⟩|⟨h,_,_,na⟩|⟨h,_⟩|⟨h,i0,i1⟩|⟨h,i0,i1,_⟩
 ·exact absurd h.1 n1
 ·exact absurd h.1 n2
 ·have c7:(0:Int)<(((((d1.at t).V 2).at x.a).V 6).l.length:Int):=J
  have hE:=hE x.lc J c7;have c8: ¬(((((d1.at t).V 2).at x.a).V 3).n<0):=J
  have c9:(((((d1.at t).V 2).at x.a).V 3).n<(x.lc.l.length:Int)):=J
  have K:eI (Nb d0 d1 s k t) j9= .out [enc (cS s),enc (gV (iV k) t (iP (((d1.at t).V 2).at x.a) x)),0,0,0,0,0,1]:=by refine cm [.eq (a0 9150 zm) Q0,.eq mn fc,zr,B0,Np,Nn,.eq (a0 22350 Im) Q0,.eq (rr 22350 Im 4) Qa,Yv,.lt Av (ln H9),.eq vq kX,Q17,.eq (a0 22500 Q2k) Q0,Q2l] [.eq mn Qa,.eq mn Q0,zq,xI,.lt Av Qa,Q2b] (ou [rU,.op .set vX (cn M6 (cn Q2d (cn (.op .set Ia (cn (mk Yt) (mk (rr 22500 Q2k 0)))) Ys))),Qa,Qa,Qa,Qa,Qa,Q0]) (by simp only [zz,hc,hR,hF,Y,hN,hq,c1,c2,c3,c4,c5,h,c7,c8,c9,hE]<;>omega) aa ?_;unfold iP at hy ⊢;simp only [zz,hc,h,hw,c7,c8,c9,hE,Int.reduceEq,if_true,if_false,gV,KT.d,cN,dM] at hy ⊢;rw [hy]
  exact congrArg (fin L) K
 ·have c7:(0:Int)<(((((d1.at t).V 2).at x.a).V 6).l.length:Int):=J
  have hE:=hE x.lc J c7;by_cases hv:ev (((((d1.at t).V 2).at x.a).V 6).at 0) x.lc=0
  ·have K:eI (Nb d0 d1 s k t) j9= .out [enc (cS s),enc (gV (iV k) t (iP (((d1.at t).V 2).at x.a) x)),0,0,0,0,0,1]:=by
    refine cm [.eq (a0 9150 zm) Q0,.eq mn fc,zr,B0,Np,Nn,.eq (a0 22350 Im) Q0,.eq (rr 22350 Im 4) Qa,Yv,.lt Av (ln H9),.eq vq qI,Q17,.eq (a0 22500 Q2k) Q0,.eq (rr 22500 Q2k 0) Qa] [.eq mn Qa,.eq mn Q0,zq,xI,.lt Av Qa,.eq vq kX] (ou [rU,.op .set vX (cn M6 (cn (mk (nm (ce 4 Yu))) (cn Ia Ys))),Qa,Qa,Qa,Qa,Qa,Q0]) (by simp only [zz,hc,hR,hF,Y,hN,hq,c1,c2,c3,c4,c5,h,c7,hE,hv]<;>omega) aa ?_;unfold iP at hy ⊢;simp only [zz,hc,h,hw,c7,hE,hv,Int.reduceEq,if_true,if_false,gV,KT.d,cN,dM] at hy ⊢;rw [hy]
   exact congrArg (fin L) K
  ·have K:eI (Nb d0 d1 s k t) j9= .out [enc (cS s),enc (gV (iV k) t (iP (((d1.at t).V 2).at x.a) x)),0,0,0,0,0,1]:=by
    refine cm [.eq (a0 9150 zm) Q0,.eq mn fc,zr,B0,Np,Nn,.eq (a0 22350 Im) Q0,.eq (rr 22350 Im 4) Qa,Yv,.lt Av (ln H9),.eq vq qI,Q17,.eq (a0 22500 Q2k) Q0] [.eq mn Qa,.eq mn Q0,zq,xI,.lt Av Qa,.eq vq kX,.eq (rr 22500 Q2k 0) Qa] (ou [rU,.op .set vX (cn M6 (cn Q2d (cn Ia Ys))),Qa,Qa,Qa,Qa,Qa,Q0]) (by simp only [zz,hc,hR,hF,Y,hN,hq,c1,c2,c3,c4,c5,h,c7,hE,hv]<;>omega) aa ?_;unfold iP at hy ⊢;simp only [zz,hc,h,hw,c7,hE,hv,Int.reduceEq,if_true,if_false,gV,KT.d,cN,dM] at hy ⊢;rw [hy]
   exact congrArg (fin L) K
 ·have K:eI (Nb d0 d1 s k t) j9= .out [enc (cS s),enc (gV (iV k) t (iP (((d1.at t).V 2).at x.a) x)),0,0,0,0,0,1]:=by
   refine cm [.eq (a0 9150 zm) Q0,.eq mn fc,zr,B0,Np,Nn,.eq (a0 22350 Im) Q0,.eq (rr 22350 Im 4) Qa,Yv,.lt Av (ln H9),.eq vq Ca] [.eq mn Qa,.eq mn Q0,zq,xI,.lt Av Qa,.eq vq kX,.eq vq qI] (ou [rU,.op .set vX (cn M6 (cn (mk (nm (ce 4 Yu))) (cn Ia Ys))),Qa,Qa,Qa,Qa,Qa,Q0]) (by simp only [zz,hc,hR,hF,Y,hN,hq,c1,c2,c3,c4,c5,h,c1]<;>omega) aa ?_;unfold iP at hy ⊢;simp only [zz,hc,h,hw,c1,Int.reduceEq,if_true,if_false,gV,KT.d,cN,dM] at hy ⊢;rw [hy]
  exact congrArg (fin L) K
 ·have c8: ¬(((((d1.at t).V 2).at x.a).V 3).n<0):=J
  have c9:(((((d1.at t).V 2).at x.a).V 3).n<(x.lc.l.length:Int)):=J
  have K:eI (Nb d0 d1 s k t) j9= .out [enc (cS s),enc (gV (iV k) t (iP (((d1.at t).V 2).at x.a) x)),0,0,0,0,0,1]:=by refine cm [.eq (a0 9150 zm) Q0,.eq mn fc,zr,B0,Np,Nn,.eq (a0 22350 Im) Q0,.eq (rr 22350 Im 4) Qa,Yv,.lt Av (ln H9),.eq vq PL,Q2l] [.eq mn Qa,.eq mn Q0,zq,xI,.lt Av Qa,.eq vq kX,.eq vq qI,.eq vq Ca,Q2b] (ou [rU,.op .set vX (cn M6 (cn Q2d (cn (.op .set Ia (cn (mk Yt) (mk (nm (ce 5 Yu))))) Ys))),Qa,Qa,Qa,Qa,Qa,Q0]) (by simp only [zz,hc,hR,hF,Y,hN,hq,c1,c2,c3,c4,c5,h,c8,c9]<;>omega) aa ?_;unfold iP at hy ⊢;simp only [zz,hc,h,hw,c8,c9,Int.reduceEq,if_true,if_false,gV,KT.d,cN,dM] at hy ⊢;rw [hy]
  exact congrArg (fin L) K
 ·have c8: ¬(((((d1.at t).V 2).at x.a).V 3).n<0):=J
  have c9:(((((d1.at t).V 2).at x.a).V 3).n<(x.lc.l.length:Int)):=J
  by_cases hv:0<(x.lc.at ((((d1.at t).V 2).at x.a).V 3).n).n
  ·have K:eI (Nb d0 d1 s k t) j9= .out [enc (cS s),enc (gV (iV k) t (iP (((d1.at t).V 2).at x.a) x)),0,0,0,0,0,1]:=by
    refine cm [.eq (a0 9150 zm) Q0,.eq mn fc,zr,B0,Np,Nn,.eq (a0 22350 Im) Q0,.eq (rr 22350 Im 4) Qa,Yv,.lt Av (ln H9),.eq vq QB,Q2l,.lt Qa (nm (el Ia Yt))] [.eq mn Qa,.eq mn Q0,zq,xI,.lt Av Qa,.eq vq kX,.eq vq qI,.eq vq Ca,.eq vq PL,Q2b] (ou [rU,.op .set vX (cn M6 (cn Q2d (cn (.op .set Ia (cn (mk Yt) (mk (wr (.sub (nm (el Ia Yt)) Q0))))) Ys))),Qa,Qa,Qa,Qa,Qa,Q0]) (by simp only [zz,hc,hR,hF,Y,hN,hq,c1,c2,c3,c4,c5,h,c8,c9,hv]<;>omega) aa ?_;unfold iP at hy ⊢;simp only [zz,hc,h,hw,c8,c9,hv,Int.reduceEq,if_true,if_false,gV,KT.d,cN,dM] at hy ⊢;rw [hy]
   exact congrArg (fin L) K
  ·have K:eI (Nb d0 d1 s k t) j9= .out [enc (cS s),enc (gV (iV k) t (iP (((d1.at t).V 2).at x.a) x)),0,0,0,0,0,1]:=by
    refine cm [.eq (a0 9150 zm) Q0,.eq mn fc,zr,B0,Np,Nn,.eq (a0 22350 Im) Q0,.eq (rr 22350 Im 4) Qa,Yv,.lt Av (ln H9),.eq vq QB,Q2l] [.eq mn Qa,.eq mn Q0,zq,xI,.lt Av Qa,.eq vq kX,.eq vq qI,.eq vq Ca,.eq vq PL,Q2b,.lt Qa (nm (el Ia Yt))] (ou [rU,.op .set vX (cn M6 (cn (mk (nm (ce 4 Yu))) (cn Ia Ys))),Qa,Qa,Qa,Qa,Qa,Q0]) (by simp only [zz,hc,hR,hF,Y,hN,hq,c1,c2,c3,c4,c5,h,c8,c9,hv]<;>omega) aa ?_;unfold iP at hy ⊢;simp only [zz,hc,h,hw,c8,c9,hv,Int.reduceEq,if_true,if_false,gV,KT.d,cN,dM] at hy ⊢;rw [hy]
   exact congrArg (fin L) K
end
def EqN (a b:D):Prop:=a.l.length=b.l.length/\∀(i:Nat),(a.at (i:Int)).n=(b.at (i:Int)).n
structure KEq (x y:D):Prop where
 c0:(x.V 0).n=(y.V 0).n
 c1:EqN (x.V 1) (y.V 1)
 c2:(x.V 2).n=(y.V 2).n
 c3:(x.V 3).n=(y.V 3).n
 c4:(x.V 4).n=(y.V 4).n
 c5:(x.V 5).n=(y.V 5).n
theorem EqN.nG (a:D):EqN a a:=⟨rfl,fun _=>rfl⟩
theorem KEq.nG (a:D):KEq a a:=⟨rfl,EqN.nG _,rfl,rfl,rfl,rfl⟩
def RW (k:D):Prop:=k.l.length<=140737488351232/\∀i:Nat,((k.at (i:Int)).V 1).l.length<=140737488351232
section
variable {s k s' k':D} (hl:k.l.length=k'.l.length) (hq: ∀i:Nat,KEq (k.at (i:Int)) (k'.at (i:Int))) (hb:RW k)
include hl hq hb
theorem AH: ∀(j i:Nat),i+j=k.l.length->L 2051 [(k.l.length:Int),(i:Int),enc s,enc k,enc s',enc k']=some [1]
 |0,i,hi=>by
  have c1: ¬(i:Int)<(k.l.length:Int):=J
  rw [bI,abF];simp only [l?,zz,c1,bU]
 |j+1,i,hi=>by
  have c1:(i:Int)<(k.l.length:Int):=J
  have c2: ¬((i:Int)<0):=J
  have c3:(i:Int)<(k'.l.length:Int):=J
  have b1:=hb.1;have w:=bF (n:=i) J;have ih:=AH j (i+1) J;have q:=hq i;obtain⟨q1,q2⟩:=q.c1;have b2:=hb.2 i
  have lp: ∀(j' i':Nat),i'+j'=((k.at (i:Int)).V 1).l.length->L 2052 [(k.l.length:Int),(i:Int),(((k.at (i:Int)).V 1).l.length:Int),(i':Int),enc s,enc k,enc s',enc k',((k.at (i:Int)).V 0).n,enc ((k.at (i:Int)).V 1),((k.at (i:Int)).V 2).n,((k.at (i:Int)).V 3).n,((k.at (i:Int)).V 4).n,((k.at (i:Int)).V 5).n,((k'.at (i:Int)).V 0).n,enc ((k'.at (i:Int)).V 1),((k'.at (i:Int)).V 2).n,((k'.at (i:Int)).V 3).n,((k'.at (i:Int)).V 4).n,((k'.at (i:Int)).V 5).n]=some [1]:=by
   intro j'
   induction j' with
   |zero=>
    intro i' hi';have d1: ¬(i':Int)<(((k.at (i:Int)).V 1).l.length:Int):=J
    rw [bI,abE];simp only [l!,zz,d1,w,bx,ih]
   |succ j' ihj=>
    intro i' hi';have d1:(i':Int)<(((k.at (i:Int)).V 1).l.length:Int):=J
    have d2: ¬((i':Int)<0):=J
    have d3:(i':Int)<(((k'.at (i:Int)).V 1).l.length:Int):=J
    have w':=bF (n:=i') J;have h':=ihj (i'+1) J;have hn:=q2 i';rw [bI,abE];simp only [l!,zz,d1,d2,d3,w',hn,bx];exact h'
  have l0:=lp ((k.at (i:Int)).V 1).l.length 0 J;have q1':(((k.at (i:Int)).V 1).l.length:Int)=(((k'.at (i:Int)).V 1).l.length:Int):=J
  simp only [q.c0,q.c2,q.c3,q.c4,q.c5,q1',art] at l0;rw [bI,abF];simp only [l?,zz,c1,c2,c3,q.c0,q.c2,q.c3,q.c4,q.c5,q1',bx];exact l0
theorem Jd (hs:L 200 [enc s,enc s']=some [1]):L 2050 [enc s,enc k,enc s',enc k']=some [1]:=by
 have h:=AH (s:=s) (s':=s') hl hq hb k.l.length 0 J;have Nd:(k.l.length:Int)=(k'.l.length:Int):=J
 rw [art] at h;rw [bI,ahy];simp only [afX,zz,hs,bR,Nd,bx]
 grind
end
theorem W1 {s:D} (hlen:s.l.length<=140737488351232) (hr:Li s):L 200 [enc s,enc s]=some [1]:=by obtain⟨c,U,_,h3⟩:=Ja s s hlen hr;rw [U,h3.2 ⟨rfl,fun k U Z _=> ⟨rfl,rfl,Iff.rfl,rfl,⟨rfl,fun _ _ _ _=>rfl⟩,⟨rfl,fun _ _ _ _=>rfl⟩⟩⟩]
theorem Sx.apT {s k:D} {n:Nat} (S:Sx s k n):RW k:=by
 refine⟨S.wk.len,fun i=>?_⟩;by_cases hi:i<k.l.length
 ·obtain⟨a,lc,w,o,g,tr,T⟩:=gA S.wk _ (aq hi);rw [bG hi,T.is,ep];exact T.hl.len
 ·rw [fb,arH J];show ((D.i 0).V 1).l.length<=_;simp [D.V,D.l]
theorem Sx.same {s k:D} {n:Nat} (S:Sx s k n) (hn:n<17592186043904):L 2050 [enc s,enc k,enc s,enc k]=some [1]:=
 Jd rfl (fun _=>KEq.nG _) S.apT (W1 S.g.wd.len (fun x Y=>by have:=S.g.rows x Y; omega))
set_option maxHeartbeats 4000000 in
theorem O0: ∀(N:Nat) (kids:D),SizeOf.sizeOf kids<=N->Wd (.sl 6) kids->∀(k n:Int) (s loc R3:D),loc.l=R3.l->L 1950 [k,enc s,n,enc kids,enc loc]=L 1950 [k,enc s,n,enc kids,enc R3]
 |0,kids,hN,_,_,_,_,_,_,_=>by exfalso;cases kids<;>simp at hN
 |N+1,kids,hN,hk,k,n,s,loc,R3,hl=>by
  have sub: ∀i:Nat,∃v:Int,(i<kids.l.length->L 1950 [((kids.at (i:Int)).V 0).n,enc ((kids.at (i:Int)).V 1),((kids.at (i:Int)).V 2).n,enc ((kids.at (i:Int)).V 3),enc loc]=some [v]/\L 1950 [((kids.at (i:Int)).V 0).n,enc ((kids.at (i:Int)).V 1),((kids.at (i:Int)).V 2).n,enc ((kids.at (i:Int)).V 3),enc R3]=some [v]):=by
   intro i;by_cases di:i<kids.l.length
   ·obtain⟨k',s',n',A3,he,_,_,XH,Z⟩:=qM hk di
    have iY:SizeOf.sizeOf A3<SizeOf.sizeOf kids.l[i]:=by simp_all [AF,bz]
    have anM:=AF (aq di);obtain⟨v,hL,_⟩:=C9 N A3 J Z k' n' s' loc;refine⟨v,fun _=>?_⟩;rw [bG di,he];simp only [zg,ay];exact⟨hL,(O0 N A3 J Z k' n' s' loc R3 hl).symm.trans hL⟩
   ·exact⟨0,fun h=>absurd h di⟩
  obtain⟨a,h0⟩:=sub 0;obtain⟨b,U⟩:=sub 1;have e1:=bI 1950 [k,enc s,n,enc kids,enc loc];have e2:=bI 1950 [k,enc s,n,enc kids,enc R3];have ha: ∀z,loc.at z=R3.at z:=fun z=>by unfold D.at; rw [hl]
  rw [Eh] at e1 e2;by_cases l1:(kids.l.length:Int)=1
  ·obtain⟨h0,h0'⟩:=h0 J;simp_all [yQ,zz,e1,e2]
  ·by_cases l2:(kids.l.length:Int)=2
   ·obtain⟨h0,h0'⟩:=h0 J;obtain⟨U,OM⟩:=U J;simp only [art,aL] at h0 h0' U OM;simp_all [yQ,zz,HE,e1,e2]
   simp_all [yQ,zz,e1,e2]
theorem SI {tk lc lc':D} (ha:Wd (.sl 6) tk) (hl:lc.l=lc'.l) {i:Int} (i0:0<=i) (i1:i<(tk.l.length:Int)):ev (tk.at i) lc=ev (tk.at i) lc':=by
 obtain⟨j,rfl⟩ : ∃j:Nat,i=(j:Int):=⟨i.toNat,J⟩;have hj:j<tk.l.length:=J
 obtain⟨k',s',n',A3,he,_,_,XH,Z⟩:=qM ha hj;have e1:tk.at (j:Int)=dL [.i k',s',.i n',A3]:=by rw [bG hj,he]
 unfold ev;rw [e1];simp only [zg,ay,zM];rw [O0 _ A3 (ax _) Z k' n' s' lc lc' hl]
section
variable {d0 d1:D} {t:Int} {x:KT} (C:Cd d0 d1) (R:Rt d0 d1 t x)
include C R
theorem UU:gw d1 t (nX x)=gw d1 t x:=by
 unfold gw;by_cases w0:x.w=0
 ·by_cases a0:x.a=(Nc d1 t:Int)
  ·grind
  ·have F:=C.inf R (by have:=R.ok.2.1; unfold Nc at a0 ⊢; omega)
   have e:EN ((fN d1 t x).V 6) (kQ x.lc)=EN ((fN d1 t x).V 6) x.lc:=by
    unfold EN;by_cases hz:((fN d1 t x).V 6).l.length=0
    ·grind
    ·rw [af hz,af hz];exact SI F.ar (vz _) J J
   grind
 grind
theorem ajY (Lc:Loc d1 t x):iP (fN d1 t x) (nX x)=nX (iP (fN d1 t x) x):=by
 have F:=C.inf R Lc.a;have Iy:(x.lc.l.length:Int)=(((d1.at t).V 1).l.length:Int):=R.ok.2.2.1;have n1:=Lc.n1;have n2:=Lc.n2;have ok:=F.ok;have ha: ∀z,(kQ x.lc).at z=x.lc.at z:=fun z=>by unfold D.at; rw [vz]
 have aed: ∀z v,0<x.lc.l.length->kQ (dL (dE x.lc.l z v))=dL (dE x.lc.l z v):=fun z v h=>JB (by rw [bz,ej]; omega);unfold iP;simp only [nX,vz,ha];unfold OkI at ok;rcases ok with h|h|⟨h,i0,i1,na⟩|⟨h,_,_,na⟩|⟨h,_⟩|⟨h,i0,i1⟩|⟨h,i0,i1,_⟩
 ·grind
 ·grind
 ·simp only [h,if_true];rw [aed _ _ J,SI F.ar (vz x.lc) J J]
 ·simp only [h,Int.reduceEq,if_true,if_false];rw [SI F.ar (vz x.lc) J J]
  grind
 all_goals grind
theorem ajp (Y:x.w=0->x.a<(Nc d1 t:Int)) (op e2 e3 e4 oc:Int):eU (fN d1 t x) (nX x) op e2 e3 e4 oc=nX (eU (fN d1 t x) x op e2 e3 e4 oc):=by
 have aed: ∀z v,0<x.lc.l.length->kQ (dL (dE x.lc.l z v))=dL (dE x.lc.l z v):=fun z v h=>JB (by rw [bz,ej]; omega);unfold eU;simp only [nX,vz];by_cases o0:oc=0
 ·grind
 ·rw [af o0,af o0];by_cases w0:x.w=0
  ·rw [ag w0,ag w0];have F:=C.inf R (Y w0);have Iy:(x.lc.l.length:Int)=(((d1.at t).V 1).l.length:Int):=R.ok.2.2.1;have ok:=F.ok
   grind [OkI]
  grind
end
theorem aj3 (x:KT):KEq x.d (nX x).d:=by
 refine⟨rfl,⟨?_,fun i=>?_⟩,rfl,rfl,rfl,rfl⟩
 ·exact (Fa _).symm
 ·show (x.lc.at (i:Int)).n=((kQ x.lc).at (i:Int)).n
  grind [fb,vz]
theorem ad7 {x y:D} (h:KEq x y):KEq y x:=⟨h.c0.symm,⟨h.c1.1.symm,fun i=>(h.c1.2 i).symm⟩,h.c2.symm,h.c3.symm,h.c4.symm,h.c5.symm⟩
theorem Ou {k:D} (hk:Wd (.sl 8) k) (i:Nat):KEq (k.at (i:Int)) ((iV k).at (i:Int)):=by
 by_cases hi:i<k.l.length
 ·obtain⟨a,lc,w,o,g,tr,T⟩:=gA hk _ (aq hi);rw [TM J J,bG hi,T.is];exact aeT ⟨a,lc,w,o,g,tr⟩▸aj3 ⟨a,lc,w,o,g,tr⟩
 ·rw [fb,fb,qG,bk,arH J];exact .nG _
theorem adv {s k:D} {n:Nat} (S:Sw s k n):RW k:=by
 refine⟨S.wk.len,fun i=>?_⟩;by_cases hi:i<k.l.length
 ·obtain⟨a,lc,w,o,g,tr,T⟩:=gA S.wk _ (aq hi);rw [bG hi,T.is,ep];exact T.hl.len
 grind [fb,D.V,D.l]
theorem CB {s k s' k':D} {n:Nat} (S:Sw s k n) (hn:n<17592186044000) (hs:B7 s s') (hl:k.l.length=k'.l.length) (hq: ∀i:Nat,KEq (k.at (i:Int)) (k'.at (i:Int))):L 2050 [enc s,enc k,enc s',enc k']=some [1]:=
 Jd hl hq (adv S) (adF S.g hn hs)
theorem Zv {r r':D} (h:Wd (.sl 0) r') (hs:K9 r) (hl:r.l=r'.l):Wd (.sl 0) r:=by
 rcases hs with rfl|rfl|⟨U,Z⟩
 ·exact .nil 0
 ·exact .xZ 0
 ·have h3:r'.l≠[]:=by rwa [<- hl]
  have e:r'=dL r'.l:=by
   rcases h.sh with z|z|⟨z,_⟩
   ·rw [z] at h3;exact absurd rfl h3
   ·rw [z] at h3;exact absurd rfl h3
   ·exact z
  rw [U,hl,<- e];exact h
theorem aoj {b a:D} {n:Nat} (h:SQ b a) (G:Gs a n):Gs b n:=by
 have hl:=h.e.len
 have key: ∀i:Nat,i<b.l.length->jr (b.at (i:Int))/\((b.at (i:Int)).V 4).l.length<=n/\((b.at (i:Int)).V 5).l.length<=n:=fun i hi=>by
  obtain⟨o,c,dn,g,r,v,T,U,Z⟩:=vC G (i:=(i:Int)) J J;obtain⟨o',c',b',g',r',v',Y,sr,sv⟩:=h.h.2 _ (aq hi);rw [<- bG hi] at Y;have q:=h.e.xC i;obtain⟨q0,q1,q2,q3,q4,q5⟩:=q;rw [Y,T.is] at q0 q1 q2 q3 q4 q5;simp only [zg,ay,zM] at q0 q1 q2 q3 q4 q5;subst q0 q1 q2 q3;rw [Y];refine⟨⟨_,_,_,_,_,_,rfl,T.ho,T.hc,T.V,T.hg,Zv T.hr sr q4,Zv T.hv sv q5⟩,?_,?_⟩
  ·simp only [zg,ay];rw [q4];exact U
  ·simp only [zg,ay];rw [q5];exact Z
 refine⟨?_,fun x Y=>?_⟩
 ·rcases h.h.1 with e|e|⟨e,ne⟩
  ·rw [e];exact .nil 7
  ·rw [e];exact .xZ 7
  ·rw [e];refine xP (fun x Y=>?_) ne ?_
   ·obtain⟨i,hi,rfl⟩:=ar3 Y;rw [<- bG hi];exact (key i hi).1
   ·have:=G.wd.room;have e:mU 7=80:=rfl;rw [e] at this;omega
 ·obtain⟨i,hi,rfl⟩:=ar3 Y;rw [<- bG hi];exact (key i hi).2
def Inv (j:Nat) (d0 d1 s k:D):Prop:= ∃n,Sw s k n/\n<17592186044000/\(MR d0 d1 s k->n+j<17592186043800)
theorem Inv.mono {i j:Nat} {d0 d1 s k:D} (h:Inv j d0 d1 s k) (hij:i<=j):Inv i d0 d1 s k:=by obtain⟨n,S,hn,hm⟩:=h;exact⟨n,S,hn,fun M=>by have:=hm M; omega⟩
theorem ad5 {d0 d1 s k:D} {t:Int} (h:L 1550 [enc d0,enc d1,enc s,enc k,t]=some [0]):L 1700 [enc d0,enc d1,enc s,enc k,t]=some [0]:=by rw [bI,VX];simp only [Uw,zz,h];rfl
theorem ad6 {d0 d1 s k:D} {t:Int} {x:KT} (R:Rs d0 d1 s k t x):L 1700 [enc d0,enc d1,enc s,enc k,t]=some [ib d1 t x]:=by
 have hy:=R.yes;have ho:=AP (s:=s) R.hk R.ht R.r;rcases Lp d1 t x with h|h
 ·rw [h] at ho ⊢;rw [bI,VX];simp only [Uw,zz,hy,ho,eB];rfl
 ·rw [h] at ho ⊢;rw [bI,VX];simp only [Uw,zz,hy,ho,eB];rfl
section
variable {d0 d1 s k:D} (h0:Wd (.sl 3) d0) (U:Wd (.sl 4) d1)
include h0 U
theorem WV {j:Nat} (Z?:Inv (j+1) d0 d1 s k) (t:Int): ∃(a kk b s1 k1:D) (q0 q1 q2 q3 q4 e1 e2 e3 e4 e5 oc f:Int),L 22250 [enc s,enc k]=some [enc s1,enc k1]/\
 L 1800 [enc d0,enc d1,enc s1,enc k1,t]=some [q0,q1,q2,q3,q4]/\L 22350 [enc d0,enc d1,enc s,enc k,t]=some [q0,q1,q2,q3,q4]/\
 L 1850 [enc d0,enc d1,enc s1,enc k1,t]=some [enc a,enc kk,e1,e2,e3,e4,e5,oc]/\L 22400 [enc d0,enc d1,enc s,enc k,t]=some [enc b,enc kk,e1,e2,e3,e4,e5,oc]/\
 L 2050 [enc a,enc kk,enc b,enc kk]=some [1]/\L 1700 [enc d0,enc d1,enc s1,enc k1,t]=some [f]/\L 22300 [enc d0,enc d1,enc s,enc k,t]=some [f]/\
 L 2050 [enc s1,enc k1,enc s,enc k]=some [1]/\(f=0\/f=1)/\(q4=0\/q4=1)/\Inv j d0 d1 a kk/\B7 b a/\Inv j d0 d1 b kk:=by
 obtain⟨n,S,hn,hm⟩:=Z?;obtain⟨hq,S1⟩:=rI S hn;have eM:=TF S hn;have Vt:L 2050 [enc (cS s),enc (iV k),enc s,enc k]=some [1]:=CB S1.sw hn hq (by rw [qG,aY]) fun i=>ad7 (Ou S.wk i);have self: ∀{a b kk:D} {m:Nat},Sw a kk m->m<17592186044000->B7 b a->L 2050 [enc a,enc kk,enc b,enc kk]=some [1]:=fun A hm h=>CB A hm (sy h) rfl fun _=> .nG _;rcases Lh (t:=t) S hn h0 U with h|⟨x,R⟩
 ·have h':=(anj h0 U S hn).2 h;have X:Inv j d0 d1 (cS s) (iV k):=⟨n,S1.sw,hn,fun M=>by have:=hm ((Xt h0 U S hn).1 M); omega⟩;exact⟨cS s,iV k,cS s,cS s,iV k,0,0,0,0,0,0,0,0,0,0,0,0,eM,J_ h0 U S1.sw hn h',Xp h0 U S hn h,EY S1 h',I2 h0 U S hn h,self S1.sw hn (.nG _),ad5 h',aak h0 U S hn h,Vt,.inl rfl,.inl rfl,X,.nG _,X⟩
 ·have M:=((ud h0 U S hn t).1 R.yes).2.2;have hm:=hm M;have R1:=Rv h0 U S hn R;have hxn:=UU R.c R.r;have hN1:=Og h0 U S1.sw hn R1;have hN:=CO h0 U S hn R;rw [hxn] at hN1;have hF1:L 1700 [enc d0,enc d1,enc (cS s),enc (iV k),t]=some [ib d1 t x]:=by exact ad6 (x:=nX x) R1
  have hF:=xm h0 U S hn R
  obtain⟨q0,q1,q2,q3,q4,hqq,h4⟩ : ∃q0 q1 q2 q3 q4:Int,gw d1 t x= [q0,q1,q2,q3,q4]/\(q4=0\/q4=1):=by
   grind [gw]
  rw [hqq] at hN hN1;have X:Inv j d0 d1 (cS s) (iV k):=⟨n,S1.sw,hn,fun _=>by omega⟩;rcases Lp d1 t x with ho|ho
  ·by_cases ha:low (gw d1 t x) 4=0
   ·have ha1:low (gw d1 t (nX x)) 4=0:=by rw [hxn]; exact ha
    have hA:=zB S1 R1 ho ha1
    have hB:L 22400 [enc d0,enc d1,enc s,enc k,t]=some [enc (cS s),enc (gV (iV k) t (iP (fN d1 t x) (nX x))),0,0,0,0,0,1]:=by
     by_cases hz:x.lc.l.length=0
     ·exact RZ h0 U S hn R ho ha1 hz
     ·exact RY h0 U S hn R ho ha1 hz
    have S2:Sw (cS s) (gV (iV k) t (iP (fN d1 t x) (nX x))) n:=(RX S1 J h0 U R1 ho ha1).sw;exact⟨_,_,_,_,_,_,_,_,_,_,_,_,_,_,_,_,_,eM,hN1,hN,hA,hB,self S2 hn (.nG _),hF1,hF,Vt,J,h4,⟨n,S2,hn,fun _=>by omega⟩,.nG _,⟨n,S2,hn,fun _=>by omega⟩⟩
   ·obtain⟨op,obj,arg,tr,hq5⟩:=JG J ha;obtain⟨k1,k2,k3⟩:=UW R.c R.r R.c.ok.1 hq5
    have iI:gx .i64 t:=by have:=R.r.t0;have:=R.r.t1;have:=U.len;exact⟨J,J⟩
    obtain⟨a,b,e1,e2,e3,e4,e5,oc,TT,hB,Sy⟩:=W2 (tries:=tr) (th:=t) (obj:=obj) h0 U S1.g hn k1 k3 J iI k2
    have hE:IA e1 e2 e3 e4 e5 oc= [e1,e2,e3,e4,e5]:=by
     unfold IA;split
     ·rename_i z;obtain⟨_,rfl,rfl,rfl,rfl,rfl⟩:=TT.no z;rfl
     ·rfl
    have hq6:gw d1 t (nX x)= [op,obj,arg,tr,1]:=hxn.trans hq5;have hA:=zA S1 R1 ho hq6 TT;have hBB:=Rl h0 U S hn R ho hq6 hB hE
    have hSE:B7 (vp (cS s) b oc) a:=by
     unfold vp;split
     ·rename_i z;rw [(TT.no z).1];exact .nG _
     ·exact Sy.e
    have gB:Gs (vp (cS s) b oc) (n+1):=by
     unfold vp;split
     ·exact S1.g.mono (arO n)
     ·exact aoj Sy TT.gs
    have S2:=(QS S1 R1.c R1.r R1.ht (PD R1.r ho) TT).sw;exact⟨_,_,_,_,_,_,_,_,_,_,_,_,_,_,_,_,_,eM,hN1,hN,hA,hBB,self S2 J hSE,hF1,hF,Vt,J,h4,⟨n+1,S2,J,fun _=>by omega⟩,hSE,⟨n+1,⟨gB,S2.wk⟩,J,fun _=>by omega⟩⟩
  ·have hA:=Cs S1 R1 ho;have hB:=NK h0 U S hn R ho;exact⟨_,_,_,_,_,_,_,_,_,_,_,_,_,_,_,_,_,eM,hN1,hN,hA,hB,self S1.sw hn (.nG _),hF1,hF,Vt,J,h4,X,.nG _,X⟩
end
theorem afd {t:Nat} {a:D} (h:Wd (.sl t) a) (hp:a.l.length≠0):a=dL a.l:=by
 rcases h.sh with U|U|⟨U,_⟩
 ·subst U;exact absurd rfl hp
 ·subst U;exact absurd rfl hp
 ·exact U
theorem G! {t:Nat} {a b:D} (ha:Wd (.sl t) a) (hb:Wd (.sl t) b) (h:a.l=b.l):kQ a=kQ b:=by
 unfold kQ;by_cases hz:(a.l.length:Int)=0
 ·rw [ag hz,ag (by rw [<- h]; exact hz)]
 ·rw [af hz,af (by rw [<- h]; exact hz),afd ha J,afd hb (by rw [<- h]; omega),h]
theorem acF {s s':D} {n m:Nat} (h:B7 s s') (G:Gs s n) (G':Gs s' m):cS s=cS s':=by
 have hl:=h.len;unfold cS;by_cases hz:s.l.length=0
 ·rw [ag hz,ag J]
 ·rw [af hz,af J];congr 1;refine List.ext_getElem (by rw [aY,aY]; omega) fun i U Z=>?_;rw [aY] at U Z;rw [asy,asy];obtain⟨o,c,dn,g,r,v,T,_⟩:=vC G (i:=(i:Int)) J J;obtain⟨o',c',EL,g',r',v',T',_⟩:=vC G' (i:=(i:Int)) J J;obtain⟨rfl,rfl,rfl,rfl,q4,q5⟩:=FI T T' (h.xC i);have e1:=T.is;have e2:=T'.is;rw [bG U] at e1;rw [bG Z] at e2;rw [e1,e2];unfold ji;simp only [zg,ay,zM];rw [G! T.hr T'.hr q4,G! T.hv T'.hv q5]
theorem ale {s s':D} {n m:Nat} {k k':D} (S:Sw s k n) (S':Sw s' k' m) (hn:n<17592186044000) (hm:m<17592186044000) (h:cS s=cS s'):B7 s s':=by have q:=(rI S hn).1;have q':=(rI S' hm).1;rw [<- h] at q';exact tr (sy q) q'
theorem K_ (f:D->D) (l:List D) {t:Int} (t0:0<=t) (y:D):(dE l t y).map f=dE (l.map f) t (f y):=by obtain⟨i,rfl⟩ : ∃i:Nat,t=(i:Int):=⟨t.toNat,J⟩;rw [Lb,Lb,List.map_set]
theorem Wp {k k':D} (h:iV k=iV k') {t:Int} (t0:0<=t) {x y:KT} (Y:nX x=nX y):iV (gV k t x)=iV (gV k' t y):=by
 have hl:k.l.length=k'.l.length:=by have:=congrArg (fun d=>d.l.length) h;simpa only [qG,aY] using this
 have hm:k.l.map cK=k'.l.map cK:=by have:=congrArg D.l h;simpa only [qG] using this
 have e: ∀(k:D) (x:KT),(gV k t x).l.map cK=dE (k.l.map cK) t (nX x).d:=fun k x=>by rw [gV,bz,K_ cK _ t0,aeT]
 unfold iV;rw [wz,wz,hl,e,e,hm,Y]
theorem agj (x:KT):nX (nX x)=nX x:=by simp only [nX,RN]
section
variable {d0 d1 s k:D} {n:Nat} (h0:Wd (.sl 3) d0) (U:Wd (.sl 4) d1) (S:Sw s k n) (hn:n<17592186043800)
include h0 U S hn
theorem ajX {t:Int} {x:KT} (R:Rs d0 d1 s k t x) (ho:ib d1 t x=0) (ha:low (gw d1 t x) 4=0):Sw s (gV k t (iP (fN d1 t x) x)) n:=by
 have hp:0<k.l.length:=by have:=R.r.t0; have:=R.ht; omega
 exact⟨S.g,EU S.wk ((Oj R.c R.ht R.r (CV R.r ho ha)).1.kt R.c) hp⟩
theorem ajo {t:Int} {x:KT} (R:Rs d0 d1 s k t x) (ho:ib d1 t x=0) {op obj arg tries e1 e2 e3 e4 e5 oc:Int} {s':D} (A:BZ d0 d1 s t op obj arg tries n s' e1 e2 e3 e4 e5 oc):Sw s' (gV k t (eU (fN d1 t x) x op e2 e3 e4 oc)) (n+1):=by
 have hp:0<k.l.length:=by have:=R.r.t0; have:=R.ht; omega
 exact⟨A.gs,EU S.wk (ZH R.c R.r (PD R.r ho) A.e3 A.e4) hp⟩
theorem ad3 (t:Int): ∃(a ka a1 k1:D) (e1 e2 e3 e4 e5 oc:Int),L 1850 [enc d0,enc d1,enc s,enc k,t]=some [enc a,enc ka,e1,e2,e3,e4,e5,oc]/\L 1850 [enc d0,enc d1,enc (cS s),enc (iV k),t]=some [enc a1,enc k1,e1,e2,e3,e4,e5,oc]/\
 cS a=cS a1/\iV ka=iV k1/\Sw a ka (n+1)/\Sx a1 k1 (n+1)/\KD d0 d1 (cS s) (iV k) t n a1 k1 e1 e2 e3 e4 e5 oc:=by
 obtain⟨hq,S1⟩:=rI S J;have hid:cS s=cS (cS s):=acF (sy hq) S.g S1.g;have kid:iV k=iV (iV k):=(acG k).symm;have up:Sw s k (n+1):=⟨S.g.mono (arO n),S.wk⟩;rcases Lh (t:=t) S J h0 U with h|⟨x,R⟩
 ·have h':=(anj h0 U S J).2 h;exact⟨_,_,_,_,0,0,0,0,0,0,EY S h,EY S1 h',hid,kid,up,S1.mono (arO n),.no h'⟩
 ·have R1:=Rv h0 U S J R;have hxn:=UU R.c R.r;have t0:=R.r.t0;rcases Lp d1 t x with ho|ho
  ·have XG:ib d1 t (nX x)=0:=ho;by_cases ha:low (gw d1 t x) 4=0
   ·have ha1:low (gw d1 t (nX x)) 4=0:=by rw [hxn]; exact ha
    have hl:=ajY R.c R.r (CV R.r ho ha);have S2:=ajX h0 U S hn R ho ha;refine⟨_,_,_,_,0,0,0,0,0,1,zB S R ho ha,zB S1 R1 XG ha1,hid,Wp kid t0 ?_,⟨S2.g.mono (arO n),S2.wk⟩,(RX S1 J h0 U R1 XG ha1).mono (arO n),.loc (nX x) R1 XG ha1⟩;rw [show fN d1 t (nX x)=fN d1 t x from rfl,hl,agj]
   ·obtain⟨op,obj,arg,tr,hq5⟩:=JG J ha;obtain⟨k1,k2,k3⟩:=UW R.c R.r R.c.ok.1 hq5
    have iI:gx .i64 t:=by have:=R.r.t1;have:=U.len;exact⟨J,J⟩
    obtain⟨a,e1,e2,e3,e4,e5,oc,A⟩:=KN (tries:=tr) h0 U S.g J iI k1 k2 k3;obtain⟨a',f1,f2,f3,f4,f5,oc',A'⟩:=KN (tries:=tr) h0 U S1.g J iI k1 k2 k3;have M:=((ud h0 U S J t).1 R.yes).2.2;obtain⟨q,rfl,rfl,rfl,rfl,rfl,rfl⟩:=ajn h0 U (sy hq) S.g S1.g J k1 M.1 A A';have hq6:gw d1 t (nX x)= [op,obj,arg,tr,1]:=hxn.trans hq5;have hl:=ajp R.c R.r (PD R.r ho) op f2 f3 f4 oc';refine⟨_,_,_,_,_,_,_,_,_,_,zA S R ho hq5 A,zA S1 R1 XG hq6 A',acF q A.gs A'.gs,Wp kid t0 ?_,ajo h0 U S hn R ho A,QS S1 R1.c R1.r R1.ht (PD R1.r XG) A',.tri (nX x) R1 XG op obj arg tr hq6 k1 k2 k3 iI a' _ _ _ _ _ _ A' (QQ h0 U S1.g J k1 A')⟩;rw [show fN d1 t (nX x)=fN d1 t x from rfl,hl,agj]
  ·exact⟨_,_,_,_,0,0,0,0,0,4,Cs S R ho,Cs S1 R1 ho,hid,kid,up,S1.mono (arO n),.over (nX x) R1 ho⟩
end
section
variable {d0 d1:D} (h0:Wd (.sl 3) d0) (U:Wd (.sl 4) d1)
include h0 U
theorem acN (hc:L 450 [enc d0,enc d1]=some [0]) (ok:zJ d0 d1):L 300 [enc d0,enc d1]=some [enc (mK d0)]:=by
 by_cases hn:d0.l.length=0
 ·have e:mK d0= .i 1:=by unfold mK; rw [ag hn]
  rw [e];exact BW hc (.inr hn)
 ·have e:mK d0=dL (d0.l.map fC):=by unfold mK; rw [af hn]
  rw [e];exact HZ hc ok.1 J
theorem Oe (hlen:d1.l.length<=16) (b:Int): ∀(k i:Nat) (acc:List D),i+k=d1.l.length->acc.length=i->bL 22152 [(i:Int),enc d0,enc d1,b,enc (dL acc)] (·= [b,enc (dL (acc++(d1.l.drop i).map j5)),0])
 |0,i,acc,hi,ha=>by
  have c1: ¬(i:Int)<(d1.l.length:Int):=J
  refine bL.of ?_;rw [To,aX J];simp only [KV,zz,c1];exact .out (by rw [aru,bh])
 |k+1,i,acc,hi,ha=>by
  have di:i<d1.l.length:=J
  have V:d1.l.drop i=d1.l[i]::d1.l.drop (i+1):=aC di;have ih:=Oe hlen b k (i+1) (acc++ [j5 d1.l[i]]) J (by simp [ha]);have w:=bF (n:=i) J;have c1:(i:Int)<(d1.l.length:Int):=J
  have c2: ¬((i:Int)<0):=J
  have c3:(acc.length:Int)<2199023255551:=J
  obtain⟨sa,lc,cd,he,_,Vz,_⟩:=qJ U di;have jG:=Vz.room;have e2:mU 2=16:=rfl;rw [e2] at jG;rw [bp,bd] at ih;refine bL.of ?_;rw [To,V,aA];have gz:=bG di;rw [he] at gz ih ⊢;have q:(lc.l.length:Int)<17592186044416:=J
  unfold j5 at ih ⊢;simp only [zg,ay] at ih ⊢;by_cases hz:lc.l.length=0
  ·have Bc:(lc.l.length:Int)=0:=J
   simp only [hz,if_true] at ih ⊢;simp only [KV,zz,c1,c2,c3,w,gz,bz,zg,ay,Bc,q];exact .jump ih
  ·have Bc: ¬(lc.l.length:Int)=0:=J
   simp only [af hz] at ih ⊢;simp only [KV,zz,c1,c2,c3,w,gz,bz,zg,ay,Bc,q,aW];exact .jump ih
theorem W9 {b:D} (hc:L 4050 [enc d0,enc d1]=some [0]) (hb:L 3850 [enc d0,enc d1]=some [enc b]) (hlen:d1.l.length<=16):L 22150 [enc d0,enc d1]=some [enc b,enc (qZ d1),0]:=by
 have:bL 22150 [enc d0,enc d1] (·= [enc b,enc (qZ d1),0]):=by
  refine bL.of ?_;rw [Tp];simp only [QZ,zz,hc,hb];refine .jump (bL.of ?_);rw [abA];unfold qZ;by_cases hz:d1.l.length=0
  ·have c1: ¬(0:Int)<(d1.l.length:Int):=J
   simp only [KW,zz,c1];exact .out (by rw [ag hz])
  ·have hi:0<d1.l.length:=J
   have c1:(0:Int)<(d1.l.length:Int):=J
   have gz:d1.at 0=d1.l[0]:=bG hi
   have V:d1.l=d1.l[0]::d1.l.drop 1:=by
    have:=aC hi
    grind
   have ih:=Oe h0 U hlen (enc b) (d1.l.length-1) 1 [j5 d1.l[0]] J rfl;rw [bd,<- aA,<- V] at ih;rw [af hz];clear V;obtain⟨sa,lc,cd,he,_,Vz,_⟩:=qJ U hi;have jG:=Vz.room;have e2:mU 2=16:=rfl;rw [e2] at jG;rw [he] at gz ih;have q:(lc.l.length:Int)<17592186044416:=J
   have ih:bL 22152 [1,enc d0,enc d1,enc b,enc (dL [j5 (dL [sa,lc,cd])])] _:=ih;have et:j5 (dL [sa,lc,cd])=dL [.i 0,if lc.l.length=0 then .i 2 else dL (List.replicate lc.l.length (.i 0)),.i 0,.i 0,.i 0,.i 0]:=rfl;rw [et] at ih;by_cases hz:lc.l.length=0
   ·have Bc:(lc.l.length:Int)=0:=J
    simp only [hz,if_true] at ih;simp only [KW,zz,c1,gz,lG,au,zg,ay,Bc,q];exact .jump ih
   ·have Bc: ¬(lc.l.length:Int)=0:=J
    simp only [af hz] at ih;simp only [KW,zz,c1,gz,lG,au,zg,ay,Bc,q,aW];exact .jump ih
 obtain⟨ys,h,rfl⟩:=this;exact h
theorem PB: ∃(s k:D) (c:Int),L 1450 [enc d0,enc d1]=some [enc s,enc k,c]/\L 22150 [enc d0,enc d1]=some [enc s,enc k,c]/\Sw s k 0/\(c=0->k.l.length=d1.l.length):=by
 obtain⟨c,hc,OK,hp,hr⟩:=Ag h0 U;by_cases hz:c=0
 ·subst hz;have hC:=OK.1 rfl;have ok:zJ d0 d1:=⟨hC.1,hC.2.1,hC.2.2.1⟩;obtain⟨b,hA,hB,G⟩:=TP h0 U;have h3:=acN h0 U hp ok;rw [hA] at h3;simp only [ah,List.cons.injEq,and_true] at h3;have e:=eQ h3;subst e;refine⟨_,_,0,Xv U hp ok,W9 h0 U hr hB hC.2.1,⟨G,?_⟩,fun _=>?_⟩
  rotate_left
  ·unfold qZ;split
   ·rename_i h;rw [h];rfl
   ·rw [bz,aY]
  unfold qZ;split
  ·exact .nil 8
  ·rename_i hz;refine FC (fun x Y=>?_) (fun h=>hz (by simpa using congrArg List.length h)) (by rw [aY]; have:=hC.2.1; omega);obtain⟨y,hy,rfl⟩:=aR.1 Y;obtain⟨i,hi,rfl⟩:=ar3 hy;obtain⟨sa,lc,cd,he,_,Vz,_⟩:=qJ U hi;have jG:=Vz.room;have e2:mU 2=16:=rfl;rw [e2] at jG;have z:gx .i64 0:=⟨J,J⟩;refine⟨0,(if lc.l.length=0 then .i 2 else dL (List.replicate lc.l.length (.i 0))),0,0,0,0,by rw [he]; rfl,z,?_,⟨J,J⟩,z,z,z⟩;split
   ·exact .xZ 0
   ·rename_i hz2;refine xQ (fun y hy=>?_) (fun h=>hz2 (by simpa using congrArg List.length h)) (by rw [asa]; omega)
    grind
 ·refine⟨.i 1,.i 1,c,Xu hp hz,?_,⟨⟨.nil 7,fun x Y=>by simp [D.l] at Y⟩,.nil 8⟩,fun h=>absurd h hz⟩
  have:bL 22150 [enc d0,enc d1] (·= [enc (.i 1),enc (.i 1),c]):=by refine bL.of ?_;rw [Tp];simp only [QZ,zz,hr,hz];exact .out rfl
  obtain⟨ys,h,rfl⟩:=this;exact h
theorem aj9 {s k:D} {n:Nat} (S:Sw s k n) (hn:n<17592186044000):Inv 5000 d0 d1 s k:=by
 by_cases M:MR d0 d1 s k
 ·exact⟨1048576,⟨NR h0 U S.g hn M.1,S.wk⟩,J,fun _=>by omega⟩
 ·exact⟨n,S,hn,fun M'=>absurd M' M⟩
end
theorem OY (d:D) (V:d.l.length<=140737488351232): ∀(j i:Nat),i+j=d.l.length->L 2451 [enc d,enc d,(d.l.length:Int),(i:Int)]=some [1]
 |0,i,hi=>by
  have c1: ¬(i:Int)<(d.l.length:Int):=J
  rw [bI,abu];simp only [j!,zz,c1,bU]
 |j+1,i,hi=>by
  have c1:(i:Int)<(d.l.length:Int):=J
  have c2: ¬((i:Int)<0):=J
  have w:=bF (n:=i) J;have ih:=OY d V j (i+1) J;rw [bI,abu];simp only [j!,zz,c1,c2,w,qb,and_self,bx,ih]
theorem Bw (d:D) (V:d.l.length<=140737488351232):L 2450 [enc d,enc d]=some [1]:=by have h:=OY d V d.l.length 0 J;rw [art] at h;rw [bI,ahx];simp only [afW,zz,bx];exact h
abbrev XZ (e1 e2 e3 e4 e5:Int):D:=dL [.i e1,.i e2,.i e3,.i e4,.i e5]
theorem drK {ρ:Nat->Int} (a b:W):(W.rem a b).den ρ=(a.den ρ).tmod (b.den ρ):=rfl
theorem wO:((3:Int)=2)=False:=ad
theorem tL:((1:Int)=2)=False:=ad
theorem tK:((1:Int)=3)=False:=ad
theorem Inv.one {j:Nat} {d0 d1 s k:D} (h:Inv j d0 d1 s k): ∃n,Sw s k n/\n<17592186044000:=by obtain⟨n,S,hn,_⟩:=h;exact⟨n,S,hn⟩
structure Ig (s k s' k':D):Prop where
 s:cS s=cS s'
 k:iV k=iV k'
theorem Ig.len {s k s' k':D} (E:Ig s k s' k'):k.l.length=k'.l.length:=by have:=congrArg (fun d=>d.l.length) E.k;simpa only [qG,aY] using this
theorem Ig.nG (s k:D):Ig s k s k:=⟨rfl,rfl⟩
section
variable {d0 d1 s k s' k':D} (h0:Wd (.sl 3) d0) (U:Wd (.sl 4) d1)
include h0 U
theorem apK {n m:Nat} (S:Sw s k n) (S':Sw s' k' m) (hn:n<17592186044000) (hm:m<17592186044000) (hs:cS s=cS s') (hk:iV k=iV k'):MR d0 d1 s k↔MR d0 d1 s' k':=by rw [<- Xt h0 U S hn,<- Xt h0 U S' hm,hs,hk]
theorem Q' {j:Nat} (Z?:Inv j d0 d1 s k):Inv j d0 d1 (cS s) (iV k):=by obtain⟨n,S,hn,hm⟩:=Z?;exact⟨n,(rI S hn).2.sw,hn,fun M=>hm ((Xt h0 U S hn).1 M)⟩
theorem z7 {j:Nat} (Z?:Inv (j+1) d0 d1 s k) (V':Inv (j+1) d0 d1 s' k') (E:Ig s k s' k') (t:Int): ∃(a ka b kb:D) (e1 e2 e3 e4 e5 oc:Int),L 1850 [enc d0,enc d1,enc s,enc k,t]=some [enc a,enc ka,e1,e2,e3,e4,e5,oc]/\L 22400 [enc d0,enc d1,enc s',enc k',t]=some [enc b,enc kb,e1,e2,e3,e4,e5,oc]/\
 Ig a ka b kb/\Inv j d0 d1 a ka/\Inv j d0 d1 b kb/\ka.l.length=k.l.length/\(oc=0\/oc=4\/oc=1\/oc=2\/oc=3):=by
 obtain⟨n,S,hn,hm⟩:=id Z?;obtain⟨n',S',XH,YL⟩:=id V';have hMR:=apK h0 U S S' hn XH E.s E.k;rcases Lh (t:=t) S hn h0 U with h|⟨x,R⟩
 ·have h':L 1550 [enc d0,enc d1,enc s',enc k',t]=some [0]:=(wM h0 U S' XH t).2 (by rw [<- hMR]; exact (wM h0 U S hn t).1 h);exact⟨_,_,_,_,0,0,0,0,0,0,EY S h,I2 h0 U S' XH h',⟨by rw [aoS S'.g.wd.lx,E.s],by rw [acG,E.k]⟩,Z?.mono J,(Q' h0 U V').mono J,rfl,.inl rfl⟩
 ·have M:=((ud h0 U S hn t).1 R.yes).2.2;have hm:=hm M;obtain⟨a,ka,a1,k1,e1,e2,e3,e4,e5,oc,hL1,hL2,ha1,hk1,Sa,Sa1,H⟩:=ad3 h0 U S J t;obtain⟨a',kk,b,s1,k1',p0,p1,p2,p3,p4,f1,f2,f3,f4,f5,oc',f,r1,r2,r3,r4,r5,r6,r7,r8,r9,hf,hp4,V2,hSE,V3⟩:=WV h0 U V' t;rw [TF S' XH] at r1;simp only [ah,List.cons.injEq,and_true] at r1;obtain⟨z1,z2⟩:=r1;rw [<- z1,<- z2,<- E.s,<- E.k,hL2] at r4;simp only [ah,List.cons.injEq,and_true] at r4;obtain⟨z3,z4,rfl,rfl,rfl,rfl,rfl,rfl⟩:=r4;have z3:=eQ z3;have z4:=eQ z4;subst z3 z4;obtain⟨nb,Sb,hnb⟩:=V3.one;obtain⟨hq1,S1⟩:=rI S hn;have hlk:=(v_ S1 J h0 U H).2.2
  have aql:ka.l.length=k.l.length:=by have:=congrArg (fun d=>d.l.length) hk1;simp only [qG,aY] at this hlk;omega
  have ho:oc=0\/oc=4\/oc=1\/oc=2\/oc=3:=by
   cases H with
   |no=>omega
   |over=>omega
   |loc=>omega
   |tri _ _ _ _ _ _ _ _ _ _ _ _ _ _ _ _ _ _ _ A=> have:=A.oc3;omega
  exact⟨a,ka,b,k1,e1,e2,e3,e4,e5,oc,hL1,r5,⟨ha1.trans (acF (sy hSE) Sa1.g Sb.g),hk1⟩,⟨n+1,Sa,J,fun _=>by omega⟩,V3,aql,ho⟩
end
theorem Ig.tries {s k s' k':D} (E:Ig s k s' k') (hk:Wd (.sl 8) k) (OG:Wd (.sl 8) k') {t:Int} (t0:0<=t):((k.at t).V 5).n=((k'.at t).V 5).n:=by obtain⟨i,rfl⟩ : ∃i:Nat,t=(i:Int):=⟨t.toNat,J⟩;have q1:=Ou hk i;have q2:=Ou OG i;rw [E.k] at q1;exact q1.c5.trans q2.c5.symm
section
variable {d0 d1 d:D} (h0:Wd (.sl 3) d0) (U:Wd (.sl 4) d1) (hn:0<d1.l.length) (V:d.l.length<=1000)
include h0 U hn V
theorem Hb (r:Nat): ∀(j i:Nat) (s k s' k':D) (l:List D),i+j=d.l.length->Inv (j+r) d0 d1 s k->Inv (j+r) d0 d1 s' k'->Ig s k s' k'->k.l.length=d1.l.length->l.length<=i->
 ∃(l2 a ka b kb:D),Ig a ka b kb/\Inv r d0 d1 a ka/\Inv r d0 d1 b kb/\l2.l.length<=1000/\
 (l= []->L 2401 [enc d,(d1.l.length:Int),(i:Int),enc d0,enc d1,enc s,enc k]=some [enc l2,enc a,enc ka]/\L 22601 [enc d,(d1.l.length:Int),(i:Int),enc d0,enc d1,enc s',enc k']=some [enc l2,enc b,enc kb])/\
 (l≠[]->L 2402 [enc d,(d1.l.length:Int),(i:Int),enc (dL l),enc d0,enc d1,enc s,enc k]=some [enc l2,enc a,enc ka]/\L 22602 [enc d,enc (dL l),(d1.l.length:Int),(i:Int),enc d0,enc d1,enc s',enc k']=some [enc l2,enc b,enc kb])
 |0,i,s,k,s',k',l,hi,Z?,V',E,hk,hl=>by
  have c1: ¬(i:Int)<(d.l.length:Int):=J
  refine⟨if l= [] then .i 1 else dL l,s,k,s',k',E,Z?.mono J,V'.mono J,?_,fun hz=>?_,fun hz=>?_⟩
  ·split
   ·simp [D.l]
   ·rw [bz];omega
  ·rw [ag hz,bI,bI,VV,Mv];simp only [DD,we,zz,c1,bU,and_self]
  ·rw [af hz,bI,bI,abv,Ti];simp only [IY,Cp,zz,c1,bU,and_self]
 |j+1,i,s,k,s',k',l,hi,Z?,V',E,hk,hl=>by
  have di:i<d.l.length:=J
  have c1:(i:Int)<(d.l.length:Int):=J
  have c2:(0:Int)<(d1.l.length:Int):=J
  have c3: ¬((i:Int)<0):=J
  have w:=bF (n:=i) J;have hb:=U.len;have pk:=Xf (x:=(d.at (i:Int)).n) c2 J;have rng:=FG (x:=(d.at (i:Int)).n) c2;obtain⟨r1,r2⟩:=Xg (x:=(d.at (i:Int)).n) c2;have c4: ¬(vw (d.at (i:Int)).n (d1.l.length:Int)<0):=J
  have c5:vw (d.at (i:Int)).n (d1.l.length:Int)<(k.l.length:Int):=J
  have c7:(l.length:Int)<3518437208882:=J
  obtain⟨a,ka,b,kb,e1,e2,e3,e4,e5,oc,A1,A2,E2,V2,Yf,hka,_⟩:=z7 (j:=j+r) h0 U (Z?.mono J) (V'.mono J) E (vw (d.at (i:Int)).n (d1.l.length:Int));have c6:vw (d.at (i:Int)).n (d1.l.length:Int)<(ka.l.length:Int):=J
  have ih:=Hb r j (i+1) a ka b kb (if oc=2\/oc=3 then l++ [XZ e1 e2 e3 e4 e5] else l) J V2 Yf E2 J
   (by split
       ·rw [bc]; exact Nat.succ_le_succ hl
       ·omega)
  have anU:((d.at (i:Int)).n.tmod (d1.l.length:Int)<0/\vw (d.at (i:Int)).n (d1.l.length:Int)=IntKind.i64.wrap ((d.at (i:Int)).n.tmod (d1.l.length:Int)+(d1.l.length:Int)))\/(¬(d.at (i:Int)).n.tmod (d1.l.length:Int)<0/\vw (d.at (i:Int)).n (d1.l.length:Int)=(d.at (i:Int)).n.tmod (d1.l.length:Int)):=by
   unfold vw;by_cases h:(d.at (i:Int)).n.tmod (d1.l.length:Int)<0
   ·rw [ag h];exact .inl ⟨h,(fW J J).symm⟩
   ·rw [af h];exact .inr ⟨h,rfl⟩
  obtain⟨l2,a2,ka2,b2,kb2,E3,V3,V3',hl2,Se,vO⟩:=ih;refine⟨l2,a2,ka2,b2,kb2,E3,V3,V3',hl2,fun hz=>?_,fun hz=>?_⟩
  ·subst hz;rw [bI,bI,VV,Mv];rcases anU with ⟨g1,g2⟩|⟨g1,g2⟩ <;>rw [g2] at A2
   all_goals
    by_cases o2:oc=2
    ·simp only [o2,true_or,if_true,au,cN,dM] at vO;obtain⟨j1,j2⟩:=vO ad;simp only [DD,we,zz,drK,c1,c2,c3,c4,c5,pk,A1,A2,g1,o2,w,bx,lG,au,cN,dM];exact⟨j1,j2⟩
    ·by_cases o3:oc=3
     ·simp only [o3,or_true,if_true,au,cN,dM] at vO;obtain⟨j1,j2⟩:=vO ad;simp only [DD,we,zz,drK,c1,c2,c3,c4,c5,pk,A1,A2,g1,o3,w,bx,lG,au,cN,dM,wO];exact⟨j1,j2⟩
     ·simp only [o2,o3,or_self,if_false] at Se;obtain⟨j1,j2⟩:=Se trivial;by_cases o1:oc=1
      ·simp only [DD,we,zz,drK,c1,c2,c3,c4,c5,pk,A1,A2,g1,o1,w,bx,tL,tK];exact⟨j1,j2⟩
      ·simp only [DD,we,zz,drK,c1,c2,c3,c4,c5,c6,pk,A1,A2,g1,o1,o2,o3,w,bx];exact⟨j1,j2⟩
  ·rw [bI,bI,abv,Ti];rcases anU with ⟨g1,g2⟩|⟨g1,g2⟩ <;>rw [g2] at A2
   all_goals
    by_cases o2:oc=2
    ·simp only [o2,true_or,if_true,cN,dM] at vO;obtain⟨j1,j2⟩:=vO ad;simp only [IY,Cp,zz,drK,c1,c2,c3,c4,c5,c7,pk,A1,A2,g1,o2,w,bx,bz];exact⟨j1,j2⟩
    ·by_cases o3:oc=3
     ·simp only [o3,or_true,if_true,cN,dM] at vO;obtain⟨j1,j2⟩:=vO ad;simp only [IY,Cp,zz,drK,c1,c2,c3,c4,c5,c7,pk,A1,A2,g1,o3,w,bx,bz,wO];exact⟨j1,j2⟩
     ·simp only [o2,o3,or_self,if_false] at vO;obtain⟨j1,j2⟩:=vO hz;by_cases o1:oc=1
      ·simp only [IY,Cp,zz,drK,c1,c2,c3,c4,c5,pk,A1,A2,g1,o1,w,bx,tL,tK];exact⟨j1,j2⟩
      ·simp only [IY,Cp,zz,drK,c1,c2,c3,c4,c5,c6,pk,A1,A2,g1,o1,o2,o3,w,bx];exact⟨j1,j2⟩
end
section
variable {k:D} (hk:k.l.length<2199023255551) (hl: ∀x∈k.l,((x.V 1).l.length:Int)<17592186044416)
include hk hl
theorem acs (sn:D): ∀(j i:Nat) (acc:List D),i+j=k.l.length->acc.length=i->L 3606 [enc k,(k.l.length:Int),(i:Int),enc sn,enc (dL acc)]=some [enc sn,enc (dL (acc++(k.l.drop i).map cK))]
 |0,i,acc,hi,ha=>by
  have c1: ¬(i:Int)<(k.l.length:Int):=J
  rw [aX J,aru,bh,bI,abm];simp only [Ur,zz,c1,bU]
 |j+1,i,acc,hi,ha=>by
  have di:i<k.l.length:=J
  have c1:(i:Int)<(k.l.length:Int):=J
  have c2: ¬((i:Int)<0):=J
  have c3:(acc.length:Int)<2199023255551:=J
  have c4:=hl _ (aq di);have w:=bF (n:=i) J;have ih:=acs sn j (i+1) (acc++ [cK (k.l[i])]) J (by rw [bc,ha]; rfl);rw [bp,bd,<- aA,<- aC di] at ih;unfold cK kQ at ih;rw [bI,abm];by_cases z:(((k.l[i]).V 1).l.length:Int)=0
  ·rw [ag z] at ih;simp only [Ur,zz,c1,c2,c3,z,bG di,w,bx,bz];exact ih
  ·rw [af z] at ih;simp only [Ur,zz,c1,c2,c3,c4,af z,bG di,w,bx,bz];exact ih
theorem ak8 (sn:D):L 3604 [enc k,(k.l.length:Int),enc sn]=some [enc sn,enc (if k.l= [] then .i 1 else dL (k.l.map cK))]:=by
 rw [bI,ahr];by_cases hp:0<k.l.length
 ·have c1:(0:Int)<(k.l.length:Int):=J
  have jK:k.l≠[]:=fun h=>by rw [h] at hp; simp at hp
  have c4:=hl _ (aq hp);have e0:k.at 0=k.l[0]:=by have:=bG hp; rwa [art] at this
  have ih:=acs hk hl sn (k.l.length-1) 1 [cK (k.l[0])] J rfl;rw [bd,<- aA,<- aC hp,arC] at ih;rw [af jK];unfold cK kQ at ih ⊢;by_cases z:(((k.l[0]).V 1).l.length:Int)=0
  ·rw [ag z] at ih;simp only [Ut,zz,c1,e0,z,bx,lG,au];exact ih
  ·rw [af z] at ih;simp only [Ut,zz,c1,c4,e0,af z,bx,lG,au];exact ih
 ·have hz:k.l= []:=arL J;have c1: ¬(0:Int)<(k.l.length:Int):=J
  rw [ag hz];simp only [Ut,zz,c1,bU]
theorem acu: ∀(j i:Nat) (acc:List D),i+j=k.l.length->acc.length=i->L 3605 [enc k,(k.l.length:Int),(i:Int),enc (dL acc)]=some [enc (.i 1),enc (dL (acc++(k.l.drop i).map cK))]
 |0,i,acc,hi,ha=>by
  have c1: ¬(i:Int)<(k.l.length:Int):=J
  rw [aX J,aru,bh,bI,abn];simp only [Us,zz,c1,bU]
 |j+1,i,acc,hi,ha=>by
  have di:i<k.l.length:=J
  have c1:(i:Int)<(k.l.length:Int):=J
  have c2: ¬((i:Int)<0):=J
  have c3:(acc.length:Int)<2199023255551:=J
  have c4:=hl _ (aq di);have w:=bF (n:=i) J;have ih:=acu j (i+1) (acc++ [cK (k.l[i])]) J (by rw [bc,ha]; rfl);rw [bp,bd,<- aA,<- aC di] at ih;unfold cK kQ at ih;rw [bI,abn];by_cases z:(((k.l[i]).V 1).l.length:Int)=0
  ·rw [ag z] at ih;simp only [Us,zz,c1,c2,c3,z,bG di,w,bx,bz];exact ih
  ·rw [af z] at ih;simp only [Us,zz,c1,c2,c3,c4,af z,bG di,w,bx,bz];exact ih
theorem ak9:L 3603 [enc k,(k.l.length:Int)]=some [enc (.i 1),enc (if k.l= [] then .i 1 else dL (k.l.map cK))]:=by
 rw [bI,ahs];by_cases hp:0<k.l.length
 ·have c1:(0:Int)<(k.l.length:Int):=J
  have jK:k.l≠[]:=fun h=>by rw [h] at hp; simp at hp
  have c4:=hl _ (aq hp);have e0:k.at 0=k.l[0]:=by have:=bG hp; rwa [art] at this
  have ih:=acu hk hl (k.l.length-1) 1 [cK (k.l[0])] J rfl;rw [bd,<- aA,<- aC hp,arC] at ih;rw [af jK];unfold cK kQ at ih ⊢;by_cases z:(((k.l[0]).V 1).l.length:Int)=0
  ·rw [ag z] at ih;simp only [Uu,zz,c1,e0,z,bx,lG,au];exact ih
  ·rw [af z] at ih;simp only [Uu,zz,c1,c4,e0,af z,bx,lG,au];exact ih
 ·have hz:k.l= []:=arL J;have c1: ¬(0:Int)<(k.l.length:Int):=J
  rw [ag hz];simp only [Uu,zz,c1,bU]
end
section
variable {s:D} (hs:s.l.length<1759218604440) (hr: ∀x∈s.l,((x.V 4).l.length:Int)<17592186044416/\((x.V 5).l.length:Int)<17592186044416)
include hs hr
theorem acv (k:D): ∀(j i:Nat) (acc:List D),i+j=s.l.length->acc.length=i->L 3602 [enc s,(s.l.length:Int),(i:Int),enc k,enc (dL acc)]=L 3604 [enc k,(k.l.length:Int),enc (dL (acc++(s.l.drop i).map ji))]
 |0,i,acc,hi,ha=>by
  have c1: ¬(i:Int)<(s.l.length:Int):=J
  rw [aX J,aru,bh,bI,abo];simp only [IQ,zz,c1,bx]
 |j+1,i,acc,hi,ha=>by
  have di:i<s.l.length:=J
  have c1:(i:Int)<(s.l.length:Int):=J
  have c2: ¬((i:Int)<0):=J
  have c3:(acc.length:Int)<1759218604440:=J
  obtain⟨c4,c5⟩:=hr _ (aq di);have w:=bF (n:=i) J;have ih:=acv k j (i+1) (acc++ [ji (s.l[i])]) J (by rw [bc,ha]; rfl);rw [bp,bd,<- aA,<- aC di] at ih;unfold ji kQ at ih;rw [bI,abo];by_cases z:(((s.l[i]).V 4).l.length:Int)=0
  ·by_cases y:(((s.l[i]).V 5).l.length:Int)=0
   ·rw [ag z,ag y] at ih;simp only [IQ,zz,c1,c2,c3,z,y,bG di,w,bx,bz];exact ih
   ·rw [ag z,af y] at ih;simp only [IQ,zz,c1,c2,c3,c5,z,af y,bG di,w,bx,bz];exact ih
  ·by_cases y:(((s.l[i]).V 5).l.length:Int)=0
   ·rw [af z,ag y] at ih;simp only [IQ,zz,c1,c2,c3,c4,af z,y,bG di,w,bx,bz];exact ih
   ·rw [af z,af y] at ih;simp only [IQ,zz,c1,c2,c3,c4,c5,af z,af y,bG di,w,bx,bz];exact ih
theorem ala {k:D} (hk:k.l.length<2199023255551) (hl: ∀x∈k.l,((x.V 1).l.length:Int)<17592186044416):L 3600 [enc s,enc k]=some [enc (if s.l= [] then .i 1 else dL (s.l.map ji)),enc (if k.l= [] then .i 1 else dL (k.l.map cK))]:=by
 have g: ∀sn,L 3604 [enc k,(k.l.length:Int),enc sn]=some [enc sn,enc (if k.l= [] then .i 1 else dL (k.l.map cK))]:=fun sn=>ak8 hk hl sn;have g3:=ak9 hk hl;rw [bI,ahu];simp only [afT,zz,bx];rw [bI,aht];by_cases hp:0<s.l.length
 ·have c1:(0:Int)<(s.l.length:Int):=J
  have jK:s.l≠[]:=fun h=>by rw [h] at hp; simp at hp
  obtain⟨c4,c5⟩:=hr _ (aq hp);have e0:s.at 0=s.l[0]:=by have:=bG hp; rwa [art] at this
  have ih:=acv hs hr k (s.l.length-1) 1 [ji (s.l[0])] J rfl;rw [bd,<- aA,<- aC hp,arC,g] at ih;rw [af jK];unfold ji kQ at ih ⊢;by_cases z:(((s.l[0]).V 4).l.length:Int)=0
  ·by_cases y:(((s.l[0]).V 5).l.length:Int)=0
   ·rw [ag z,ag y] at ih;simp only [IS,zz,c1,e0,z,y,bx,lG,au];exact ih
   ·rw [ag z,af y] at ih;simp only [IS,zz,c1,c5,e0,z,af y,bx,lG,au];exact ih
  ·by_cases y:(((s.l[0]).V 5).l.length:Int)=0
   ·rw [af z,ag y] at ih;simp only [IS,zz,c1,c4,e0,af z,y,bx,lG,au];exact ih
   ·rw [af z,af y] at ih;simp only [IS,zz,c1,c4,c5,e0,af z,af y,bx,lG,au];exact ih
 ·have hz:s.l= []:=arL J;have c1: ¬(0:Int)<(s.l.length:Int):=J
  rw [ag hz];simp only [IS,zz,c1,bx];exact g3
end
theorem aeu {s k:D} {n:Nat} (S:Sw s k n) (hn:n<17592186044000):L 3600 [enc s,enc k]=some [enc (cS s),enc (iV k)]:=by obtain⟨⟨c1,c2⟩,c3,_⟩:=S.cnd hn;have h:=ala (s:=s) (k:=k) J (fun x Y=>by have:=S.g.rows x Y; omega) J (fun x Y=>by have:=c2 x Y; omega);rw [h];unfold cS iV;simp only [arI]
abbrev eDf (l:List D):D:=if l= [] then .i 1 else dL l
noncomputable def RI (d0 d1:D) (mo n t:Int) (m:Bool) (l:List D) (s k:D):Option (List Int):=match m with
 |true=>if l= [] then L 2654 [mo,n,(d1.l.length:Int),t,enc d0,enc d1,enc s,enc k] else L 2653 [mo,n,(d1.l.length:Int),t,enc d0,enc d1,enc (dL l),enc s,enc k]
 |false=>if l= [] then L 2652 [mo,n,(d1.l.length:Int),t,enc d0,enc d1,enc s,enc k] else L 2657 [mo,n,(d1.l.length:Int),t,enc d0,enc d1,enc (dL l),enc s,enc k]
noncomputable def TC (d0 d1:D) (mo n t:Int) (m:Bool) (l:List D) (s k:D):Option (List Int):=match m with
 |true=>if l= [] then L 22654 [mo,n,t,enc d0,enc d1,enc s,enc k] else L 22653 [mo,enc (dL l),n,t,enc d0,enc d1,enc s,enc k]
 |false=>if l= [] then L 22652 [mo,n,t,enc d0,enc d1,enc s,enc k] else L 22656 [mo,enc (dL l),n,t,enc d0,enc d1,enc s,enc k]
noncomputable def Gm (d0 d1:D) (mo n:Int) (l:List D) (s k:D):Option (List Int):=if l= [] then L 2651 [mo,n,enc d0,enc d1,enc s,enc k] else L 2656 [mo,n,enc d0,enc d1,enc (dL l),enc s,enc k]
noncomputable def HM (d0 d1:D) (mo n:Int) (l:List D) (s k:D):Option (List Int):=if l= [] then L 22651 [mo,n,enc d0,enc d1,enc s,enc k] else L 22655 [mo,enc (dL l),n,enc d0,enc d1,enc s,enc k]
noncomputable def adR (d0 d1:D) (mo n:Int) (m:Bool) (l:List D) (s k:D):Option (List Int):=match m with
 |true=>Gm d0 d1 mo n l s k
 |false=>some [enc (eDf l),enc s,enc k]
noncomputable def aeP (d0 d1:D) (mo n:Int) (m:Bool) (l:List D) (s k:D):Option (List Int):=match m with
 |true=>HM d0 d1 mo n l s k
 |false=>some [enc (eDf l),enc s,enc k]
def mvd (m:Bool) (oc x y:Int):Bool:=if oc=2\/oc=3\/oc=1 then true else if x=y then m else true
def tld (l:List D) (e:D) (oc:Int):List D:=if oc=2\/oc=3 then l++ [e] else l
theorem EZ {l:List D} {x:D}:(l++ [x]= [])=False:=ad
section
variable {d0 d1 s k a ka:D} {mo n:Int} {t:Nat} {l:List D} {e1 e2 e3 e4 e5 oc:Int} (ht:t<d1.l.length) (hb:d1.l.length<=140737488351232) (hk:k.l.length=d1.l.length) (hka:ka.l.length=d1.l.length) (hl:l.length<=100000)
include ht hb hk hka hl
theorem Xd (A1:L 1850 [enc d0,enc d1,enc s,enc k,(t:Int)]=some [enc a,enc ka,e1,e2,e3,e4,e5,oc]) (m:Bool) :
 RI d0 d1 mo n (t:Int) m l s k=RI d0 d1 mo n ((t+1:Nat):Int) (mvd m oc ((ka.at (t:Int)).V 5).n ((k.at (t:Int)).V 5).n) (tld l (XZ e1 e2 e3 e4 e5) oc) a ka:=by
 have c1:(t:Int)<(d1.l.length:Int):=J
 have c3: ¬((t:Int)<0):=J
 have w:=bF (n:=t) J;have c5:(t:Int)<(k.l.length:Int):=J
 have c6:(t:Int)<(ka.l.length:Int):=J
 have c7:(l.length:Int)<3518437208882:=J
 unfold RI mvd tld;by_cases o2:oc=2
 ·subst o2;cases m
  all_goals
   simp only [true_or,if_true,EZ,if_false];split
   ·rename_i hz;subst hz;simp only [au,cN,dM];rw [bI]
    first
     |rw [Kl]; simp only [IW,zz,c1,c3,c5,c7,A1,w,bx,lG,au,cN,dM]
     |rw [Kj]; simp only [IU,zz,c1,c3,c5,c7,A1,w,bx,lG,au,cN,dM]
   ·rw [bI]
    first
     |rw [Ki]; simp only [IT,zz,c1,c3,c5,c7,A1,w,bx,bz,XZ,cN,dM]
     |rw [Kk]; simp only [IV,zz,c1,c3,c5,c7,A1,w,bx,bz,XZ,cN,dM]
 ·by_cases o3:oc=3
  ·subst o3;cases m
   all_goals
    simp only [true_or,or_true,if_true,EZ,if_false];split
    ·rename_i hz;subst hz;simp only [au,cN,dM];rw [bI]
     first
      |rw [Kl]; simp only [IW,zz,c1,c3,c5,c7,A1,w,wO,bx,lG,au,cN,dM]
      |rw [Kj]; simp only [IU,zz,c1,c3,c5,c7,A1,w,wO,bx,lG,au,cN,dM]
    ·rw [bI]
     first
      |rw [Ki]; simp only [IT,zz,c1,c3,c5,c7,A1,w,wO,bx,bz,XZ,cN,dM]
      |rw [Kk]; simp only [IV,zz,c1,c3,c5,c7,A1,w,wO,bx,bz,XZ,cN,dM]
  ·by_cases o1:oc=1
   ·subst o1;cases m
    all_goals
     simp only [tL,tK,false_or,or_self,if_true,if_false];split
     ·rw [bI]
      first
       |rw [Kl]; simp only [IW,zz,c1,c3,c5,A1,w,tL,tK,bx]
       |rw [Kj]; simp only [IU,zz,c1,c3,c5,A1,w,tL,tK,bx]
     ·rw [bI]
      first
       |rw [Ki]; simp only [IT,zz,c1,c3,c5,A1,w,tL,tK,bx]
       |rw [Kk]; simp only [IV,zz,c1,c3,c5,A1,w,tL,tK,bx]
   ·by_cases Y:((ka.at (t:Int)).V 5).n=((k.at (t:Int)).V 5).n
    all_goals
     cases m
     all_goals
      simp only [o1,o2,o3,or_self,if_false,Y,if_true];split
      ·rw [bI]
       first
        |rw [Kl]; simp only [IW,zz,c1,c3,c5,c6,A1,w,o1,o2,o3,Y,if_false,bx]
        |rw [Kj]; simp only [IU,zz,c1,c3,c5,c6,A1,w,o1,o2,o3,Y,if_false,bx]
      ·rw [bI]
       first
        |rw [Ki]; simp only [IT,zz,c1,c3,c5,c6,A1,w,o1,o2,o3,Y,if_false,bx]
        |rw [Kk]; simp only [IV,zz,c1,c3,c5,c6,A1,w,o1,o2,o3,Y,if_false,bx]
theorem X3 (A1:L 22400 [enc d0,enc d1,enc s,enc k,(t:Int)]=some [enc a,enc ka,e1,e2,e3,e4,e5,oc]) (m:Bool) :
 TC d0 d1 mo n (t:Int) m l s k=TC d0 d1 mo n ((t+1:Nat):Int) (mvd m oc ((ka.at (t:Int)).V 5).n ((k.at (t:Int)).V 5).n) (tld l (XZ e1 e2 e3 e4 e5) oc) a ka:=by
 have c1:(t:Int)<(d1.l.length:Int):=J
 have c3: ¬((t:Int)<0):=J
 have w:=bF (n:=t) J;have c5:(t:Int)<(k.l.length:Int):=J
 have c6:(t:Int)<(ka.l.length:Int):=J
 have c7:(l.length:Int)<3518437208882:=J
 unfold TC mvd tld;by_cases o2:oc=2
 ·subst o2;cases m
  all_goals
   simp only [true_or,if_true,EZ,if_false];split
   ·rename_i hz;subst hz;simp only [au,cN,dM];rw [bI]
    first
     |rw [Di]; simp only [Co,zz,c1,A1,w,bx,lG,au,cN,dM]
     |rw [Dg]; simp only [Cm,zz,c1,A1,w,bx,lG,au,cN,dM]
   ·rw [bI]
    first
     |rw [Df]; simp only [Cl,zz,c1,c7,A1,w,bx,bz,XZ,cN,dM]
     |rw [Dh]; simp only [Cn,zz,c1,c7,A1,w,bx,bz,XZ,cN,dM]
 ·by_cases o3:oc=3
  ·subst o3;cases m
   all_goals
    simp only [true_or,or_true,if_true,EZ,if_false];split
    ·rename_i hz;subst hz;simp only [au,cN,dM];rw [bI]
     first
      |rw [Di]; simp only [Co,zz,c1,A1,w,wO,bx,lG,au,cN,dM]
      |rw [Dg]; simp only [Cm,zz,c1,A1,w,wO,bx,lG,au,cN,dM]
    ·rw [bI]
     first
      |rw [Df]; simp only [Cl,zz,c1,c7,A1,w,wO,bx,bz,XZ,cN,dM]
      |rw [Dh]; simp only [Cn,zz,c1,c7,A1,w,wO,bx,bz,XZ,cN,dM]
  ·by_cases o1:oc=1
   ·subst o1;cases m
    all_goals
     simp only [tL,tK,false_or,or_self,if_true,if_false];split
     ·rw [bI]
      first
       |rw [Di]; simp only [Co,zz,c1,A1,w,tL,tK,bx]
       |rw [Dg]; simp only [Cm,zz,c1,A1,w,tL,tK,bx]
     ·rw [bI]
      first
       |rw [Df]; simp only [Cl,zz,c1,A1,w,tL,tK,bx]
       |rw [Dh]; simp only [Cn,zz,c1,A1,w,tL,tK,bx]
   ·by_cases Y:((ka.at (t:Int)).V 5).n=((k.at (t:Int)).V 5).n
    all_goals
     cases m
     all_goals
      simp only [o1,o2,o3,or_self,if_false,Y,if_true];split
      ·rw [bI]
       first
        |rw [Di]; simp only [Co,zz,c1,c3,c5,c6,A1,w,o1,o2,o3,Y,if_false,bx]
        |rw [Dg]; simp only [Cm,zz,c1,c3,c5,c6,A1,w,o1,o2,o3,Y,if_false,bx]
      ·rw [bI]
       first
        |rw [Df]; simp only [Cl,zz,c1,c3,c5,c6,A1,w,o1,o2,o3,Y,if_false,bx]
        |rw [Dh]; simp only [Cn,zz,c1,c3,c5,c6,A1,w,o1,o2,o3,Y,if_false,bx]
end
section
variable {d0 d1:D} (h0:Wd (.sl 3) d0) (U:Wd (.sl 4) d1) {mo:Int} {n:Nat} (hn:n<1000)
include h0 U hn
theorem J3 (r:Nat): ∀(j t:Nat) (m:Bool) (s k s' k':D) (l:List D),t+j=d1.l.length->Inv (j+r) d0 d1 s k->Inv (j+r) d0 d1 s' k'->Ig s k s' k'->k.l.length=d1.l.length->l.length+j<=100000->
 ∃(m2:Bool) (l2:List D) (a ka b kb:D),Ig a ka b kb/\Inv r d0 d1 a ka/\Inv r d0 d1 b kb/\ka.l.length=d1.l.length/\l2.length<=l.length+j/\
 RI d0 d1 mo (n:Int) (t:Int) m l s k=adR d0 d1 mo ((n+1:Nat):Int) m2 l2 a ka/\TC d0 d1 mo (n:Int) (t:Int) m l s' k'=aeP d0 d1 mo ((n+1:Nat):Int) m2 l2 b kb
 |0,t,m,s,k,s',k',l,hi,Z?,V',E,hk,hl=>by
  have c1: ¬(t:Int)<(d1.l.length:Int):=J
  have w:=bF (n:=n) J;refine⟨m,l,s,k,s',k',E,Z?.mono J,V'.mono J,hk,J,?_⟩;cases m
  ·unfold RI TC adR aeP;by_cases hz:l= []
   ·simp only [ag hz];rw [bI,bI,Kl,Di];simp only [IW,Co,zz,c1,bU,bx];rw [bI,ahw];simp only [afV,zz,bU,and_self]
   ·simp only [af hz];rw [bI,bI,Ki,Df];simp only [IT,Cl,zz,c1,bU,bx];rw [bI,ahv];simp only [afU,zz,bU,and_self]
  ·unfold RI TC adR aeP Gm HM;by_cases hz:l= []
   ·simp only [ag hz];refine⟨?_,?_⟩
    ·rw [bI,Kj];simp only [IU,zz,c1,w,bx]
    ·rw [bI,Dg];simp only [Cm,zz,c1,w,bx]
   ·simp only [af hz];refine⟨?_,?_⟩
    ·rw [bI,Kk];simp only [IV,zz,c1,w,bx]
    ·rw [bI,Dh];simp only [Cn,zz,c1,w,bx]
 |j+1,t,m,s,k,s',k',l,hi,Z?,V',E,hk,hl=>by
  obtain⟨a,ka,b,kb,e1,e2,e3,e4,e5,oc,A1,A2,E2,V2,Yf,hka,_⟩:=z7 (j:=j+r) h0 U (Z?.mono J) (V'.mono J) E (t:Int);have OG:=E.len;have hkb:=E2.len;obtain⟨_,S,_⟩:=Z?.one;obtain⟨_,S',_⟩:=V'.one;obtain⟨_,S2,_⟩:=V2.one;obtain⟨_,S2',_⟩:=Yf.one;have q1:=E.tries S.wk S'.wk (t:=(t:Int)) J;have q2:=E2.tries S2.wk S2'.wk (t:=(t:Int)) J
  have gy:(tld l (XZ e1 e2 e3 e4 e5) oc).length<=l.length+1:=by
   unfold tld;split
   ·rw [bc];exact ax _
   ·omega
  obtain⟨m2,l2,a2,ka2,b2,kb2,E3,V3,V3',hk3,hl3,i1,i2⟩:=J3 r j (t+1) (mvd m oc ((ka.at (t:Int)).V 5).n ((k.at (t:Int)).V 5).n) a ka b kb (tld l (XZ e1 e2 e3 e4 e5) oc) J V2 Yf E2 J J;refine⟨m2,l2,a2,ka2,b2,kb2,E3,V3,V3',hk3,J,?_,?_⟩
  ·rw [Xd J U.len hk J J A1];exact i1
  ·rw [X3 J U.len J J J A2,<- q1,<- q2];exact i2
end
section
variable {d0 d1:D} (h0:Wd (.sl 3) d0) (U:Wd (.sl 4) d1) (h16:d1.l.length<=16) {mo:Int} (hmo:mo<=60)
include h0 U h16 hmo
theorem J4 (r:Nat): ∀(q n:Nat) (s k s' k':D) (l:List D),n+q=61->Inv (16*q+r) d0 d1 s k->Inv (16*q+r) d0 d1 s' k'->Ig s k s' k'->k.l.length=d1.l.length->l.length+16*q<=1000->
 ∃(l2 a ka b kb:D),Ig a ka b kb/\Inv r d0 d1 a ka/\Inv r d0 d1 b kb/\l2.l.length<=1000/\Gm d0 d1 mo (n:Int) l s k=some [enc l2,enc a,enc ka]/\HM d0 d1 mo (n:Int) l s' k'=some [enc l2,enc b,enc kb]
 |q,n,s,k,s',k',l,hi,Z?,V',E,hk,hl=>by
  have c0: ¬(100000:Int)<mo:=J
  have leave: ¬(n:Int)<mo->∃(l2 a ka b kb:D),Ig a ka b kb/\Inv r d0 d1 a ka/\Inv r d0 d1 b kb/\l2.l.length<=1000/\Gm d0 d1 mo (n:Int) l s k=some [enc l2,enc a,enc ka]/\HM d0 d1 mo (n:Int) l s' k'=some [enc l2,enc b,enc kb]:=fun c1=>by
   refine⟨eDf l,s,k,s',k',E,Z?.mono J,V'.mono J,?_,?_⟩
   ·unfold eDf;split
    ·simp [D.l]
    ·rw [bz];omega
   ·unfold Gm HM;by_cases hz:l= []
    ·simp only [ag hz];rw [bI,bI,abq,Te];simp only [i!,QV,zz,c0,c1,bU,and_self]
    ·simp only [af hz];rw [bI,bI,abp,Td];simp only [i_,QU,zz,c0,c1,bU,and_self]
  match q with
  |0=>exact leave J
  |q+1=>
   by_cases c1:(n:Int)<mo
   ·have c2:(n:Int)<100000:=J
    obtain⟨m2,l2,a,ka,b,kb,E2,V2,Yf,D7,hl2,i1,i2⟩:=J3 (mo:=mo) (n:=n) h0 U J (16*q+r) d1.l.length 0 false s k s' k' l J (Z?.mono J) (V'.mono J) E hk J
    have p1:Gm d0 d1 mo (n:Int) l s k=adR d0 d1 mo ((n+1:Nat):Int) m2 l2 a ka:=by
     rw [<- i1];unfold Gm RI;by_cases hz:l= []
     ·simp only [ag hz];rw [bI,abq];simp only [i!,zz,c0,c1,bx,art]
     ·simp only [af hz];rw [bI,abp];simp only [i_,zz,c0,c1,bx,art]
    have p2:HM d0 d1 mo (n:Int) l s' k'=aeP d0 d1 mo ((n+1:Nat):Int) m2 l2 b kb:=by
     rw [<- i2];unfold HM TC;by_cases hz:l= []
     ·simp only [ag hz];rw [bI,Te];simp only [QV,zz,c1,c2,bx,art]
     ·simp only [af hz];rw [bI,Td];simp only [QU,zz,c1,c2,bx,art]
    rw [p1,p2];cases m2
    ·refine⟨eDf l2,a,ka,b,kb,E2,V2.mono J,Yf.mono J,?_,rfl,rfl⟩;unfold eDf;split
     ·simp [D.l]
     ·rw [bz];omega
    ·exact J4 r q (n+1) a ka b kb l2 J V2 Yf E2 D7 J
   ·exact leave c1
end
section
variable {d0 d1:D} (h0:Wd (.sl 3) d0) (U:Wd (.sl 4) d1) {mo:Int} (hmo:mo<=60)
include h0 U hmo
theorem L0 {r:Nat} {s k:D} (Z?:Inv (1000+r) d0 d1 s k): ∃(l2 a ka b kb:D),Ig a ka b kb/\Inv r d0 d1 a ka/\Inv r d0 d1 b kb/\l2.l.length<=1000/\
 L 2650 [enc d0,enc d1,enc s,enc k,mo]=some [enc l2,enc a,enc ka]/\L 22650 [enc d0,enc d1,enc s,enc k,mo]=some [enc l2,enc b,enc kb]:=by
 obtain⟨n,S,hn,_⟩:=id Z?;have hp:=aeu S hn;have V:=TF S hn;have Vc:=Q' h0 U Z?;obtain⟨ys,hR,m,rfl,hm⟩:=Jj h0 U S hn;obtain⟨ys,hP,m',rfl,YL⟩:=CQ (k:=k) h0 U (S.g.nt J).rows U.len;by_cases M:MR d0 d1 s k
 ·have e1:m=1:=by
   rcases hm with ⟨_,z⟩|⟨z,_⟩
   ·exact absurd M z
   ·exact z
  have e2:m'=1:=by
   rcases YL with ⟨_,z⟩|⟨z,_⟩
   ·exact absurd M z
   ·exact z
  subst e1 e2
  have yG:(iV k).l.length=d1.l.length:=by rw [qG,aY];exact M.2.1
  obtain⟨l2,a,ka,b,kb,E,V2,Yf,hl,i1,i2⟩:=J4 h0 U (uA h0 U S.g J M.1).2.1.2.1 hmo r 61 0 (cS s) (iV k) (cS s) (iV k) [] rfl (Vc.mono J) (Vc.mono J) (Ig.nG _ _) yG ad;refine⟨l2,a,ka,b,kb,E,V2,Yf,hl,?_,?_⟩
  ·rw [bI,abr];simp only [i?,zz,hp,hP,eB,bx];exact i1
  ·rw [bI,Tf];simp only [QW,zz,V,hR,eB,bx];exact i2
 ·have e1:m=0:=by
   rcases hm with ⟨z,_⟩|⟨_,z⟩
   ·exact z
   ·exact absurd z M
  have e2:m'=0:=by
   rcases YL with ⟨z,_⟩|⟨_,z⟩
   ·exact z
   ·exact absurd z M
  subst e1 e2;refine⟨.i 1,cS s,iV k,cS s,iV k,Ig.nG _ _,Vc.mono J,Vc.mono J,by simp [D.l],?_,?_⟩
  ·rw [bI,abr];simp only [i?,zz,hp,hP,bU]
  ·rw [bI,Tf];simp only [QW,zz,V,hR,bU]
end
theorem Xo {d1:D} {t:Int} {x:KT} {q0 q1 q2 q3 q4:Int} (h:gw d1 t x= [q0,q1,q2,q3,q4]):(q4=0\/q4=1)/\(q4=0->q0=0):=by
 unfold gw at h
 grind
theorem I' (d1:D) (t:Int) (x:KT): ∃a b c d e,gw d1 t x= [a,b,c,d,e]:=by
 unfold gw;split
 ·split
  ·exact⟨_,_,_,_,_,rfl⟩
  ·split
   ·exact⟨_,_,_,_,_,rfl⟩
   ·split
    ·exact⟨_,_,_,_,_,rfl⟩
    ·exact⟨_,_,_,_,_,rfl⟩
 ·exact⟨_,_,_,_,_,rfl⟩
theorem n40:((4:Int)=0)=False:=ad
section
variable {d0 d1 s k:D} {j:Nat} (h0:Wd (.sl 3) d0) (U:Wd (.sl 4) d1) (Z?:Inv (j+1) d0 d1 s k)
include h0 U Z?
theorem D9 (M:MR d0 d1 s k): ∀(q t:Nat),t+q=d1.l.length->∃b:Int,L 2551 [(d1.l.length:Int),(t:Int),enc d0,enc d1,enc s,enc k]=some [b]/\L 22701 [(t:Int),enc d0,enc d1,enc s,enc k]=some [b]/\(b=0\/b=1)
 |0,t,hi=>by
  have c1: ¬(t:Int)<(d1.l.length:Int):=J
  refine⟨1,?_,?_,.inr rfl⟩
  ·rw [bI,Po];simp only [IX,zz,c1,bU]
  ·rw [bI,Hy];simp only [uq,zz,c1,bU]
 |q+1,t,hi=>by
  obtain⟨b,i1,i2,hb⟩:=D9 M q (t+1) J;have c1:(t:Int)<(d1.l.length:Int):=J
  have w:=bF (n:=t) (by have:=U.len; omega);obtain⟨a,ka,b',kb,e1,e2,e3,e4,e5,oc,A1,A2,_,_,_,_,ho⟩:=z7 h0 U Z? Z? (Ig.nG s k) (t:Int);obtain⟨n,S,hn,_⟩:=id Z?;rcases Lh (t:=(t:Int)) S hn h0 U with z|⟨x,R⟩
  ·exact absurd ⟨J,c1,M⟩ ((wM h0 U S hn _).1 z)
  have hN:=Og h0 U S hn R;have hN':=CO h0 U S hn R;obtain⟨q0,q1,q2,q3,q4,hq⟩:=I' d1 (t:Int) x;obtain⟨h4,hz⟩:=Xo hq;rw [hq] at hN hN';by_cases o:oc=0\/oc=4
  ·have o1: ¬oc=1:=J
   have o2: ¬oc=2:=J
   have o3: ¬oc=3:=J
   by_cases g:q0=4/\q3<q2
   ·obtain⟨g1,g2⟩:=g;have q41:q4=1:=J
    refine⟨0,?_,?_,.inl rfl⟩
    ·rw [bI,Po];rcases o with o|o<;>simp only [IX,zz,c1,A1,hN,o,g1,g2,n40,if_true,if_false,bU]
    ·rw [bI,Hy];simp only [uq,zz,c1,A2,hN',o1,o2,o3,q41,g1,g2,eB,if_true,if_false,bU]
   ·refine⟨b,?_,?_,hb⟩
    ·rw [bI,Po];by_cases g1:q0=4
     ·have g2: ¬q3<q2:=fun z=>g ⟨g1,z⟩;rcases o with o|o<;>simp only [IX,zz,c1,w,A1,hN,o,g1,g2,n40,if_true,if_false,bx,i1]
     ·rcases o with o|o<;>simp only [IX,zz,c1,w,A1,hN,o,g1,n40,if_true,if_false,bx,i1]
    ·rw [bI,Hy];rcases h4 with q41|q41
     ·simp only [uq,zz,c1,w,A2,hN',o1,o2,o3,q41,if_true,if_false,bx,i2]
     ·by_cases g1:q0=4
      ·have g2: ¬q3<q2:=fun z=>g ⟨g1,z⟩;simp only [uq,zz,c1,w,A2,hN',o1,o2,o3,q41,g1,g2,eB,if_true,if_false,bx,i2]
      ·simp only [uq,zz,c1,w,A2,hN',o1,o2,o3,q41,g1,eB,if_true,if_false,bx,i2]
  ·have o0: ¬oc=0:=J
   have o4: ¬oc=4:=J
   refine⟨0,?_,?_,.inl rfl⟩
   ·rw [bI,Po];simp only [IX,zz,c1,A1,hN,o0,o4,if_false,bU]
   ·rw [bI,Hy];have o':oc=2\/¬oc=2/\oc=3\/¬oc=2/\¬oc=3/\oc=1:=J
    rcases o' with o|⟨p,o⟩|⟨p,p',o⟩
    ·simp only [uq,zz,c1,A2,hN',o,if_true,bU]
    ·simp only [uq,zz,c1,A2,hN',o,wO,if_true,if_false,bU]
    ·simp only [uq,zz,c1,A2,hN',o,tL,tK,if_true,if_false,bU]
theorem xi: ∃b:Int,L 2550 [enc d0,enc d1,enc s,enc k]=some [b]/\L 22700 [enc d0,enc d1,enc s,enc k]=some [b]/\(b=0\/b=1):=by
 obtain⟨n,S,hn,_⟩:=id Z?;obtain⟨ys,hR,m,rfl,hm⟩:=Jj h0 U S hn;obtain⟨ys,hP,m',rfl,YL⟩:=CQ (k:=k) h0 U (S.g.nt J).rows U.len;by_cases M:MR d0 d1 s k
 ·have e1:m=1:=by
   rcases hm with ⟨_,z⟩|⟨z,_⟩
   ·exact absurd M z
   ·exact z
  have e2:m'=1:=by
   rcases YL with ⟨_,z⟩|⟨z,_⟩
   ·exact absurd M z
   ·exact z
  subst e1 e2;obtain⟨b,i1,i2,hb⟩:=D9 h0 U Z? M d1.l.length 0 J;rw [art] at i1 i2;refine⟨b,?_,?_,hb⟩
  ·rw [bI,abt];simp only [j_,zz,hP,eB,bx];exact i1
  ·rw [bI,Tc];simp only [QT,zz,hR,eB,bx];exact i2
 ·have e1:m=0:=by
   rcases hm with ⟨z,_⟩|⟨_,z⟩
   ·exact z
   ·exact absurd z M
  have e2:m'=0:=by
   rcases YL with ⟨z,_⟩|⟨_,z⟩
   ·exact z
   ·exact absurd z M
  subst e1 e2;refine⟨0,?_,?_,.inl rfl⟩
  ·rw [bI,abt];simp only [j_,zz,hP,bU]
  ·rw [bI,Tc];simp only [QT,zz,hR,bU]
end
theorem ans {k k':D} (hk:Wd (.sl 8) k) (OG:Wd (.sl 8) k') (h:iV k=iV k') (i:Nat):KEq (k.at (i:Int)) (k'.at (i:Int)):=by have q1:=Ou hk i;have q2:=Ou OG i;rw [h] at q1;exact⟨q1.c0.trans q2.c0.symm,⟨q1.c1.1.trans q2.c1.1.symm,fun z=>(q1.c1.2 z).trans (q2.c1.2 z).symm⟩,q1.c2.trans q2.c2.symm,q1.c3.trans q2.c3.symm,q1.c4.trans q2.c4.symm,q1.c5.trans q2.c5.symm⟩
theorem Bq {d0 d1 a ka b kb:D} {i j:Nat} (E:Ig a ka b kb) (Z?:Inv i d0 d1 a ka) (V':Inv j d0 d1 b kb):L 2050 [enc a,enc ka,enc b,enc kb]=some [1]:=by obtain⟨n,S,hn⟩:=Z?.one;obtain⟨m,S',hm⟩:=V'.one;exact CB S hn (ale S S' hn hm E.s) E.len (ans S.wk S'.wk E.k)
section
variable {d0 d1:D} (h0:Wd (.sl 3) d0) (U:Wd (.sl 4) d1)
include h0 U
theorem OU {q:D} (hq:q.l.length<=120): ∃(l a ka b kb:D),L 2400 [enc d0,enc d1,enc q]=some [enc l,enc a,enc ka]/\L 22600 [enc d0,enc d1,enc q]=some [enc l,enc b,enc kb]/\L 2450 [enc l,enc l]=some [1]/\L 2050 [enc a,enc ka,enc b,enc kb]=some [1]/\Inv 2000 d0 d1 a ka:=by
 obtain⟨s,k,er,hA,hB,G,yG⟩:=PB h0 U;have Z?:Inv 3000 d0 d1 s k:=⟨0,G,J,fun _=>by omega⟩;by_cases hr:er=0
 ·subst hr;have yG:=yG rfl;by_cases hN:0<d1.l.length
  ·obtain⟨l2,a,ka,b,kb,E2,V2,Yf,hl,g1,_⟩:=Hb h0 U hN (d:=q) J 2000 q.l.length 0 s k s k [] J (Z?.mono J) (Z?.mono J) (Ig.nG s k) yG (arZ _);obtain⟨j1,j2⟩:=g1 rfl;rw [art] at j1 j2;refine⟨l2,a,ka,b,kb,?_,?_,Bw l2 J,Bq E2 V2 Yf,V2⟩
   ·rw [bI,VW];simp only [Uv,zz,hA,bx];exact j1
   ·rw [bI,Mw];simp only [KQ,zz,hB,bx];exact j2
  ·have n0: ¬(0:Int)<(d1.l.length:Int):=J
   refine⟨.i 1,s,k,s,k,?_,?_,Bw (.i 1) ae,Bq (Ig.nG s k) Z? Z?,Z?.mono J⟩
   ·rw [bI,VW];simp only [Uv,zz,hA,bx];rw [bI,VV];by_cases z:(0:Int)<(q.l.length:Int)
    ·simp only [DD,zz,z,n0,bU]
    ·simp only [DD,zz,z,bU]
   ·rw [bI,Mw];simp only [KQ,zz,hB,bx];rw [bI,Mv];by_cases z:(0:Int)<(q.l.length:Int)
    ·simp only [we,zz,z,n0,bU]
    ·simp only [we,zz,z,bU]
 ·have N:Inv 2000 d0 d1 (.i 1) (.i 1):=by
   refine⟨0,⟨⟨.nil 7,fun x Y=>by simp [D.l] at Y⟩,.nil 8⟩,J,fun _=>by omega⟩
  refine⟨.i 1,.i 1,.i 1,.i 1,.i 1,?_,?_,Bw (.i 1) ae,Bq (Ig.nG _ _) N N,N⟩
  ·rw [bI,VW];simp only [Uv,zz,hA,af hr,bU]
  ·rw [bI,Mw];simp only [KQ,zz,hB,af hr,bU]
theorem aeo {mo:Int} (hmo:mo<=60) {s k:D} (Z?:Inv 2000 d0 d1 s k): ∃(l u ku v kv:D) (b c:Int),L 2650 [enc d0,enc d1,enc s,enc k,mo]=some [enc l,enc u,enc ku]/\L 22650 [enc d0,enc d1,enc s,enc k,mo]=some [enc l,enc v,enc kv]/\L 2450 [enc l,enc l]=some [1]/\L 2050 [enc u,enc ku,enc v,enc kv]=some [1]/\
 L 2550 [enc d0,enc d1,enc s,enc k]=some [b]/\L 22700 [enc d0,enc d1,enc s,enc k]=some [b]/\(b=0\/b=1)/\L 2550 [enc d0,enc d1,enc u,enc ku]=some [c]/\L 22700 [enc d0,enc d1,enc u,enc ku]=some [c]/\(c=0\/c=1):=by
 obtain⟨l,u,ku,v,kv,E,V2,Yf,hl,i1,i2⟩:=L0 (r:=1) h0 U hmo (Z?.mono J);obtain⟨b,b1,b2,hb⟩:=xi (j:=0) h0 U (Z?.mono J);obtain⟨c,c1,c2,hc⟩:=xi (j:=0) h0 U V2;exact⟨l,u,ku,v,kv,b,c,i1,i2,Bw l J,Bq E V2 Yf,b1,b2,hb,c1,c2,hc⟩
theorem SG {mo:Int} {s k a ka:D} (Z?:Inv 2000 d0 d1 s k) (V':Inv 2000 d0 d1 a ka):L 22551 [enc s,enc k,enc a,enc ka,0,enc d0,enc d1,mo]=some [1]:=by
 have aoy:L 22551 [enc s,enc k,enc a,enc ka,2,enc d0,enc d1,mo]=some [1]:=by
  rw [bI,My];have c1: ¬(2:Int)<2:=J
  simp only [Cq,zz,c1,bU]
 have w1:IntKind.i64.wrap ((1:Int)+1)=2:=rfl;have w0:IntKind.i64.wrap ((0:Int)+1)=1:=rfl
 have aoz:L 22551 [enc s,enc k,enc a,enc ka,1,enc d0,enc d1,mo]=some [1]:=by
  have c1:(1:Int)<2:=J
  have c2: ¬(1:Int)<0:=J
  rw [bI,My];by_cases hm:(60:Int)<mo
  ·obtain⟨l,u,ku,v,kv,b,c,i1,i2,i3,i4,b1,b2,hb,x1,x2,hc⟩:=aeo h0 U (mo:=60) J V';rcases hb with rfl|rfl<;>rcases hc with rfl|rfl
   all_goals
    simp only [Cq,zz,qb,re,c1,c2,hm,i1,i2,i3,i4,b1,b2,x1,x2,w1,eB,not_true_eq_false,and_self,and_false,false_and,not_false_eq_true,bx,aoy]
  ·obtain⟨l,u,ku,v,kv,b,c,i1,i2,i3,i4,b1,b2,hb,x1,x2,hc⟩:=aeo h0 U (mo:=mo) J V';rcases hb with rfl|rfl<;>rcases hc with rfl|rfl
   all_goals
    simp only [Cq,zz,qb,re,c1,c2,hm,i1,i2,i3,i4,b1,b2,x1,x2,w1,eB,not_true_eq_false,and_self,and_false,false_and,not_false_eq_true,bx,aoy]
 have c1:(0:Int)<2:=J
 have c2: ¬(0:Int)<0:=J
 rw [bI,My];by_cases hm:(60:Int)<mo
 ·obtain⟨l,u,ku,v,kv,b,c,i1,i2,i3,i4,b1,b2,hb,x1,x2,hc⟩:=aeo h0 U (mo:=60) J Z?;rcases hb with rfl|rfl<;>rcases hc with rfl|rfl
  all_goals
   simp only [Cq,zz,qb,re,c1,c2,hm,i1,i2,i3,i4,b1,b2,x1,x2,w0,eB,not_true_eq_false,and_self,and_false,false_and,not_false_eq_true,bx,aoz]
 ·obtain⟨l,u,ku,v,kv,b,c,i1,i2,i3,i4,b1,b2,hb,x1,x2,hc⟩:=aeo h0 U (mo:=mo) J Z?;rcases hb with rfl|rfl<;>rcases hc with rfl|rfl
  all_goals
   simp only [Cq,zz,qb,re,c1,c2,hm,i1,i2,i3,i4,b1,b2,x1,x2,w0,eB,not_true_eq_false,and_self,and_false,false_and,not_false_eq_true,bx,aoz]
theorem D0 (s k:D) (hk:k.l.length<=140737488351232) (hB:bL 3800 [enc s] vN): ∀(j i:Nat) (x:Int),i+j=k.l.length->bL 22101 [x,(k.l.length:Int),(i:Int),enc s,enc k] vN
 |0,i,x,hi=>by
  have c1: ¬(i:Int)<(k.l.length:Int):=J
  obtain⟨ys,hB,g,rfl,hg⟩:=hB;refine bL.of ?_;rw [Tq];rcases hg with rfl|rfl
  ·simp only [KX,zz,c1,hB];exact .ite (fun _=> .out sR) fun _=> .out wR
  ·simp only [KX,zz,c1,hB,eB];exact .ite (fun _=> .out sR) fun _=> .out sR
 |j+1,i,x,hi=>by
  have c1:(i:Int)<(k.l.length:Int):=J
  have c2: ¬(i:Int)<0:=J
  have w:=bF (n:=i) J;refine bL.of ?_;rw [Tq];simp only [KX,zz,c1,c2,w];exact .jump (D0 s k hk hB j (i+1) _ J)
theorem XO {s k q:D} {mo:Int} (hs:Wd (.sl 7) s) (hk:Wd (.sl 8) k):L 22550 [enc d0,enc d1,enc q,enc s,enc k,mo]=some [1]:=by
 obtain⟨ys,hG,g,rfl,hg⟩:=XM (d0:=d0) U
 have hB:bL 3800 [enc s] vN:=by refine bL.of ?_;rw [ahq];simp only [afS,zz];exact .jump (HW h0 U s hs.len s.l.length 0 _ J)
 have hM:bL 22100 [enc s,enc k] vN:=by refine bL.of ?_;rw [abB];simp only [k!,zz];exact .jump (D0 h0 U s k hk.len hB k.l.length 0 _ J)
 obtain⟨ys,hM,g',rfl,hg'⟩:=hM
 have S:Sw s k 17592186043904:=by
  refine⟨⟨hs,fun x Y=>?_⟩,hk⟩;obtain⟨o,c,d,gg,r,v,rfl,_,_,_,_,h5,h6⟩:=hs.lx x Y;have a5:=h5.room;have a6:=h6.room;have e:mU 0=8:=rfl;rw [e] at a5 a6;simp only [ep]
  grind
 have Z?:=aj9 h0 U S J
 have key: ∀qt:D,qt.l.length<=120->∃(l a ka b kb:D) (x:Int),L 2400 [enc d0,enc d1,enc qt]=some [enc l,enc a,enc ka]/\L 22600 [enc d0,enc d1,enc qt]=some [enc l,enc b,enc kb]/\L 2450 [enc l,enc l]=some [1]/\L 2050 [enc a,enc ka,enc b,enc kb]=some [1]/\L 2550 [enc d0,enc d1,enc a,enc ka]=some [x]/\L 22700 [enc d0,enc d1,enc a,enc ka]=some [x]/\(x=0\/x=1)/\L 22551 [enc s,enc k,enc a,enc ka,0,enc d0,enc d1,mo]=some [1]:=fun qt h=>by obtain⟨l,a,ka,b,kb,q1,q2,q3,q4,V2⟩:=OU h0 U h;obtain⟨x,x1,x2,Y⟩:=xi (j:=0) h0 U (V2.mono J);exact⟨l,a,ka,b,kb,x,q1,q2,q3,q4,x1,x2,Y,SG h0 U (Z?.mono J) V2⟩
 have res:bL 22550 [enc d0,enc d1,enc q,enc s,enc k,mo] (·= [1]):=by
  refine bL.of ?_;rw [abw];rcases hg with rfl|rfl
  ·rcases hg' with rfl|rfl
   ·by_cases h60:(120:Int)<(q.l.length:Int)
    ·obtain⟨l,a,ka,b,kb,x,q1,q2,q3,q4,x1,x2,Y,q5⟩:=key (fZ q (q.l.take (Int.toNat 120))) (by rw [bB,a8]; omega);rcases Y with rfl|rfl
     all_goals
      simp only [FO,zz,qb,re,hG,hM,h60,q1,q2,q3,q4,x1,x2,eB,not_true_eq_false,and_self,and_false,false_and,not_false_eq_true];exact .jump ⟨_,q5,rfl⟩
    ·obtain⟨l,a,ka,b,kb,x,q1,q2,q3,q4,x1,x2,Y,q5⟩:=key (fZ q (q.l.take (Int.toNat (q.l.length:Int)))) (by rw [bB,a8]; omega);have hle: ¬(q.l.length:Int)<(q.l.length:Int):=J
     rcases Y with rfl|rfl
     all_goals
      simp only [FO,zz,qb,re,hG,hM,h60,hle,q1,q2,q3,q4,x1,x2,eB,not_true_eq_false,and_self,and_false,false_and,not_false_eq_true];exact .jump ⟨_,q5,rfl⟩
   ·simp only [FO,zz,hG,hM,eB];exact .out rfl
  ·simp only [FO,zz,hG,eB];exact .out rfl
 obtain⟨ys,h,rfl⟩:=res;exact h
end
end Go.As.Try
end
section
namespace Go.Proofs.YtoihjjgkpialoaaGreatDoor.fnFreeTells
open Go hiding Stat
open Go.As Go.As.Try Go.Proofs Go.RowKit Go.ChangeShapes Go.WideShapes Go.ChangeAt
set_option maxRecDepth 100000
theorem aes:tV Tryz.prog D' 8 25=some [.sl 3,.sl 4]:=aa
theorem aer:tV Tryz.prog D' 8 26=some [.sl 0]:=aa
theorem aeq:tV Tryz.prog D' 8 32=some [.sl 7,.sl 8,.int .i64]:=aa
theorem HR {H:Type} {enc:TypeId×Value->H} {Z!:World} {t:TypeId} {v:Value} {d:DataW H} {p:List MemPlace} {IC:List CK} (hf:tV Tryz.prog D' 8 t=some IC) (h:DataW.Trod enc Tryz.prog Z! 0 (fun _=>true) true t v d p) (hw:(d.weights Tryz.prog t).all (·<=reachBytes)=true) :
 ∃ds,Rs (PY Z!) Z!.heap IC ds v.cells.toList:=by
 obtain⟨fuel,Y⟩:=h;exact Lj adT fuel t 8 IC v.cells.toList (d,p) hf Y hw
theorem ani:22550∈S.EA 3:=by
 have h:S.EA 3= [22550]:=aa
 rw [h];simp
theorem acz (H:Type) (enc:TypeId×Value->H) (Z!:World) (base:Nat) (args:Array Value) (ds gs:List (DataW H)) (before:List MemPlace)
 (Ix: ∀(j:Nat) t v,Tryz.f3.params[j]?=some t->args[j]?=some v->Value.okWide Tryz.prog Z! .any base t v)
 (hW:DataW.Whole enc Tryz.prog Tryz.f3.params.toList Rows.freeTellsSpec.vars false Z! args.toList ds gs before)
 (iY:(DataW.weightsEach Tryz.prog (Tryz.f3.params.toList++ []) (ds++gs)).all (·<=reachBytes)=true) (Ao:Z!.ShapedOpen Tryz.prog) :
 Calls Tryz.prog 3 args Z! fun e W'=> ∃v,e= .returned v/\Rows.freeTellsSpec.post enc Tryz.prog Tryz.f3 false true false false Z! args v W':=by
 have hW':=hW;obtain⟨p,q,hA0,hV,rfl,hfz,hnd⟩:=hW;have hA:DataW.TrodAll enc Tryz.prog Z! 0 (fun _=>true) true Tryz.f3.params.toList args.toList ds p:=hA0;rw [Tryz.params3] at hA Ix iY;obtain⟨v0,vs0,d0,ds0,p0,q0,agw,rfl,rfl,h0,r0⟩:=trodAll_cons hA;obtain⟨v1,Zw,d1,ds1,p1,q1,rfl,rfl,rfl,U,r1⟩:=trodAll_cons r0;obtain⟨v2,vs2,d2,ds2,p2,q2,rfl,rfl,rfl,Z,r2⟩:=trodAll_cons r1;obtain⟨rfl,rfl,rfl⟩:=trodAll_nil r2;obtain rfl:args= #[v0,v1,v2]:=by cases args; simp_all
 obtain⟨rfl,rfl⟩:=trodVars_none hV;clear hA0;simp only [bh] at hW';have gy: ∀x∈p0++(p1++p2),x.block<Z!.heap.size:=fun x Y=>by simpa using hW'.lt x (by simpa using Y)
 have aqh: ∀x∈p0,x.block<Z!.heap.size:=fun x Y=>gy x (ath _ Y);have aqg: ∀x∈p1,x.block<Z!.heap.size:=fun x Y=>gy x (asS _ (ath _ Y));have aqf: ∀x∈p2,x.block<Z!.heap.size:=fun x Y=>gy x (asS _ (asS _ Y))
 have akg:(d0.weights Tryz.prog 25).all (·<=reachBytes)=true/\(d1.weights Tryz.prog 26).all (·<=reachBytes)=true/\(d2.weights Tryz.prog 32).all (·<=reachBytes)=true:=by have:(DataW.weightsEach Tryz.prog [25,26,32] [d0,d1,d2]).all (·<=reachBytes)=true:=iY;simp only [DataW.weightsEach,asQ,an] at this;exact⟨this.1,this.2.1,this.2.2.1⟩
 obtain⟨es0,R0⟩:=HR aes h0 akg.1;obtain⟨es1,R1⟩:=HR aer U akg.2.1;obtain⟨es2,R2⟩:=HR aeq Z akg.2.2;obtain⟨cs0,rfl,_⟩:=okWide_struct Tryz.underlying25 (Ix 0 25 v0 rfl rfl);have e0:(Value.agg cs0).cells.toList=cs0.toList:=rfl;obtain⟨ad1,jE,aeR,rfl⟩:=okWide_slice Tryz.underlying26 (Ix 1 26 v1 rfl rfl);have e1:(Value.slice ad1 jE aeR).cells.toList= [.slice ad1 jE aeR]:=rfl;obtain⟨cs2,rfl,_⟩:=okWide_struct Tryz.underlying32 (Ix 2 32 v2 rfl rfl);have e2:(Value.agg cs2).cells.toList=cs2.toList:=rfl;rw [e0] at R0;rw [e1] at R1;rw [e2] at R2
 match es0,aqx:cs0.toList,R0 with
 |[x0,x1],[u0,u1],.cons r0_ w0 (.cons r1_ w1 .nil)=>
  obtain rfl:cs0= #[u0,u1]:=by rw [<- Array.toArray_toList (xs:=cs0),aqx]
  match es1,R1 with
  |[x2],.cons r2_ w2 .nil=>
   match es2,aqw:cs2.toList,R2 with
   |[x3,x4,x5],[u3,u4,u5],.cons r3_ w3 (.cons r4_ w4 (.cons r5_ w5 .nil))=>
    obtain rfl:cs2= #[u3,u4,u5]:=by rw [<- Array.toArray_toList (xs:=cs2),aqw]
    obtain⟨n5,rfl,h5_⟩:=w5.i;have q5:vI (PY Z!) Z!.heap (.int .i64) n5 (u5):=by cases r5_; rfl
    have hL:=(XO (q:=x2) (mo:=n5) w0 w1 w3 w4);refine (acE (g:=3) (j:=22550) (e:=(apc afc 118).ent) ani aa rfl rfl hL Ao (vals:=[.agg [u0,u1].toArray,.slice ad1 jE aeR,.agg [u3,u4,u5].toArray]) (fl:=[u0,u1,.slice ad1 jE aeR,u3,u4,u5]) (.agg _ [u0,u1] rfl (.one _ _ (.agg _ [u3,u4,u5] rfl .nil))) ⟨_,_,_,_,rfl,rfl,xx r0_,_,_,_,_,rfl,rfl,xx r1_,_,_,_,_,rfl,rfl,xx r2_,_,_,_,_,rfl,rfl,xx r3_,_,_,_,_,rfl,rfl,xx r4_,_,_,_,_,rfl,rfl,q5,rfl,rfl⟩).mono fun e W' ⟨he,hb⟩=>?_;subst he;exact⟨_,rfl,⟨_,_,_,[],_,[],hW',trodAll_mk1 (shut_bool Tryz.underlying4 _),trodAll_mk3 (Below.trod laidOut aa (of_decide_eq_true aa) h0 hb aqh) (Below.trod laidOut aa (of_decide_eq_true aa) U hb aqg) (Below.trod laidOut aa (of_decide_eq_true aa) Z hb aqf),rfl,hb.frame _,fun h=>by cases h⟩⟩
abbrev Ue:Array Value:=#[.agg #[.slice none 0 0,.slice none 0 0],.slice none 0 0,.agg #[.slice none 0 0,.slice none 0 0,.int .i64 0]]
theorem M_ (os:Os):laidMet Tryz.prog Rows.freeTellsRow.laid ((CY os).forCall (fun _ _=>0) ⟨#[],Ue,[]⟩).memory:=
 laidMet_of_run' 8 aa aa
theorem reads (os:Os) {H:Type} (enc:TypeId×Value->H): ∃places,DataW.whole enc Tryz.prog ((CY os).forCall (fun _ _=>0) ⟨#[],Ue,[]⟩).memory Tryz.f3.params.toList [] false Ue.toList 8=some ([.agg [.nil,.nil],.nil,.agg [.agg [.nil,.nil],.lit (.int .i64 0)]],[],places):=
 ⟨[],aa⟩
set_option maxHeartbeats 400000 in
theorem lifted (os:Os) (started:os.Started) (H:Type) (enc:TypeId×Value->H) (F:Stop.Interp) :
 ReturnsInHanded {} Tryz.checked os 3 .any ((OpenSpec.ofChange Rows.freeTellsSpec).preRow enc Tryz.prog Tryz.f3 Rows.freeTellsRow.domain false Rows.freeTellsRow.laid) (((OpenSpec.ofChange Rows.freeTellsSpec).at F).post enc Tryz.prog Tryz.f3 false true false false):=by
 obtain⟨places,Y⟩:=reads os enc
 refine returnsInHanded_of_row (C:=Tryz.checked) (s:=OpenSpec.ofChange Rows.freeTellsSpec) Try.own started aa Tryz.func3
  (witness_row_at (enc:=enc) (C:=Tryz.checked) false (CY os) Ue rfl aa aa aa
   (OpenSpec.preRow_of_cond 8 Y aa (fun k hk=>by cases hk) aa (M_ os))) ?_
 intro Z! base args ds gs before Ix hW _ _ iY _ Ao _;exact acz H enc Z! base args ds gs before Ix hW iY Ao
theorem iS {a b:Bool} (U:a=true) (Z:b=true):(a&&b)=true:=by rw [U,Z]; rfl
theorem closed:joinedFacts Tryz.pinned.checked.prog 3 Tryz.f3 (OpenSpec.ofChange Rows.freeTellsSpec).bare Rows.freeTellsRow=true:=(iS (iS (iS (iS (iS (iS (iS (iS (iS (iS (iS (iS (iS (iS (iS (iS (iS (iS (iS (iS (iS (iS (iS (iS (iS (iS (iS (iS (iS (iS (iS aa aa) aa) aa) aa) aa) aa) aa) aa) aa) aa) aa) aa) aa) aa) aa) aa) aa) aa) aa) aa) aa) aa) aa) aa) aa) aa) aa) aa) aa) aa) aa)
theorem said:Rows.FreeTellsSaid:=
 OpenClaim.holds_of_cond 3 Tryz.f3 rfl rfl rfl rfl rfl rfl rfl ⟨rfl,rfl,rfl,rfl,rfl⟩ rfl rfl rfl rfl rfl aa Tryz.func3 closed
  (of_decide_eq_true aa) (by unfold Func.isWrapper; first |(rw [ag (by decide +kernel)]; kernel_rfl)|(rw [af (by decide +kernel)]; exact⟨rfl,rfl⟩))
  (fun os started H enc _ F=>by rw [OpenClaim.pre_eq_preRow]; exact lifted os started H enc F)
theorem plain (f:FuncId) (fn:Func) (hf:Tryz.pinned.checked.prog.funcNamed "amanuensis/amanuensislaw17.FreeTells" = some f) (vV:Tryz.pinned.checked.prog.funcs[f]?=some fn) :
 false=Tryz.pinned.checked.prog.looks []/\∀(j:Nat) t,fn.params[j]?=some t->Tryz.pinned.checked.prog.wantsStandIn t=false:=by
 obtain rfl:f=3:=Option.some.inj ((show Tryz.prog.funcNamed "amanuensis/amanuensislaw17.FreeTells" = some 3 by kernel_rfl).symm.trans hf) |>.symm;obtain rfl:fn=Tryz.f3:=(Option.some.inj (Tryz.func3.symm.trans vV)).symm;refine⟨aa,fun j t ht=>?_⟩;rw [Tryz.params3] at ht;have hm:=as8 ht;simp only [List.mem_toArray,aH,arN,or_false] at hm;rcases hm with rfl|rfl|rfl
 all_goals exact (by kernel_rfl:Tryz.prog.wantsStandIn _=false)
theorem card:Rows.FreeTellsCardSaid:=
 Claim7.holds_tied_plain_at .later [] _ _ _ _ said (fun _ h=>by cases h) aa (fun _ h=>by cases h) freeTells_row_tie rfl ⟨rfl,rfl⟩ aa rfl plain aa
end Go.Proofs.YtoihjjgkpialoaaGreatDoor.fnFreeTells
end
